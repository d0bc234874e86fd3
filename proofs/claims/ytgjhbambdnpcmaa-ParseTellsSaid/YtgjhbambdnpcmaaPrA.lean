/- Proved on the way: Contracts: the parser's steps. The parser: what is read, and the frame of the proof. -/
import Derived.Test.YtgjhbambdnpcmaaLxI
import Derived.Test.YtgjhbambdnpcmaaGoC
set_option linter.unusedVariables false
set_option linter.unusedSimpArgs false
namespace Go.Proofs.Ytgjhbambdnpcmaa
open Go Go.Eng
theorem next_ok (s : ByteArray) (a : Int) (H : GH) (hs : s.size ≤ 140737488351232) (he : (nextI s a).err = 0) : CtV Try.prog 16 [.string s, .int .i64 a] H (.tuple #[.agg #[.int .i64 (nextI s a).k, .int .i64 (nextI s a).n, .string (nextI s a).t, .int .i64 (skI s a), .int .i64 (nextI s a).e], .int .i64 0]) := by
  have := next_fn s a H hs; rwa [tkV, if_pos he] at this
theorem next_bad (s : ByteArray) (a : Int) (H : GH) (hs : s.size ≤ 140737488351232) (he : ¬ (nextI s a).err = 0) : CtV Try.prog 16 [.string s, .int .i64 a] H (.tuple #[.agg #[.int .i64 0, .int .i64 0, .string ⟨#[]⟩, .int .i64 0, .int .i64 0], .int .i64 (nextI s a).err]) := by
  have := next_fn s a H hs; rwa [tkV, if_neg he] at this
theorem nextR_ok (s : ByteArray) (a : Int) (H : GH) (hs : s.size ≤ 140737488351232) (he : (nextI s a).err = 0) : CtV Try.prog 17 [.string s, .int .i64 a] H (.tuple #[.agg #[.int .i64 (nextI s a).k, .int .i64 (nextI s a).n, .string (nextI s a).t, .int .i64 (skI s a), .int .i64 (nextI s a).e], .int .i64 0]) := by
  have := nextR_fn s a H hs; rwa [tkV, if_pos he] at this
theorem nextR_bad (s : ByteArray) (a : Int) (H : GH) (hs : s.size ≤ 140737488351232) (he : ¬ (nextI s a).err = 0) : CtV Try.prog 17 [.string s, .int .i64 a] H (.tuple #[.agg #[.int .i64 0, .int .i64 0, .string ⟨#[]⟩, .int .i64 0, .int .i64 0], .int .i64 (nextI s a).err]) := by
  have := nextR_fn s a H hs; rwa [tkV, if_neg he] at this
theorem p_peek (s : ByteArray) (a : Int) (g : Nat) (V : Value) (H : GH) (hs : s.size ≤ 140737488351232) : CtL Try.prog 41 [.pointer (some ⟨g, 0, none⟩)] H [.blk g (.cells #[.string s, .int .i64 a, V] 45 (0, 0))]
    (fun r L' => L' = [.blk g (.cells #[.string s, .int .i64 a, V] 45 (0, 0))] ∧ r = tkV (nextI s a) (skI s a) (nextI s a).e) := by
  refine fn_intro Try.func41 rfl rfl (fun w => ?_)
  by_cases he : (nextI s a).err = 0
  · rw [tkV, if_pos he]
    repeat' (first | apply wpc_seq | apply wpe_seq | apply wpl_nil | apply wpc_region | (apply g_any; first | (apply gas; refine sas rfl rfl ?_) | (apply gal; refine sal rfl (fun _ => ?_))))
    refine wpc_held [.blk g (.cells #[.string s, .int .i64 a, V] 45 (0, 0))] 12 mixed ?_
    refine wph_takes [0, 1, 2, 3, 4, 5, 6, 7] (fuel := 5) (listed' := #[true, true, true, true, true, true, true, true, false, false, false, false, false]) (by kernel_rfl) rfl (by kernel_rfl) (HLe.refl _) (by repeat' (first | exact List.Sublist.slnil | apply List.Sublist.cons_cons | apply List.Sublist.cons)) ?_
    repeat' (first | (apply gt_any; first | (apply hmv; refine tmv rfl rfl ?_) | (apply hld; refine tld rfl (by exact rfl) (by exact rfl) rfl ?_) | (apply hfa; refine tfa rfl rfl ?_) | (apply hnc; refine tnc rfl rfl ?_)))
    refine wpt_nil ?_
    refine wph_one 8 (listed' := #[true, true, true, true, true, true, true, true, true, false, false, false, false]) (by kernel_rfl) rfl (by kernel_rfl) ?_   -- [parse.go:17] t12   := Op.call {callee=(Callee.value f16), args=[t7, t11], argTypes=[9, 3]
    repeat' (first | apply wpl_nil | (apply g_any; first | (apply gcl; first | refine scl rfl (next_ok _ _ _ hs he) rfl ?_)))
    refine wpe_hold (HLe.refl _) (by repeat' (first | exact List.Sublist.slnil | apply List.Sublist.cons_cons | apply List.Sublist.cons)) ?_
    refine wph_takes [9, 10] (fuel := 2) (listed' := #[true, true, true, true, true, true, true, true, true, true, true, false, false]) (by kernel_rfl) rfl (by kernel_rfl) (HLe.refl _) (by repeat' (first | exact List.Sublist.slnil | apply List.Sublist.cons_cons | apply List.Sublist.cons)) ?_
    repeat' (first | (apply gt_any; first | (apply hex; refine tex rfl rfl ?_)))
    refine wpt_nil ?_
    refine wph_one 11 (listed' := #[true, true, true, true, true, true, true, true, true, true, true, true, false]) (by kernel_rfl) rfl (by kernel_rfl) ?_   -- [parse.go:17] -     := Op.store 51 t2 t13
    repeat' (first | apply wpl_nil | (apply g_any; first | (apply gst; refine sst rfl rfl (by exact rfl) (by exact rfl) (by exact rfl) (by exact rfl) ?_)))
    refine wpe_hold (HLe.refl _) (by repeat' (first | exact List.Sublist.slnil | apply List.Sublist.cons_cons | apply List.Sublist.cons)) ?_
    refine wph_after [12] (fuel := 0) (listed' := #[true, true, true, true, true, true, true, true, true, true, true, true, true]) (by kernel_rfl) rfl (by kernel_rfl) ?_
    repeat' (first | (apply gt_any; first | (apply has; refine tas rfl rfl ?_)))
    refine wpt_nil ?_
    refine wph_done (by kernel_rfl) ?_
    repeat' (first | apply wpe_seq | (apply g_wpc; first | apply wpc_ret))
    exact wpe_end (.inl rfl) (by exact .cell 0 rfl rfl rfl rfl (.tmp rfl .nil)) _ (List.Sublist.cons _ (List.Sublist.refl _)) (Grow.refl _ _) ⟨rfl, rfl⟩
  · rw [tkV, if_neg he]
    repeat' (first | apply wpc_seq | apply wpe_seq | apply wpl_nil | apply wpc_region | (apply g_any; first | (apply gas; refine sas rfl rfl ?_) | (apply gal; refine sal rfl (fun _ => ?_))))
    refine wpc_held [.blk g (.cells #[.string s, .int .i64 a, V] 45 (0, 0))] 12 mixed ?_
    refine wph_takes [0, 1, 2, 3, 4, 5, 6, 7] (fuel := 5) (listed' := #[true, true, true, true, true, true, true, true, false, false, false, false, false]) (by kernel_rfl) rfl (by kernel_rfl) (HLe.refl _) (by repeat' (first | exact List.Sublist.slnil | apply List.Sublist.cons_cons | apply List.Sublist.cons)) ?_
    repeat' (first | (apply gt_any; first | (apply hmv; refine tmv rfl rfl ?_) | (apply hld; refine tld rfl (by exact rfl) (by exact rfl) rfl ?_) | (apply hfa; refine tfa rfl rfl ?_) | (apply hnc; refine tnc rfl rfl ?_)))
    refine wpt_nil ?_
    refine wph_one 8 (listed' := #[true, true, true, true, true, true, true, true, true, false, false, false, false]) (by kernel_rfl) rfl (by kernel_rfl) ?_   -- [parse.go:17] t12   := Op.call {callee=(Callee.value f16), args=[t7, t11], argTypes=[9, 3]
    repeat' (first | apply wpl_nil | (apply g_any; first | (apply gcl; first | refine scl rfl (next_bad _ _ _ hs he) rfl ?_)))
    refine wpe_hold (HLe.refl _) (by repeat' (first | exact List.Sublist.slnil | apply List.Sublist.cons_cons | apply List.Sublist.cons)) ?_
    refine wph_takes [9, 10] (fuel := 2) (listed' := #[true, true, true, true, true, true, true, true, true, true, true, false, false]) (by kernel_rfl) rfl (by kernel_rfl) (HLe.refl _) (by repeat' (first | exact List.Sublist.slnil | apply List.Sublist.cons_cons | apply List.Sublist.cons)) ?_
    repeat' (first | (apply gt_any; first | (apply hex; refine tex rfl rfl ?_)))
    refine wpt_nil ?_
    refine wph_one 11 (listed' := #[true, true, true, true, true, true, true, true, true, true, true, true, false]) (by kernel_rfl) rfl (by kernel_rfl) ?_   -- [parse.go:17] -     := Op.store 51 t2 t13
    repeat' (first | apply wpl_nil | (apply g_any; first | (apply gst; refine sst rfl rfl (by exact rfl) (by exact rfl) (by exact rfl) (by exact rfl) ?_)))
    refine wpe_hold (HLe.refl _) (by repeat' (first | exact List.Sublist.slnil | apply List.Sublist.cons_cons | apply List.Sublist.cons)) ?_
    refine wph_after [12] (fuel := 0) (listed' := #[true, true, true, true, true, true, true, true, true, true, true, true, true]) (by kernel_rfl) rfl (by kernel_rfl) ?_
    repeat' (first | (apply gt_any; first | (apply has; refine tas rfl rfl ?_)))
    refine wpt_nil ?_
    refine wph_done (by kernel_rfl) ?_
    repeat' (first | apply wpe_seq | (apply g_wpc; first | apply wpc_ret))
    exact wpe_end (.inl rfl) (by exact .cell 0 rfl rfl rfl rfl (.tmp rfl .nil)) _ (List.Sublist.cons _ (List.Sublist.refl _)) (Grow.refl _ _) ⟨rfl, rfl⟩
/-- Where one is behind a token that was taken. -/
def toI (s : ByteArray) (a : Int) : Int := if (nextI s a).err = 0 then (nextI s a).e else a
theorem p_take (s : ByteArray) (a : Int) (g : Nat) (V : Value) (H : GH) (hs : s.size ≤ 140737488351232) : CtL Try.prog 18 [.pointer (some ⟨g, 0, none⟩)] H [.blk g (.cells #[.string s, .int .i64 a, V] 45 (0, 0))]
    (fun r L' => L' = [.blk g (.cells #[.string s, .int .i64 (toI s a), V] 45 (0, 0))] ∧ r = tkV (nextI s a) (skI s a) (nextI s a).e) := by
  refine fn_intro Try.func18 rfl rfl (fun w => ?_)
  repeat' (first | apply wpc_seq | apply wpe_seq | apply wpl_nil | apply wpc_region | (apply g_any; first | (apply gmv; refine smv rfl rfl ?_) | (apply gas; refine sas rfl rfl ?_) | (apply gal; refine sal rfl (fun _ => ?_))))
  refine scq 1 rfl rfl (p_peek s a g V _ hs) rfl rfl (fun r Lq hX => ?_)
  obtain ⟨rfl, rfl⟩ := hX
  refine wnL rfl ?_
  unfold toI
  by_cases he : (nextI s a).err = 0
  · rw [if_pos he, tkV, if_pos he]
    repeat' (first | apply wpc_seq | apply wpe_seq | apply wpl_nil | apply wpc_region | (apply g_any; first | (apply gmv; refine smv rfl rfl ?_) | (apply gas; refine sas rfl rfl ?_) | (apply gld; refine sld rfl (by exact rfl) (by exact rfl) rfl ?_) | (apply gfa; refine sfa rfl rfl ?_) | (apply gex; refine sex rfl rfl ?_) | (apply gst; refine sst rfl rfl (by exact rfl) (by exact rfl) (by exact rfl) (by exact rfl) ?_) | (apply gbn; first | refine sbn rfl rfl ?_) | (apply gnc; refine snc rfl rfl ?_) | (apply gal; refine sal rfl (fun _ => ?_))) | (apply g_wpc; first | (apply g_cond; first | (refine cdD rfl (fun hb => ?_) (fun hb => ?_) <;> (try (exfalso; first | (with_reducible exact absurd (by assumption) hb) | (with_reducible exact absurd hb (by assumption)) | omega)))) | apply wpc_ret))
    exact wpe_end (.inl rfl) (by exact .cell 1 rfl rfl rfl rfl (.tmp rfl .nil)) _ (List.Sublist.cons _ (List.Sublist.cons _ (List.Sublist.refl _))) (Grow.refl _ _) ⟨rfl, rfl⟩
  · rw [if_neg he, tkV, if_neg he]
    repeat' (first | apply wpc_seq | apply wpe_seq | apply wpl_nil | apply wpc_region | (apply g_any; first | (apply gmv; refine smv rfl rfl ?_) | (apply gas; refine sas rfl rfl ?_) | (apply gld; refine sld rfl (by exact rfl) (by exact rfl) rfl ?_) | (apply gex; refine sex rfl rfl ?_) | (apply gst; refine sst rfl rfl (by exact rfl) (by exact rfl) (by exact rfl) (by exact rfl) ?_) | (apply gbn; first | refine sbn rfl rfl ?_) | (apply gal; refine sal rfl (fun _ => ?_))) | (apply g_wpc; first | (apply g_cond; first | (refine cdD rfl (fun hb => ?_) (fun hb => ?_) <;> (try (exfalso; first | (with_reducible exact absurd (by assumption) hb) | (with_reducible exact absurd hb (by assumption)) | omega)))) | apply wpc_skip | apply wpc_ret))
    exact wpe_end (.inl rfl) (by exact .cell 1 rfl rfl rfl rfl (.tmp rfl .nil)) _ (List.Sublist.cons _ (List.Sublist.cons _ (List.Sublist.refl _))) (Grow.refl _ _) ⟨rfl, rfl⟩
/-- A link's generation, and where it ends, if one stands there. -/
def lkI (s : ByteArray) (a : Int) : Option (Int × Int) :=
  if (nextI s a).err = 0 ∧ (nextI s a).k = 1 then
    (if (nextI s (nextI s a).e).err = 0 ∧ (nextI s (nextI s a).e).k = 8 ∧ (nextI s (nextI s a).e).t = ⟨#[82]⟩ then some ((nextI s a).n, (nextI s (nextI s a).e).e) else none)
  else none
theorem p_link (s : ByteArray) (a : Int) (g : Nat) (V : Value) (H : GH) (hs : s.size ≤ 140737488351232) : CtL Try.prog 42 [.pointer (some ⟨g, 0, none⟩)] H [.blk g (.cells #[.string s, .int .i64 a, V] 45 (0, 0))]
    (fun r L' => match lkI s a with
      | some x => r = .tuple #[.int .i64 x.1, .bool true] ∧ L' = [.blk g (.cells #[.string s, .int .i64 x.2, V] 45 (0, 0))]
      | none => r = .tuple #[.int .i64 0, .bool false] ∧ L' = [.blk g (.cells #[.string s, .int .i64 a, V] 45 (0, 0))]) := by
  refine fn_intro Try.func42 rfl rfl (fun w => ?_)
  repeat' (first | apply wpc_seq | apply wpe_seq | apply wpl_nil | apply wpc_region | (apply g_any; first | (apply gmv; refine smv rfl rfl ?_) | (apply gas; refine sas rfl rfl ?_) | (apply gld; refine sld rfl (by exact rfl) (by exact rfl) rfl ?_) | (apply gfa; refine sfa rfl rfl ?_) | (apply gst; refine sst rfl rfl (by exact rfl) (by exact rfl) (by exact rfl) (by exact rfl) ?_) | (apply gnc; refine snc rfl rfl ?_) | (apply gal; refine sal rfl (fun _ => ?_))))
  refine scq 1 rfl rfl (p_take s a g V _ hs) rfl rfl (fun r Lq hX => ?_)
  obtain ⟨rfl, rfl⟩ := hX
  refine wnL rfl ?_
  unfold toI
  by_cases he : (nextI s a).err = 0
  case neg =>
    have h : lkI s a = none := if_neg (fun h => he h.1)
    rw [if_neg he, tkV, if_neg he, h]
    repeat' (first | apply wpc_seq | apply wpe_seq | apply wpl_nil | apply wpc_region | (apply g_any; first | (apply gmv; refine smv rfl rfl ?_) | (apply gas; refine sas rfl rfl ?_) | (apply gld; refine sld rfl (by exact rfl) (by exact rfl) rfl ?_) | (apply gfa; refine sfa rfl rfl ?_) | (apply gex; refine sex rfl rfl ?_) | (apply gst; refine sst rfl rfl (by exact rfl) (by exact rfl) (by exact rfl) (by exact rfl) ?_) | (apply gbn; first | refine sbn rfl rfl ?_) | (apply gpk; refine spk rfl rfl ?_) | (apply gnc; refine snc rfl rfl ?_) | (apply gal; refine sal rfl (fun _ => ?_)) | (apply g_guard; first | refine wpl_skip (wants_tf rfl rfl rfl) rfl ?_ | (refine gsD rfl rfl rfl (fun hb => ?_) (fun hb => ?_) <;> (try (exfalso; first | (with_reducible exact absurd (by assumption) hb) | (with_reducible exact absurd hb (by assumption)) | omega))))) | (apply g_wpc; first | (apply g_cond; first | refine cdF rfl ?_) | apply wpc_skip | apply wpc_ret))
    exact wpe_end (.inl rfl) (by exact .tmp rfl (.tmp rfl .nil)) _ (List.Sublist.cons _ (List.Sublist.cons _ (List.Sublist.refl _))) (Grow.refl _ _) ⟨rfl, rfl⟩
  rw [if_pos he, tkV, if_pos he]
  by_cases hk : (nextI s a).k = 1
  case neg =>
    have h : lkI s a = none := if_neg (fun h => hk h.2)
    rw [h]
    repeat' (first | apply wpc_seq | apply wpe_seq | apply wpl_nil | apply wpc_region | (apply g_any; first | (apply gmv; refine smv rfl rfl ?_) | (apply gas; refine sas rfl rfl ?_) | (apply gld; refine sld rfl (by exact rfl) (by exact rfl) rfl ?_) | (apply gfa; refine sfa rfl rfl ?_) | (apply gex; refine sex rfl rfl ?_) | (apply gst; refine sst rfl rfl (by exact rfl) (by exact rfl) (by exact rfl) (by exact rfl) ?_) | (apply gbn; first | refine sbn rfl rfl ?_) | (apply gpk; refine spk rfl rfl ?_) | (apply gnc; refine snc rfl rfl ?_) | (apply gal; refine sal rfl (fun _ => ?_)) | (apply g_guard; first | refine wpl_wanted (wants_tt rfl rfl rfl) ?_ | (refine gsD rfl rfl rfl (fun hb => ?_) (fun hb => ?_) <;> (try (exfalso; first | (with_reducible exact absurd (by assumption) hb) | (with_reducible exact absurd hb (by assumption)) | omega))))) | (apply g_wpc; first | (apply g_cond; first | (refine cdD rfl (fun hb => ?_) (fun hb => ?_) <;> (try (exfalso; first | (with_reducible exact absurd (by assumption) hb) | (with_reducible exact absurd hb (by assumption)) | omega)))) | apply wpc_skip | apply wpc_ret))
    exact wpe_end (.inl rfl) (by exact .tmp rfl (.tmp rfl .nil)) _ (List.Sublist.cons _ (List.Sublist.cons _ (List.Sublist.refl _))) (Grow.refl _ _) ⟨rfl, rfl⟩
  repeat' (first | apply wpc_seq | apply wpe_seq | apply wpl_nil | apply wpc_region | (apply g_any; first | (apply gmv; refine smv rfl rfl ?_) | (apply gas; refine sas rfl rfl ?_) | (apply gld; refine sld rfl (by exact rfl) (by exact rfl) rfl ?_) | (apply gfa; refine sfa rfl rfl ?_) | (apply gex; refine sex rfl rfl ?_) | (apply gst; refine sst rfl rfl (by exact rfl) (by exact rfl) (by exact rfl) (by exact rfl) ?_) | (apply gbn; first | refine sbn rfl rfl ?_) | (apply gpk; refine spk rfl rfl ?_) | (apply gnc; refine snc rfl rfl ?_) | (apply gal; refine sal rfl (fun _ => ?_)) | (apply g_guard; first | refine wpl_wanted (wants_tt rfl rfl rfl) ?_ | (refine gsD rfl rfl rfl (fun hb => ?_) (fun hb => ?_) <;> (try (exfalso; first | (with_reducible exact absurd (by assumption) hb) | (with_reducible exact absurd hb (by assumption)) | omega))))) | (apply g_wpc; first | (apply g_cond; first | (refine cdD rfl (fun hb => ?_) (fun hb => ?_) <;> (try (exfalso; first | (with_reducible exact absurd (by assumption) hb) | (with_reducible exact absurd hb (by assumption)) | omega))))))
  refine scq 2 rfl rfl (p_take s (nextI s a).e g V _ hs) rfl rfl (fun r Lq hX => ?_)
  obtain ⟨rfl, rfl⟩ := hX
  refine wnL rfl ?_
  unfold toI
  have h1 : lkI s a = (if (nextI s (nextI s a).e).err = 0 ∧ (nextI s (nextI s a).e).k = 8 ∧ (nextI s (nextI s a).e).t = ⟨#[82]⟩ then some ((nextI s a).n, (nextI s (nextI s a).e).e) else none) := if_pos ⟨he, hk⟩
  by_cases hf : (nextI s (nextI s a).e).err = 0
  case neg =>
    have h : lkI s a = none := h1.trans (if_neg (fun h => hf h.1))
    rw [if_neg hf, tkV, if_neg hf, h]
    repeat' (first | apply wpc_seq | apply wpe_seq | apply wpl_nil | apply wpc_region | (apply g_any; first | (apply gmv; refine smv rfl rfl ?_) | (apply gas; refine sas rfl rfl ?_) | (apply gld; refine sld rfl (by exact rfl) (by exact rfl) rfl ?_) | (apply gfa; refine sfa rfl rfl ?_) | (apply gex; refine sex rfl rfl ?_) | (apply gst; refine sst rfl rfl (by exact rfl) (by exact rfl) (by exact rfl) (by exact rfl) ?_) | (apply gbn; first | refine sbn rfl rfl ?_) | (apply gpk; refine spk rfl rfl ?_) | (apply gnc; refine snc rfl rfl ?_) | (apply gal; refine sal rfl (fun _ => ?_)) | (apply g_guard; first | refine wpl_skip (wants_tf rfl rfl rfl) rfl ?_ | (refine gsD rfl rfl rfl (fun hb => ?_) (fun hb => ?_) <;> (try (exfalso; first | (with_reducible exact absurd (by assumption) hb) | (with_reducible exact absurd hb (by assumption)) | omega))))) | (apply g_wpc; first | (apply g_cond; first | refine cdF rfl ?_) | apply wpc_skip | apply wpc_ret))
    exact wpe_end (.inl rfl) (by exact .tmp rfl (.tmp rfl .nil)) _ (List.Sublist.cons _ (List.Sublist.cons _ (List.Sublist.cons _ (List.Sublist.refl _)))) (Grow.refl _ _) ⟨rfl, rfl⟩
  rw [if_pos hf, tkV, if_pos hf]
  repeat' (first | apply wpc_seq | apply wpe_seq | apply wpl_nil | apply wpc_region | (apply g_any; first | (apply gmv; refine smv rfl rfl ?_) | (apply gas; refine sas rfl rfl ?_) | (apply gld; refine sld rfl (by exact rfl) (by exact rfl) rfl ?_) | (apply gfa; refine sfa rfl rfl ?_) | (apply gex; refine sex rfl rfl ?_) | (apply gst; refine sst rfl rfl (by exact rfl) (by exact rfl) (by exact rfl) (by exact rfl) ?_) | (apply gbn; first | refine sbn rfl rfl ?_) | (apply gpk; refine spk rfl rfl ?_) | (apply gnc; refine snc rfl rfl ?_) | (apply gal; refine sal rfl (fun _ => ?_)) | (apply g_guard; first | refine wpl_wanted (wants_tt rfl rfl rfl) ?_ | refine wpl_skip (wants_tf rfl rfl rfl) rfl ?_ | (refine gsD rfl rfl rfl (fun hb => ?_) (fun hb => ?_) <;> (try (exfalso; first | (with_reducible exact absurd (by assumption) hb) | (with_reducible exact absurd hb (by assumption)) | omega))))) | (apply g_wpc; first | (apply g_cond; first | refine cdF rfl ?_ | (refine cdD rfl (fun hb => ?_) (fun hb => ?_) <;> (try (exfalso; first | (with_reducible exact absurd (by assumption) hb) | (with_reducible exact absurd hb (by assumption)) | omega)))) | apply wpc_skip | apply wpc_ret) | (apply g_wpe; first | apply wpe_then_ret))
  · have h : lkI s a = some ((nextI s a).n, (nextI s (nextI s a).e).e) := h1.trans (if_pos ⟨hf, by assumption, by assumption⟩)
    rw [h]
    exact wpe_end (.inl rfl) (by exact .tmp rfl (.tmp rfl .nil)) _ (List.Sublist.cons _ (List.Sublist.cons _ (List.Sublist.cons _ (List.Sublist.refl _)))) (Grow.refl _ _) ⟨rfl, rfl⟩
  · have h : lkI s a = none := h1.trans (if_neg (fun h => absurd h.2.2 (by assumption)))
    rw [h]
    exact wpe_end (.inl rfl) (by exact .tmp rfl (.tmp rfl .nil)) _ (List.Sublist.cons _ (List.Sublist.cons _ (List.Sublist.cons _ (List.Sublist.refl _)))) (Grow.refl _ _) ⟨rfl, rfl⟩
  · have h : lkI s a = none := h1.trans (if_neg (fun h => absurd h.2.1 (by assumption)))
    rw [h]
    exact wpe_end (.inl rfl) (by exact .tmp rfl (.tmp rfl .nil)) _ (List.Sublist.cons _ (List.Sublist.cons _ (List.Sublist.cons _ (List.Sublist.refl _)))) (Grow.refl _ _) ⟨rfl, rfl⟩
/-- What is read: the value, where it ends, the error. -/
abbrev PR := Tr × Int × Int
def zeroT : Tr := .mk 0 0 0 ⟨#[]⟩ [] []
def failP (e : Int) : PR := (zeroT, 0, e)
/-- A value's cells, where it holds no others. -/
def leafV (k n g : Int) (t : ByteArray) : Value := .agg #[.int .i64 k, .int .i64 n, .int .i64 g, .string t, .slice none 0 0, .slice none 0 0]
theorem p_none (e : Int) (H : GH) : CtV Try.prog 15 [.int .i64 e] H (.tuple #[.agg #[.int .i64 0, .int .i64 0, .int .i64 0, .string ⟨#[]⟩, .slice none 0 0, .slice none 0 0], .int .i64 e]) := by
  refine fn_intro Try.func15 rfl rfl (fun w => ?_)
  repeat' (first | apply wpc_seq | apply wpe_seq | apply wpl_nil | apply wpc_region | (apply g_any; first | (apply gmv; refine smv rfl rfl ?_) | (apply gas; refine sas rfl rfl ?_) | (apply gst; refine sst rfl rfl (by exact rfl) (by exact rfl) (by exact rfl) (by exact rfl) ?_) | (apply gal; refine sal rfl (fun _ => ?_)) | (apply gbd; refine sbd rfl rfl rfl ?_)) | (apply g_wpc; first | apply wpc_ret))
  exact end2 (by exact .cell 0 rfl rfl rfl rfl (.tmp rfl .nil)) rfl
/-- What a number begins, that ends there. -/
def nuI (s : ByteArray) (n a : Int) : PR := match lkI s a with
  | none => (.mk 2 n 0 ⟨#[]⟩ [] [], a, 0)
  | some x => if n < 1 ∨ 8388607 < n ∨ x.1 < 0 ∨ 65535 < x.1 then failP 3 else (.mk 7 n x.1 ⟨#[]⟩ [] [], x.2, 0)
def topV : PR → Value
  | (.mk k n g t _ _, _, err) => .tuple #[.agg #[.int .i64 k, .int .i64 n, .int .i64 g, .string t, .slice none 0 0, .slice none 0 0], .int .i64 err]
theorem p_number (s : ByteArray) (n a : Int) (g : Nat) (V : Value) (H : GH) (hs : s.size ≤ 140737488351232) : CtL Try.prog 19 [.pointer (some ⟨g, 0, none⟩), .int .i64 n] H [.blk g (.cells #[.string s, .int .i64 a, V] 45 (0, 0))]
    (fun r L' => r = topV (nuI s n a) ∧ ∃ a', L' = [.blk g (.cells #[.string s, .int .i64 a', V] 45 (0, 0))] ∧ ((nuI s n a).2.2 = 0 → a' = (nuI s n a).2.1)) := by
  refine fn_intro Try.func19 rfl rfl (fun w => ?_)
  repeat' (first | apply wpc_seq | apply wpe_seq | apply wpl_nil | apply wpc_region | (apply g_any; first | (apply gmv; refine smv rfl rfl ?_) | (apply gas; refine sas rfl rfl ?_) | (apply gal; refine sal rfl (fun _ => ?_))))
  refine scq 1 rfl rfl (p_link s a g V _ hs) rfl rfl (fun r Lq hX => ?_)
  cases h : lkI s a with
  | none =>
    rw [h] at hX
    dsimp only at hX
    obtain ⟨rfl, rfl⟩ := hX
    refine wnL rfl ?_
    repeat' (first | apply wpc_seq | apply wpe_seq | apply wpl_nil | apply wpc_region | (apply g_any; first | (apply gmv; refine smv rfl rfl ?_) | (apply gas; refine sas rfl rfl ?_) | (apply gex; refine sex rfl rfl ?_) | (apply gst; refine sst rfl rfl (by exact rfl) (by exact rfl) (by exact rfl) (by exact rfl) ?_) | (apply gun; refine sun rfl rfl ?_) | (apply gbd; refine sbd rfl rfl rfl ?_)) | (apply g_wpc; first | apply wpc_block | (apply g_cond; first | refine cdT rfl ?_) | apply wpc_ret) | (apply g_wpe; first | apply wpe_then_ret | apply wpe_block_ret))
    rw [show nuI s n a = (.mk 2 n 0 ⟨#[]⟩ [] [], a, 0) by rw [nuI, h]]
    exact wpe_end (.inl rfl) (by exact .cell 0 rfl rfl rfl rfl (.tmp rfl .nil)) _ (List.Sublist.cons _ (List.Sublist.refl _)) (Grow.refl _ _) ⟨rfl, _, rfl, fun _ => rfl⟩
  | some x =>
    rw [h] at hX
    dsimp only at hX
    obtain ⟨rfl, rfl⟩ := hX
    refine wnL rfl ?_
    have h1 : nuI s n a = if n < 1 ∨ 8388607 < n ∨ x.1 < 0 ∨ 65535 < x.1 then failP 3 else (.mk 7 n x.1 ⟨#[]⟩ [] [], x.2, 0) := by rw [nuI, h]
    repeat' (first | apply wpc_seq | apply wpe_seq | apply wpl_nil | apply wpc_region | (apply g_any; first | (apply gmv; refine smv rfl rfl ?_) | (apply gas; refine sas rfl rfl ?_) | (apply gex; refine sex rfl rfl ?_) | (apply gst; refine sst rfl rfl (by exact rfl) (by exact rfl) (by exact rfl) (by exact rfl) ?_) | (apply gbn; first | refine sbn rfl rfl ?_) | (apply gcl; first | refine scl rfl (p_none _ _) rfl ?_) | (apply gpk; refine spk rfl rfl ?_) | (apply gun; refine sun rfl rfl ?_) | (apply gbd; refine sbd rfl rfl rfl ?_) | (apply g_guard; first | refine wpl_wanted (wants_ff rfl rfl rfl) ?_ | refine wpl_skip (wants_ft rfl rfl rfl) rfl ?_ | (refine gsD rfl rfl rfl (fun hb => ?_) (fun hb => ?_) <;> (try (exfalso; first | (with_reducible exact absurd (by assumption) hb) | (with_reducible exact absurd hb (by assumption)) | omega))))) | (apply g_wpc; first | apply wpc_block | (apply g_cond; first | refine cdT rfl ?_ | refine cdF rfl ?_ | (refine cdD rfl (fun hb => ?_) (fun hb => ?_) <;> (try (exfalso; first | (with_reducible exact absurd (by assumption) hb) | (with_reducible exact absurd hb (by assumption)) | omega)))) | apply wpc_skip | apply wpc_ret) | (apply g_wpe; first | apply wpe_block | apply wpe_then_ret | apply wpe_block_ret))
    all_goals first
      | (rw [show nuI s n a = failP 3 from h1.trans (if_pos (by omega))]; exact wpe_end (.inl rfl) (by exact .cell 0 rfl rfl rfl rfl (.tmp rfl .nil)) _ (List.Sublist.cons _ (List.Sublist.refl _)) (Grow.refl _ _) ⟨rfl, _, rfl, fun h => absurd h (by decide)⟩)
      | (rw [show nuI s n a = (.mk 7 n x.1 ⟨#[]⟩ [] [], x.2, 0) from h1.trans (if_neg (by omega))]; exact wpe_end (.inl rfl) (by exact .cell 0 rfl rfl rfl rfl (.tmp rfl .nil)) _ (List.Sublist.cons _ (List.Sublist.refl _)) (Grow.refl _ _) ⟨rfl, _, rfl, fun _ => rfl⟩)
/-- What a word means. -/
def woI (t : ByteArray) (a : Int) : PR := if t = ⟨#[116, 114, 117, 101]⟩ then (.mk 1 1 0 ⟨#[]⟩ [] [], a, 0) else if t = ⟨#[102, 97, 108, 115, 101]⟩ then (.mk 1 0 0 ⟨#[]⟩ [] [], a, 0) else if t = ⟨#[110, 117, 108, 108]⟩ then (zeroT, a, 0) else failP 4
theorem p_word (t : ByteArray) (a : Int) (H : GH) : CtV Try.prog 20 [.string t] H (topV (woI t a)) := by
  refine fn_intro Try.func20 rfl rfl (fun w => ?_)
  repeat' (first | apply wpc_seq | apply wpe_seq | apply wpl_nil | apply wpc_region | (apply g_any; first | (apply gmv; refine smv rfl rfl ?_) | (apply gas; refine sas rfl rfl ?_) | (apply gex; refine sex rfl rfl ?_) | (apply gst; refine sst rfl rfl (by exact rfl) (by exact rfl) (by exact rfl) (by exact rfl) ?_) | (apply gbn; first | refine sbn rfl rfl ?_) | (apply gcl; first | refine scl rfl (p_none _ _) rfl ?_) | (apply gal; refine sal rfl (fun _ => ?_)) | (apply gbd; refine sbd rfl rfl rfl ?_)) | (apply g_wpc; first | apply wpc_block | (apply g_cond; first | (refine cdD rfl (fun hb => ?_) (fun hb => ?_) <;> (try (exfalso; first | (with_reducible exact absurd (by assumption) hb) | (with_reducible exact absurd hb (by assumption)) | omega)))) | apply wpc_skip | apply wpc_ret) | (apply g_wpe; first | apply wpe_block | apply wpe_then_ret | apply wpe_block_ret))
  all_goals (refine end2 (by exact .cell 0 rfl rfl rfl rfl (.tmp rfl .nil)) ?_)
  · rw [show woI t a = _ from if_pos (by assumption)]; rfl
  · rw [show woI t a = _ from (if_neg (by assumption)).trans (if_pos (by assumption))]; rfl
  · rw [show woI t a = _ from (if_neg (by assumption)).trans ((if_neg (by assumption)).trans (if_pos (by assumption)))]; rfl
  · rw [show woI t a = _ from (if_neg (by assumption)).trans ((if_neg (by assumption)).trans (if_neg (by assumption)))]; rfl
end Go.Proofs.Ytgjhbambdnpcmaa
set_option linter.unusedVariables false
set_option linter.unusedSimpArgs false
namespace Go.Proofs.Ytgjhbambdnpcmaa
open Go Go.Eng
mutual
/-- A value, within so many others. -/
def rdN (s : ByteArray) : Nat → Int → Int → PR
  | 0, _, _ => failP 0
  | n + 1, a, w =>
    if ¬ (nextI s a).err = 0 then failP (nextI s a).err
    else if (nextI s a).k = 0 then failP 5
    else if (nextI s a).k = 1 then nuI s (nextI s a).n (nextI s a).e
    else if (nextI s a).k = 2 then (.mk 3 0 0 (nextI s a).t [] [], (nextI s a).e, 0)
    else if (nextI s a).k = 3 then (.mk 4 0 0 (nextI s a).t [] [], (nextI s a).e, 0)
    else if (nextI s a).k = 8 then woI (nextI s a).t (nextI s a).e
    else if (nextI s a).k = 4 then (if 64 ≤ w then failP 9 else lsN s n (nextI s a).e (w + 1) [])
    else if (nextI s a).k = 6 then (if 64 ≤ w then failP 9 else dcN s n (nextI s a).e (w + 1) [])
    else failP 4
/-- The rest of a list. -/
def lsN (s : ByteArray) : Nat → Int → Int → List Tr → PR
  | 0, _, _, _ => failP 0
  | n + 1, a, w, l =>
    if ¬ (nextI s a).err = 0 then failP (nextI s a).err
    else if (nextI s a).k = 5 then (.mk 5 0 0 ⟨#[]⟩ l [], (nextI s a).e, 0)
    else if ¬ (rdN s n a w).2.2 = 0 then failP (rdN s n a w).2.2
    else lsN s n (rdN s n a w).2.1 w (l ++ [(rdN s n a w).1])
/-- The rest of a dictionary. -/
def dcN (s : ByteArray) : Nat → Int → Int → List (ByteArray × Tr) → PR
  | 0, _, _, _ => failP 0
  | n + 1, a, w, d =>
    if ¬ (nextI s a).err = 0 then failP (nextI s a).err
    else if (nextI s a).k = 0 then failP 5
    else if (nextI s a).k = 7 then (.mk 6 0 0 ⟨#[]⟩ [] d, (nextI s a).e, 0)
    else if ¬ (nextI s a).k = 2 then failP 4
    else if (d.any fun p => decide ((nextI s a).t = p.1)) = true then failP 11
    else if ¬ (rdN s n (nextI s a).e w).2.2 = 0 then failP (rdN s n (nextI s a).e w).2.2
    else dcN s n (rdN s n (nextI s a).e w).2.1 w (d ++ [((nextI s a).t, (rdN s n (nextI s a).e w).1)])
end
theorem nuI_range {s : ByteArray} {n a : Int} (h0 : 0 ≤ a) (h1 : a ≤ s.size) (he : (nuI s n a).2.2 = 0) : a ≤ (nuI s n a).2.1 ∧ (nuI s n a).2.1 ≤ s.size := by
  unfold nuI at he ⊢
  cases h : lkI s a with
  | none => dsimp only; omega
  | some x =>
    rw [h] at he
    dsimp only at he ⊢
    by_cases c : n < 1 ∨ 8388607 < n ∨ x.1 < 0 ∨ 65535 < x.1
    · rw [if_pos c] at he; exact absurd he (by decide)
    · rw [if_neg c]
      unfold lkI at h
      by_cases c1 : (nextI s a).err = 0 ∧ (nextI s a).k = 1
      · rw [if_pos c1] at h
        by_cases c2 : (nextI s (nextI s a).e).err = 0 ∧ (nextI s (nextI s a).e).k = 8 ∧ (nextI s (nextI s a).e).t = ⟨#[82]⟩
        · rw [if_pos c2] at h
          obtain rfl := Option.some.inj h
          have r1 := nextI_range c1.1
          have r2 := nextI_range c2.1
          dsimp only
          omega
        · rw [if_neg c2] at h; cases h
      · rw [if_neg c1] at h; cases h
theorem woI_range {t : ByteArray} {a : Int} (he : (woI t a).2.2 = 0) : (woI t a).2.1 = a := by
  unfold woI at he ⊢
  by_cases c1 : t = ⟨#[116, 114, 117, 101]⟩
  · rw [if_pos c1]
  rw [if_neg c1] at he ⊢
  by_cases c2 : t = ⟨#[102, 97, 108, 115, 101]⟩
  · rw [if_pos c2]
  rw [if_neg c2] at he ⊢
  by_cases c3 : t = ⟨#[110, 117, 108, 108]⟩
  · rw [if_pos c3]
  rw [if_neg c3] at he
  exact absurd he (by decide)
theorem rd_range (s : ByteArray) : ∀ n : Nat, (∀ a w : Int, a ≤ s.size → (rdN s n a w).2.2 = 0 → 0 < n → a < (rdN s n a w).2.1 ∧ (rdN s n a w).2.1 ≤ s.size ∧ 0 ≤ (rdN s n a w).2.1 ∨ 2 * (s.size - a) + 1 > n) ∧ (∀ (a w : Int) l, 0 ≤ a → a ≤ s.size → (lsN s n a w l).2.2 = 0 → a ≤ (lsN s n a w l).2.1 ∧ (lsN s n a w l).2.1 ≤ s.size ∨ 2 * (s.size - a) + 2 > n) ∧ (∀ (a w : Int) d, 0 ≤ a → a ≤ s.size → (dcN s n a w d).2.2 = 0 → a ≤ (dcN s n a w d).2.1 ∧ (dcN s n a w d).2.1 ≤ s.size ∨ 2 * (s.size - a) + 2 > n)
  | 0 => ⟨fun a w _ _ h => absurd h (by decide), fun a w l h0 h1 _ => .inr (by omega), fun a w d h0 h1 _ => .inr (by omega)⟩
  | n + 1 => by
    obtain ⟨ih1, ih2, ih3⟩ := rd_range s n
    refine ⟨fun a w ha he _ => ?_, fun a w l h0 h1 he => ?_, fun a w d h0 h1 he => ?_⟩
    · rw [rdN] at he ⊢
      by_cases c0 : ¬ (nextI s a).err = 0
      · rw [if_pos c0] at he; exact absurd he c0
      rw [if_neg c0] at he ⊢
      have hr := nextI_range (s := s) (a := a) (by omega)
      by_cases c1 : (nextI s a).k = 0
      · rw [if_pos c1] at he; exact absurd he (by decide)
      rw [if_neg c1] at he ⊢
      by_cases c2 : (nextI s a).k = 1
      · rw [if_pos c2] at he ⊢
        have := nuI_range (by omega) (by omega) he
        omega
      rw [if_neg c2] at he ⊢
      by_cases c3 : (nextI s a).k = 2
      · rw [if_pos c3]; dsimp only; omega
      rw [if_neg c3] at he ⊢
      by_cases c4 : (nextI s a).k = 3
      · rw [if_pos c4]; dsimp only; omega
      rw [if_neg c4] at he ⊢
      by_cases c5 : (nextI s a).k = 8
      · rw [if_pos c5] at he ⊢
        have := woI_range he
        omega
      rw [if_neg c5] at he ⊢
      by_cases c6 : (nextI s a).k = 4
      · rw [if_pos c6] at he ⊢
        by_cases d : 64 ≤ w
        · rw [if_pos d] at he; exact absurd he (by decide)
        rw [if_neg d] at he ⊢
        have := ih2 _ _ _ (by omega) (by omega) he
        omega
      rw [if_neg c6] at he ⊢
      by_cases c7 : (nextI s a).k = 6
      · rw [if_pos c7] at he ⊢
        by_cases d : 64 ≤ w
        · rw [if_pos d] at he; exact absurd he (by decide)
        rw [if_neg d] at he ⊢
        have := ih3 _ _ _ (by omega) (by omega) he
        omega
      rw [if_neg c7] at he
      exact absurd he (by decide)
    · rw [lsN] at he ⊢
      by_cases c0 : ¬ (nextI s a).err = 0
      · rw [if_pos c0] at he; exact absurd he c0
      rw [if_neg c0] at he ⊢
      have hr := nextI_range (s := s) (a := a) (by omega)
      by_cases c1 : (nextI s a).k = 5
      · rw [if_pos c1]; dsimp only; omega
      rw [if_neg c1] at he ⊢
      by_cases c2 : ¬ (rdN s n a w).2.2 = 0
      · rw [if_pos c2] at he; exact absurd he c2
      rw [if_neg c2] at he ⊢
      by_cases hn : 2 * (s.size - a) + 2 > n + 1
      · exact .inr (by omega)
      have r1 := ih1 a w h1 (by omega) (by omega)
      have := ih2 _ _ _ (by omega) (by omega) he
      omega
    · rw [dcN] at he ⊢
      by_cases c0 : ¬ (nextI s a).err = 0
      · rw [if_pos c0] at he; exact absurd he c0
      rw [if_neg c0] at he ⊢
      have hr := nextI_range (s := s) (a := a) (by omega)
      by_cases c1 : (nextI s a).k = 0
      · rw [if_pos c1] at he; exact absurd he (by decide)
      rw [if_neg c1] at he ⊢
      by_cases c2 : (nextI s a).k = 7
      · rw [if_pos c2]; dsimp only; omega
      rw [if_neg c2] at he ⊢
      by_cases c3 : ¬ (nextI s a).k = 2
      · rw [if_pos c3] at he; exact absurd he (by decide)
      rw [if_neg c3] at he ⊢
      by_cases c4 : (d.any fun p => decide ((nextI s a).t = p.1)) = true
      · rw [if_pos c4] at he; exact absurd he (by decide)
      rw [if_neg c4] at he ⊢
      by_cases c5 : ¬ (rdN s n (nextI s a).e w).2.2 = 0
      · rw [if_pos c5] at he; exact absurd he c5
      rw [if_neg c5] at he ⊢
      by_cases hn : 2 * (s.size - a) + 2 > n + 1
      · exact .inr (by omega)
      have r1 := ih1 (nextI s a).e w (by omega) (by omega) (by omega)
      have := ih3 _ _ _ (by omega) (by omega) he
      omega
/-- What is known when a value was read. -/
def OutP (s : ByteArray) (g : Nat) (w : Int) (res : PR) (r : Value) (H' : GH) (L' : OL) : Prop :=
  ∃ cs, r = .tuple #[.agg cs.toArray, .int .i64 res.2.2] ∧ res.1.rep H' cs ∧ ∃ a', L' = [.blk g (.cells #[.string s, .int .i64 a', .int .i64 w] 45 (0, 0))] ∧ (res.2.2 = 0 → a' = res.2.1)
def RD (s : ByteArray) (n : Nat) : Prop := ∀ (a w : Int) (g : Nat) (H : GH), 0 ≤ w → w ≤ 64 → 2 * (s.size - a) + 1 ≤ n → 0 < n → Ct Try.prog 11 [.pointer (some ⟨g, 0, none⟩)] H [.blk g (.cells #[.string s, .int .i64 a, .int .i64 w] 45 (0, 0))] (OutP s g w (rdN s n a w))
def LS (s : ByteArray) (n : Nat) : Prop := ∀ (a w : Int) (g : Nat) (H : GH), 0 ≤ w → w ≤ 64 → 0 ≤ a → a ≤ s.size → 2 * (s.size - a) + 2 ≤ n → Ct Try.prog 22 [.pointer (some ⟨g, 0, none⟩)] H [.blk g (.cells #[.string s, .int .i64 a, .int .i64 w] 45 (0, 0))] (OutP s g w (lsN s n a w []))
def DC (s : ByteArray) (n : Nat) : Prop := ∀ (a w : Int) (g : Nat) (H : GH), 0 ≤ w → w ≤ 64 → 0 ≤ a → a ≤ s.size → 2 * (s.size - a) + 2 ≤ n → Ct Try.prog 23 [.pointer (some ⟨g, 0, none⟩)] H [.blk g (.cells #[.string s, .int .i64 a, .int .i64 w] 45 (0, 0))] (OutP s g w (dcN s n a w []))
end Go.Proofs.Ytgjhbambdnpcmaa
