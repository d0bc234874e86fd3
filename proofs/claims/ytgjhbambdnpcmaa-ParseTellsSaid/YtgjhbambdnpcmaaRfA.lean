/- Proved on the way: The reference's parser: links, numbers, words. -/
import Derived.Test.YtgjhbambdnpcmaaPrC
set_option linter.unusedVariables false
set_option linter.unusedSimpArgs false
namespace Go.Proofs.Ytgjhbambdnpcmaa
open Go Go.Eng
theorem r_link (s : ByteArray) (k n a e : Int) (t : ByteArray) (H : GH) (hs : s.size ≤ 140737488351232) : CtV Try.prog 50 [.string s, .agg #[.int .i64 k, .int .i64 n, .string t, .int .i64 a, .int .i64 e]] H
    (match lkI s e with
      | some x => .tuple #[.agg #[.int .i64 7, .int .i64 n, .int .i64 x.1, .string ⟨#[]⟩, .slice none 0 0, .slice none 0 0], .int .i64 x.2, .bool true]
      | none => .tuple #[.agg #[.int .i64 0, .int .i64 0, .int .i64 0, .string ⟨#[]⟩, .slice none 0 0, .slice none 0 0], .int .i64 0, .bool false]) := by
  refine fn_intro Try.func50 rfl rfl (fun w => ?_)
  by_cases c0 : (nextI s e).err = 0
  case neg =>
    rw [show lkI s e = none from if_neg (fun h => c0 h.1)]
    repeat' (first | apply wpc_seq | apply wpe_seq | apply wpl_nil | apply wpc_region | (apply g_any; first | (apply gmv; refine smv rfl rfl ?_) | (apply gas; refine sas rfl rfl ?_) | (apply gld; refine sld rfl (by exact rfl) (by exact rfl) rfl ?_) | (apply gfa; refine sfa rfl rfl ?_) | (apply gex; refine sex rfl rfl ?_) | (apply gst; refine sst rfl rfl (by exact rfl) (by exact rfl) (by exact rfl) (by exact rfl) ?_) | (apply gbn; first | refine sbn rfl rfl ?_) | (apply gcl; first | refine scl rfl (nextR_bad _ _ _ hs c0) rfl ?_) | (apply gpk; refine spk rfl rfl ?_) | (apply gal; refine sal rfl (fun _ => ?_)) | (apply gbx; refine sbx rfl rfl rfl (fun _ => ?_)) | (apply gbd; refine sbd rfl rfl rfl ?_) | (apply g_guard; first | refine wpl_skip (wants_ft rfl rfl rfl) rfl ?_ | (refine gsD rfl rfl rfl (fun hb => ?_) (fun hb => ?_) <;> (try (exfalso; first | (with_reducible exact absurd (by assumption) hb) | (with_reducible exact absurd hb (by assumption)) | omega))))) | (apply g_wpc; first | (apply g_cond; first | refine cdT rfl ?_) | apply wpc_ret) | (apply g_wpe; first | apply wpe_then_ret))
    exact end3 (by exact .cell 1 rfl rfl rfl rfl (.tmp rfl (.tmp rfl .nil))) rfl
  by_cases c1 : (nextI s e).k = 1
  case neg =>
    rw [show lkI s e = none from if_neg (fun h => c1 h.2)]
    repeat' (first | apply wpc_seq | apply wpe_seq | apply wpl_nil | apply wpc_region | (apply g_any; first | (apply gmv; refine smv rfl rfl ?_) | (apply gas; refine sas rfl rfl ?_) | (apply gld; refine sld rfl (by exact rfl) (by exact rfl) rfl ?_) | (apply gfa; refine sfa rfl rfl ?_) | (apply gex; refine sex rfl rfl ?_) | (apply gst; refine sst rfl rfl (by exact rfl) (by exact rfl) (by exact rfl) (by exact rfl) ?_) | (apply gbn; first | refine sbn rfl rfl ?_) | (apply gcl; first | refine scl rfl (nextR_ok _ _ _ hs c0) rfl ?_) | (apply gpk; refine spk rfl rfl ?_) | (apply gal; refine sal rfl (fun _ => ?_)) | (apply gbx; refine sbx rfl rfl rfl (fun _ => ?_)) | (apply gbd; refine sbd rfl rfl rfl ?_) | (apply g_guard; first | refine wpl_wanted (wants_ff rfl rfl rfl) ?_ | (refine gsD rfl rfl rfl (fun hb => ?_) (fun hb => ?_) <;> (try (exfalso; first | (with_reducible exact absurd (by assumption) hb) | (with_reducible exact absurd hb (by assumption)) | omega))))) | (apply g_wpc; first | (apply g_cond; first | (refine cdD rfl (fun hb => ?_) (fun hb => ?_) <;> (try (exfalso; first | (with_reducible exact absurd (by assumption) hb) | (with_reducible exact absurd hb (by assumption)) | omega)))) | apply wpc_ret) | (apply g_wpe; first | apply wpe_then_ret))
    exact end3 (by exact .cell 1 rfl rfl rfl rfl (.tmp rfl (.tmp rfl .nil))) rfl
  have e0 : lkI s e = _ := if_pos ⟨c0, c1⟩
  by_cases c2 : (nextI s (nextI s e).e).err = 0
  case neg =>
    rw [e0, if_neg (fun h => c2 h.1)]
    repeat' (first | apply wpc_seq | apply wpe_seq | apply wpl_nil | apply wpc_region | (apply g_any; first | (apply gmv; refine smv rfl rfl ?_) | (apply gas; refine sas rfl rfl ?_) | (apply gld; refine sld rfl (by exact rfl) (by exact rfl) rfl ?_) | (apply gfa; refine sfa rfl rfl ?_) | (apply gex; refine sex rfl rfl ?_) | (apply gst; refine sst rfl rfl (by exact rfl) (by exact rfl) (by exact rfl) (by exact rfl) ?_) | (apply gbn; first | refine sbn rfl rfl ?_) | (apply gcl; first | refine scl rfl (nextR_ok _ _ _ hs c0) rfl ?_ | refine scl rfl (nextR_bad _ _ _ hs c2) rfl ?_) | (apply gpk; refine spk rfl rfl ?_) | (apply gal; refine sal rfl (fun _ => ?_)) | (apply gbx; refine sbx rfl rfl rfl (fun _ => ?_)) | (apply gbd; refine sbd rfl rfl rfl ?_) | (apply g_guard; first | refine wpl_wanted (wants_ff rfl rfl rfl) ?_ | refine wpl_skip (wants_ft rfl rfl rfl) rfl ?_ | (refine gsD rfl rfl rfl (fun hb => ?_) (fun hb => ?_) <;> (try (exfalso; first | (with_reducible exact absurd (by assumption) hb) | (with_reducible exact absurd hb (by assumption)) | omega))))) | (apply g_wpc; first | (apply g_cond; first | refine cdT rfl ?_ | (refine cdD rfl (fun hb => ?_) (fun hb => ?_) <;> (try (exfalso; first | (with_reducible exact absurd (by assumption) hb) | (with_reducible exact absurd hb (by assumption)) | omega)))) | apply wpc_skip | apply wpc_ret) | (apply g_wpe; first | apply wpe_then_ret))
    exact end3 (by exact .cell 2 rfl rfl rfl rfl (.tmp rfl (.tmp rfl .nil))) rfl
  by_cases c3 : (nextI s (nextI s e).e).k = 8
  case neg =>
    rw [e0, if_neg (fun h => c3 h.2.1)]
    repeat' (first | apply wpc_seq | apply wpe_seq | apply wpl_nil | apply wpc_region | (apply g_any; first | (apply gmv; refine smv rfl rfl ?_) | (apply gas; refine sas rfl rfl ?_) | (apply gld; refine sld rfl (by exact rfl) (by exact rfl) rfl ?_) | (apply gfa; refine sfa rfl rfl ?_) | (apply gex; refine sex rfl rfl ?_) | (apply gst; refine sst rfl rfl (by exact rfl) (by exact rfl) (by exact rfl) (by exact rfl) ?_) | (apply gbn; first | refine sbn rfl rfl ?_) | (apply gcl; first | refine scl rfl (nextR_ok _ _ _ hs c0) rfl ?_ | refine scl rfl (nextR_ok _ _ _ hs c2) rfl ?_) | (apply gpk; refine spk rfl rfl ?_) | (apply gal; refine sal rfl (fun _ => ?_)) | (apply gbx; refine sbx rfl rfl rfl (fun _ => ?_)) | (apply gbd; refine sbd rfl rfl rfl ?_) | (apply g_guard; first | refine wpl_wanted (wants_ff rfl rfl rfl) ?_ | refine wpl_skip (wants_ft rfl rfl rfl) rfl ?_ | (refine gsD rfl rfl rfl (fun hb => ?_) (fun hb => ?_) <;> (try (exfalso; first | (with_reducible exact absurd (by assumption) hb) | (with_reducible exact absurd hb (by assumption)) | omega))))) | (apply g_wpc; first | (apply g_cond; first | refine cdT rfl ?_ | (refine cdD rfl (fun hb => ?_) (fun hb => ?_) <;> (try (exfalso; first | (with_reducible exact absurd (by assumption) hb) | (with_reducible exact absurd hb (by assumption)) | omega)))) | apply wpc_skip | apply wpc_ret) | (apply g_wpe; first | apply wpe_then_ret))
    exact end3 (by exact .cell 2 rfl rfl rfl rfl (.tmp rfl (.tmp rfl .nil))) rfl
  by_cases c4 : (nextI s (nextI s e).e).t = ⟨#[82]⟩
  case neg =>
    rw [e0, if_neg (fun h => c4 h.2.2)]
    repeat' (first | apply wpc_seq | apply wpe_seq | apply wpl_nil | apply wpc_region | (apply g_any; first | (apply gmv; refine smv rfl rfl ?_) | (apply gas; refine sas rfl rfl ?_) | (apply gld; refine sld rfl (by exact rfl) (by exact rfl) rfl ?_) | (apply gfa; refine sfa rfl rfl ?_) | (apply gex; refine sex rfl rfl ?_) | (apply gst; refine sst rfl rfl (by exact rfl) (by exact rfl) (by exact rfl) (by exact rfl) ?_) | (apply gbn; first | refine sbn rfl rfl ?_) | (apply gcl; first | refine scl rfl (nextR_ok _ _ _ hs c0) rfl ?_ | refine scl rfl (nextR_ok _ _ _ hs c2) rfl ?_) | (apply gpk; refine spk rfl rfl ?_) | (apply gal; refine sal rfl (fun _ => ?_)) | (apply gbx; refine sbx rfl rfl rfl (fun _ => ?_)) | (apply gbd; refine sbd rfl rfl rfl ?_) | (apply g_guard; first | refine wpl_wanted (wants_ff rfl rfl rfl) ?_ | (refine gsD rfl rfl rfl (fun hb => ?_) (fun hb => ?_) <;> (try (exfalso; first | (with_reducible exact absurd (by assumption) hb) | (with_reducible exact absurd hb (by assumption)) | omega))))) | (apply g_wpc; first | (apply g_cond; first | (refine cdD rfl (fun hb => ?_) (fun hb => ?_) <;> (try (exfalso; first | (with_reducible exact absurd (by assumption) hb) | (with_reducible exact absurd hb (by assumption)) | omega)))) | apply wpc_skip | apply wpc_ret) | (apply g_wpe; first | apply wpe_then_ret))
    exact end3 (by exact .cell 2 rfl rfl rfl rfl (.tmp rfl (.tmp rfl .nil))) rfl
  rw [e0, if_pos ⟨c2, c3, c4⟩]
  repeat' (first | apply wpc_seq | apply wpe_seq | apply wpl_nil | apply wpc_region | (apply g_any; first | (apply gmv; refine smv rfl rfl ?_) | (apply gas; refine sas rfl rfl ?_) | (apply gld; refine sld rfl (by exact rfl) (by exact rfl) rfl ?_) | (apply gfa; refine sfa rfl rfl ?_) | (apply gex; refine sex rfl rfl ?_) | (apply gst; refine sst rfl rfl (by exact rfl) (by exact rfl) (by exact rfl) (by exact rfl) ?_) | (apply gbn; first | refine sbn rfl rfl ?_) | (apply gcl; first | refine scl rfl (nextR_ok _ _ _ hs c0) rfl ?_ | refine scl rfl (nextR_ok _ _ _ hs c2) rfl ?_) | (apply gpk; refine spk rfl rfl ?_) | (apply gal; refine sal rfl (fun _ => ?_)) | (apply gbx; refine sbx rfl rfl rfl (fun _ => ?_)) | (apply g_guard; first | refine wpl_wanted (wants_ff rfl rfl rfl) ?_ | (refine gsD rfl rfl rfl (fun hb => ?_) (fun hb => ?_) <;> (try (exfalso; first | (with_reducible exact absurd (by assumption) hb) | (with_reducible exact absurd hb (by assumption)) | omega))))) | (apply g_wpc; first | (apply g_cond; first | (refine cdD rfl (fun hb => ?_) (fun hb => ?_) <;> (try (exfalso; first | (with_reducible exact absurd (by assumption) hb) | (with_reducible exact absurd hb (by assumption)) | omega)))) | apply wpc_skip))
  refine wpc_heldI [0, 1, 3] 9 mixed rfl ?_
  refine wph_takes [0, 1, 2, 3, 4, 5, 6] (fuel := 3) (listed' := #[true, true, true, true, true, true, true, false, false, false]) (by kernel_rfl) rfl (by kernel_rfl) (HLe.refl _) (by repeat' (first | exact List.Sublist.slnil | apply List.Sublist.cons_cons | apply List.Sublist.cons)) ?_
  repeat' (first | (apply gt_any; first | (apply hld; refine tld rfl (by exact rfl) (by exact rfl) rfl ?_) | (apply hfa; refine tfa rfl rfl ?_) | (apply hbd; refine tbd rfl rfl rfl ?_)))
  refine wpt_nil ?_
  refine wph_one 7 (listed' := #[true, true, true, true, true, true, true, true, false, false]) (by kernel_rfl) rfl (by kernel_rfl) ?_   -- [ref.go:30] -     := Op.store 26 t4 t50
  repeat' (first | apply wpl_nil | (apply g_any; first | (apply gst; refine sst rfl rfl (by exact rfl) (by exact rfl) (by exact rfl) (by exact rfl) ?_)))
  refine wpe_hold (HLe.refl _) (by repeat' (first | exact List.Sublist.slnil | apply List.Sublist.cons_cons | apply List.Sublist.cons)) ?_
  refine wph_takes [8] (fuel := 1) (listed' := #[true, true, true, true, true, true, true, true, true, false]) (by kernel_rfl) rfl (by kernel_rfl) (HLe.refl _) (by repeat' (first | exact List.Sublist.slnil | apply List.Sublist.cons_cons | apply List.Sublist.cons)) ?_
  repeat' (first | (apply gt_any; first | (apply has; refine tas rfl rfl ?_)))
  refine wpt_nil ?_
  refine wph_after [9] (fuel := 0) (listed' := #[true, true, true, true, true, true, true, true, true, true]) (by kernel_rfl) rfl (by kernel_rfl) ?_
  repeat' (first | (apply gt_any; first | (apply has; refine tas rfl rfl ?_)))
  refine wpt_nil ?_
  refine wph_done (by kernel_rfl) ?_
  repeat' (first | apply wpe_seq | (apply g_wpc; first | apply wpc_ret))
  exact end3 (by exact .cell 2 rfl rfl rfl rfl (.tmp rfl (.tmp rfl .nil))) rfl
/-- A value, where it ends, the error, as the reference tells it. -/
def OutR (res : PR) (r : Value) (H' : GH) (L' : OL) : Prop := ∃ cs, r = .tuple #[.agg cs.toArray, .int .i64 res.2.1, .int .i64 res.2.2] ∧ res.1.rep H' cs
theorem r_number (s : ByteArray) (k n a e : Int) (t : ByteArray) (H : GH) (hs : s.size ≤ 140737488351232) : Ct Try.prog 26 [.string s, .agg #[.int .i64 k, .int .i64 n, .string t, .int .i64 a, .int .i64 e]] H [] (OutR (nuI s n e)) := by
  refine fn_intro Try.func26 rfl rfl (fun w => ?_)
  have hl := r_link s k n a e t H hs
  cases h : lkI s e with
  | none =>
    rw [h] at hl
    dsimp only at hl
    rw [show nuI s n e = (.mk 2 n 0 ⟨#[]⟩ [] [], e, 0) by rw [nuI, h]]
    repeat' (first | apply wpc_seq | apply wpe_seq | apply wpl_nil | apply wpc_region | (apply g_any; first | (apply gmv; refine smv rfl rfl ?_) | (apply gas; refine sas rfl rfl ?_) | (apply gld; refine sld rfl (by exact rfl) (by exact rfl) rfl ?_) | (apply gex; refine sex rfl rfl ?_) | (apply gst; refine sst rfl rfl (by exact rfl) (by exact rfl) (by exact rfl) (by exact rfl) ?_) | (apply gcl; first | refine scl rfl (hl) rfl ?_) | (apply gun; refine sun rfl rfl ?_) | (apply gal; refine sal rfl (fun _ => ?_)) | (apply gbx; refine sbx rfl rfl rfl (fun _ => ?_))) | (apply g_wpc; first | (apply g_cond; first | refine cdT rfl ?_)))
    refine wpc_heldI [2] 7 mixed rfl ?_
    refine wph_takes [0, 1, 2, 3, 4] (fuel := 3) (listed' := #[true, true, true, true, true, false, false, false]) (by kernel_rfl) rfl (by kernel_rfl) (HLe.refl _) (by repeat' (first | exact List.Sublist.slnil | apply List.Sublist.cons_cons | apply List.Sublist.cons)) ?_
    repeat' (first | (apply gt_any; first | (apply hld; refine tld rfl (by exact rfl) (by exact rfl) rfl ?_) | (apply hfa; refine tfa rfl rfl ?_) | (apply hbd; refine tbd rfl rfl rfl ?_)))
    refine wpt_nil ?_
    refine wph_one 5 (listed' := #[true, true, true, true, true, true, false, false]) (by kernel_rfl) rfl (by kernel_rfl) ?_   -- [ref.go:37] -     := Op.store 26 t4 t21
    repeat' (first | apply wpl_nil | (apply g_any; first | (apply gst; refine sst rfl rfl (by exact rfl) (by exact rfl) (by exact rfl) (by exact rfl) ?_)))
    refine wpe_hold (HLe.refl _) (by repeat' (first | exact List.Sublist.slnil | apply List.Sublist.cons_cons | apply List.Sublist.cons)) ?_
    refine wph_takes [6] (fuel := 1) (listed' := #[true, true, true, true, true, true, true, false]) (by kernel_rfl) rfl (by kernel_rfl) (HLe.refl _) (by repeat' (first | exact List.Sublist.slnil | apply List.Sublist.cons_cons | apply List.Sublist.cons)) ?_
    repeat' (first | (apply gt_any; first | (apply has; refine tas rfl rfl ?_)))
    refine wpt_nil ?_
    refine wph_after [7] (fuel := 0) (listed' := #[true, true, true, true, true, true, true, true]) (by kernel_rfl) rfl (by kernel_rfl) ?_
    repeat' (first | (apply gt_any; first | (apply has; refine tas rfl rfl ?_)))
    refine wpt_nil ?_
    refine wph_done (by kernel_rfl) ?_
    repeat' (first | apply wpe_seq | (apply g_wpc; first | apply wpc_ret) | (apply g_wpe; first | apply wpe_then_ret))
    exact end3 (by exact .cell 1 rfl rfl rfl rfl (.tmp rfl (.tmp rfl .nil))) ⟨_, rfl, Tr.rep_leaf _ _ _ _⟩
  | some x =>
    rw [h] at hl
    dsimp only at hl
    have h1 : nuI s n e = if n < 1 ∨ 8388607 < n ∨ x.1 < 0 ∨ 65535 < x.1 then failP 3 else (.mk 7 n x.1 ⟨#[]⟩ [] [], x.2, 0) := by rw [nuI, h]
    repeat' (first | apply wpc_seq | apply wpe_seq | apply wpl_nil | apply wpc_region | (apply g_any; first | (apply gmv; refine smv rfl rfl ?_) | (apply gas; refine sas rfl rfl ?_) | (apply gld; refine sld rfl (by exact rfl) (by exact rfl) rfl ?_) | (apply gfa; refine sfa rfl rfl ?_) | (apply gex; refine sex rfl rfl ?_) | (apply gst; refine sst rfl rfl (by exact rfl) (by exact rfl) (by exact rfl) (by exact rfl) ?_) | (apply gbn; first | refine sbn rfl rfl ?_) | (apply gcl; first | refine scl rfl (hl) rfl ?_) | (apply gpk; refine spk rfl rfl ?_) | (apply gun; refine sun rfl rfl ?_) | (apply gal; refine sal rfl (fun _ => ?_)) | (apply gbx; refine sbx rfl rfl rfl (fun _ => ?_)) | (apply gbd; refine sbd rfl rfl rfl ?_) | (apply g_guard; first | refine wpl_wanted (wants_ff rfl rfl rfl) ?_ | refine wpl_skip (wants_ft rfl rfl rfl) rfl ?_ | (refine gsD rfl rfl rfl (fun hb => ?_) (fun hb => ?_) <;> (try (exfalso; first | (with_reducible exact absurd (by assumption) hb) | (with_reducible exact absurd hb (by assumption)) | omega))))) | (apply g_wpc; first | (apply g_cond; first | refine cdT rfl ?_ | refine cdF rfl ?_ | (refine cdD rfl (fun hb => ?_) (fun hb => ?_) <;> (try (exfalso; first | (with_reducible exact absurd (by assumption) hb) | (with_reducible exact absurd hb (by assumption)) | omega)))) | apply wpc_skip | apply wpc_ret) | (apply g_wpe; first | apply wpe_then_ret))
    all_goals first
      | (rw [show nuI s n e = failP 3 from h1.trans (if_pos (by omega))]; exact end3 (by exact .cell 1 rfl rfl rfl rfl (.tmp rfl (.tmp rfl .nil))) ⟨_, rfl, Tr.rep_leaf _ _ _ _⟩)
      | (rw [show nuI s n e = (.mk 7 n x.1 ⟨#[]⟩ [] [], x.2, 0) from h1.trans (if_neg (by omega))]; exact end3 (by exact .cell 1 rfl rfl rfl rfl (.tmp rfl (.tmp rfl .nil))) ⟨_, rfl, Tr.rep_leaf _ _ _ _⟩)
theorem r_word (k n a e : Int) (t : ByteArray) (H : GH) : CtV Try.prog 27 [.agg #[.int .i64 k, .int .i64 n, .string t, .int .i64 a, .int .i64 e]] H (match woI t e with
    | (.mk k' n' g' t' _ _, e', err) => .tuple #[.agg #[.int .i64 k', .int .i64 n', .int .i64 g', .string t', .slice none 0 0, .slice none 0 0], .int .i64 e', .int .i64 err]) := by
  refine fn_intro Try.func27 rfl rfl (fun w => ?_)
  repeat' (first | apply wpc_seq | apply wpe_seq | apply wpl_nil | apply wpc_region | (apply g_any; first | (apply gas; refine sas rfl rfl ?_) | (apply gld; refine sld rfl (by exact rfl) (by exact rfl) rfl ?_) | (apply gfa; refine sfa rfl rfl ?_) | (apply gst; refine sst rfl rfl (by exact rfl) (by exact rfl) (by exact rfl) (by exact rfl) ?_) | (apply gbn; first | refine sbn rfl rfl ?_) | (apply gal; refine sal rfl (fun _ => ?_)) | (apply gbx; refine sbx rfl rfl rfl (fun _ => ?_)) | (apply gbd; refine sbd rfl rfl rfl ?_)) | (apply g_wpc; first | apply wpc_block | (apply g_cond; first | (refine cdD rfl (fun hb => ?_) (fun hb => ?_) <;> (try (exfalso; first | (with_reducible exact absurd (by assumption) hb) | (with_reducible exact absurd hb (by assumption)) | omega)))) | apply wpc_skip | apply wpc_ret) | (apply g_wpe; first | apply wpe_block))
  · refine wpc_heldI [1] 5 mixed rfl ?_
    refine wph_takes [0, 1, 2] (fuel := 3) (listed' := #[true, true, true, false, false, false]) (by kernel_rfl) rfl (by kernel_rfl) (HLe.refl _) (by repeat' (first | exact List.Sublist.slnil | apply List.Sublist.cons_cons | apply List.Sublist.cons)) ?_
    repeat' (first | (apply gt_any; first | (apply hld; refine tld rfl (by exact rfl) (by exact rfl) rfl ?_) | (apply hfa; refine tfa rfl rfl ?_) | (apply hbd; refine tbd rfl rfl rfl ?_)))
    refine wpt_nil ?_
    refine wph_one 3 (listed' := #[true, true, true, true, false, false]) (by kernel_rfl) rfl (by kernel_rfl) ?_   -- [ref.go:49] -     := Op.store 26 t2 t9
    repeat' (first | apply wpl_nil | (apply g_any; first | (apply gst; refine sst rfl rfl (by exact rfl) (by exact rfl) (by exact rfl) (by exact rfl) ?_)))
    refine wpe_hold (HLe.refl _) (by repeat' (first | exact List.Sublist.slnil | apply List.Sublist.cons_cons | apply List.Sublist.cons)) ?_
    refine wph_takes [4] (fuel := 1) (listed' := #[true, true, true, true, true, false]) (by kernel_rfl) rfl (by kernel_rfl) (HLe.refl _) (by repeat' (first | exact List.Sublist.slnil | apply List.Sublist.cons_cons | apply List.Sublist.cons)) ?_
    repeat' (first | (apply gt_any; first | (apply has; refine tas rfl rfl ?_)))
    refine wpt_nil ?_
    refine wph_after [5] (fuel := 0) (listed' := #[true, true, true, true, true, true]) (by kernel_rfl) rfl (by kernel_rfl) ?_
    repeat' (first | (apply gt_any; first | (apply has; refine tas rfl rfl ?_)))
    refine wpt_nil ?_
    refine wph_done (by kernel_rfl) ?_
    repeat' (first | apply wpe_seq | (apply g_wpc; first | apply wpc_ret) | (apply g_wpe; first | apply wpe_then_ret | apply wpe_block_ret))
    refine end3 (by exact .cell 0 rfl rfl rfl rfl (.tmp rfl (.tmp rfl .nil))) ?_
    rw [show woI t e = _ from if_pos (by assumption)] <;> rfl
  · refine wpc_heldI [1] 5 mixed rfl ?_
    refine wph_takes [0, 1, 2] (fuel := 3) (listed' := #[true, true, true, false, false, false]) (by kernel_rfl) rfl (by kernel_rfl) (HLe.refl _) (by repeat' (first | exact List.Sublist.slnil | apply List.Sublist.cons_cons | apply List.Sublist.cons)) ?_
    repeat' (first | (apply gt_any; first | (apply hld; refine tld rfl (by exact rfl) (by exact rfl) rfl ?_) | (apply hfa; refine tfa rfl rfl ?_) | (apply hbd; refine tbd rfl rfl rfl ?_)))
    refine wpt_nil ?_
    refine wph_one 3 (listed' := #[true, true, true, true, false, false]) (by kernel_rfl) rfl (by kernel_rfl) ?_   -- [ref.go:51] -     := Op.store 26 t2 t14
    repeat' (first | apply wpl_nil | (apply g_any; first | (apply gst; refine sst rfl rfl (by exact rfl) (by exact rfl) (by exact rfl) (by exact rfl) ?_)))
    refine wpe_hold (HLe.refl _) (by repeat' (first | exact List.Sublist.slnil | apply List.Sublist.cons_cons | apply List.Sublist.cons)) ?_
    refine wph_takes [4] (fuel := 1) (listed' := #[true, true, true, true, true, false]) (by kernel_rfl) rfl (by kernel_rfl) (HLe.refl _) (by repeat' (first | exact List.Sublist.slnil | apply List.Sublist.cons_cons | apply List.Sublist.cons)) ?_
    repeat' (first | (apply gt_any; first | (apply has; refine tas rfl rfl ?_)))
    refine wpt_nil ?_
    refine wph_after [5] (fuel := 0) (listed' := #[true, true, true, true, true, true]) (by kernel_rfl) rfl (by kernel_rfl) ?_
    repeat' (first | (apply gt_any; first | (apply has; refine tas rfl rfl ?_)))
    refine wpt_nil ?_
    refine wph_done (by kernel_rfl) ?_
    repeat' (first | apply wpe_seq | (apply g_wpc; first | apply wpc_ret) | (apply g_wpe; first | apply wpe_then_ret | apply wpe_block_ret))
    refine end3 (by exact .cell 0 rfl rfl rfl rfl (.tmp rfl (.tmp rfl .nil))) ?_
    rw [show woI t e = _ from (if_neg (by assumption)).trans (if_pos (by assumption))] <;> rfl
  · refine wpc_heldI [1] 5 mixed rfl ?_
    refine wph_takes [0, 1, 2] (fuel := 3) (listed' := #[true, true, true, false, false, false]) (by kernel_rfl) rfl (by kernel_rfl) (HLe.refl _) (by repeat' (first | exact List.Sublist.slnil | apply List.Sublist.cons_cons | apply List.Sublist.cons)) ?_
    repeat' (first | (apply gt_any; first | (apply hld; refine tld rfl (by exact rfl) (by exact rfl) rfl ?_) | (apply hfa; refine tfa rfl rfl ?_) | (apply hbd; refine tbd rfl rfl rfl ?_)))
    refine wpt_nil ?_
    refine wph_one 3 (listed' := #[true, true, true, true, false, false]) (by kernel_rfl) rfl (by kernel_rfl) ?_   -- [ref.go:53] -     := Op.store 26 t2 t19
    repeat' (first | apply wpl_nil | (apply g_any; first | (apply gst; refine sst rfl rfl (by exact rfl) (by exact rfl) (by exact rfl) (by exact rfl) ?_)))
    refine wpe_hold (HLe.refl _) (by repeat' (first | exact List.Sublist.slnil | apply List.Sublist.cons_cons | apply List.Sublist.cons)) ?_
    refine wph_takes [4] (fuel := 1) (listed' := #[true, true, true, true, true, false]) (by kernel_rfl) rfl (by kernel_rfl) (HLe.refl _) (by repeat' (first | exact List.Sublist.slnil | apply List.Sublist.cons_cons | apply List.Sublist.cons)) ?_
    repeat' (first | (apply gt_any; first | (apply has; refine tas rfl rfl ?_)))
    refine wpt_nil ?_
    refine wph_after [5] (fuel := 0) (listed' := #[true, true, true, true, true, true]) (by kernel_rfl) rfl (by kernel_rfl) ?_
    repeat' (first | (apply gt_any; first | (apply has; refine tas rfl rfl ?_)))
    refine wpt_nil ?_
    refine wph_done (by kernel_rfl) ?_
    repeat' (first | apply wpe_seq | (apply g_wpc; first | apply wpc_ret) | (apply g_wpe; first | apply wpe_then_ret | apply wpe_block_ret))
    refine end3 (by exact .cell 0 rfl rfl rfl rfl (.tmp rfl (.tmp rfl .nil))) ?_
    rw [show woI t e = _ from (if_neg (by assumption)).trans ((if_neg (by assumption)).trans (if_pos (by assumption)))] <;> rfl
  · refine end3 (by exact .cell 0 rfl rfl rfl rfl (.tmp rfl (.tmp rfl .nil))) ?_
    rw [show woI t e = _ from (if_neg (by assumption)).trans ((if_neg (by assumption)).trans (if_neg (by assumption)))] <;> rfl
def RR (s : ByteArray) (n : Nat) : Prop := ∀ (a w : Int) (H : GH), 0 ≤ w → w ≤ 64 → 2 * (s.size - a) + 1 ≤ n → 0 < n → Ct Try.prog 13 [.string s, .int .i64 a, .int .i64 w] H [] (OutR (rdN s n a w))
def RLs (s : ByteArray) (n : Nat) : Prop := ∀ (a w : Int) (H : GH), 0 ≤ w → w ≤ 64 → 0 ≤ a → a ≤ s.size → 2 * (s.size - a) + 2 ≤ n → Ct Try.prog 28 [.string s, .int .i64 a, .int .i64 w] H [] (OutR (lsN s n a w []))
def RDc (s : ByteArray) (n : Nat) : Prop := ∀ (a w : Int) (H : GH), 0 ≤ w → w ≤ 64 → 0 ≤ a → a ≤ s.size → 2 * (s.size - a) + 2 ≤ n → Ct Try.prog 29 [.string s, .int .i64 a, .int .i64 w] H [] (OutR (dcN s n a w []))
theorem r_list (s : ByteArray) (n : Nat) (hs : s.size ≤ 67108864) (hR : ∀ m, m < n → RR s m) : RLs s n := by
  intro a w H hw0 hw1 ha0 ha1 hn
  refine fn_intro Try.func28 rfl rfl (fun W0 => ?_)
  repeat' (first | apply wpc_seq | apply wpe_seq | apply wpl_nil | apply wpc_region | (apply g_any; first | (refine sb0 rfl (fun _ => ?_)) | (apply gas; refine sas rfl rfl ?_) | (apply gal; refine sal rfl (fun _ => ?_))) | (apply g_wpc; first | apply wpc_block))
  rename_i g6 gl
  refine weC [.row 26 6 (some ⟨gl, 0, none⟩) 0 [], .blk g6 (.cells #[.int .i64 0, .int .i64 0, .int .i64 0, .string ⟨#[]⟩, .slice none 0 0, .slice none 0 0] 26 (0, 0))] rfl ?_
  refine wpc_less (l' := [(0, .string s), (1, .int .i64 a), (2, .int .i64 w), (6, .pointer (some ⟨g6, 0, none⟩)), (9, .slice (some ⟨gl, 0, none⟩) ([] : List (List Value)).length 0)]) ⟨rfl, rfl, rfl, rfl, rfl, trivial⟩ (List.Sublist.refl _) ?_
  refine wpc_loop (ι := Int × Nat × List Tr × List (List Value) × Option Addr × Nat × GH) (fun x => 0 ≤ x.1 ∧ x.1 ≤ s.size ∧ 2 * (s.size - x.1) + 2 ≤ x.2.1 ∧ x.2.1 ≤ n ∧ Grow W0 H x.2.2.2.2.2.2 ∧ Tr.repL x.2.2.2.2.2.2 x.2.2.1 x.2.2.2.1 ∧ (x.2.2.2.1.length : Int) ≤ x.1 ∧ lsN s n a w [] = lsN s x.2.1 x.1 w x.2.2.1) (fun x => x.2.1)
    (fun x => [(0, .string s), (1, .int .i64 x.1), (2, .int .i64 w), (6, .pointer (some ⟨g6, 0, none⟩)), (9, .slice x.2.2.2.2.1 x.2.2.2.1.length x.2.2.2.2.2.1)]) (fun x => x.2.2.2.2.2.2)
    (fun x => [.row 26 6 x.2.2.2.2.1 x.2.2.2.2.2.1 x.2.2.2.1, .blk g6 (.cells #[.int .i64 0, .int .i64 0, .int .i64 0, .string ⟨#[]⟩, .slice none 0 0, .slice none 0 0] 26 (0, 0))]) ?_
    (a, n, [], [], some ⟨gl, 0, none⟩, 0, H) ⟨ha0, ha1, by dsimp only; omega, Nat.le_refl _, Grow.refl _ _, by simp [Tr.repL], by simp; omega, rfl⟩
  rintro ⟨i, m, ts, xss, A, c, H1⟩ ⟨hi0, hi1, hm0, hm1, hg1, hrep, hlen, heq⟩
  dsimp only at hi0 hi1 hm0 hm1 hg1 hrep hlen heq ⊢
  obtain ⟨m, rfl⟩ : ∃ k, m = k + 1 := ⟨m - 1, by omega⟩
  rw [lsN] at heq
  by_cases c0 : (nextI s i).err = 0
  case neg =>
    rw [if_pos c0] at heq
    repeat' (first | apply wpc_seq | apply wpe_seq | apply wpl_nil | apply wpc_region | (apply g_any; first | (apply gmv; refine smv rfl rfl ?_) | (apply gas; refine sas rfl rfl ?_) | (apply gex; refine sex rfl rfl ?_) | (apply gst; refine sst rfl rfl (by exact rfl) (by exact rfl) (by exact rfl) (by exact rfl) ?_) | (apply gbn; first | refine sbn rfl rfl ?_) | (apply gcl; first | refine scl rfl (nextR_bad _ _ _ (by omega) c0) rfl ?_) | (apply gal; refine sal rfl (fun _ => ?_)) | (apply gbd; refine sbd rfl rfl rfl ?_)) | (apply g_wpc; first | apply wpc_block | (apply g_cond; first | (refine cdD rfl (fun hb => ?_) (fun hb => ?_) <;> (try (exfalso; first | (with_reducible exact absurd (by assumption) hb) | (with_reducible exact absurd hb (by assumption)) | omega)))) | apply wpc_ret) | (apply g_wpe; first | apply wpe_then_ret | apply wpe_block_ret | apply wpe_back_ret))
    rw [heq]
    exact wpe_end (.inl rfl) (by exact .cell 2 rfl rfl rfl rfl (.tmp rfl (.tmp rfl .nil))) [] (List.nil_sublist _) hg1 ⟨_, rfl, Tr.rep_leaf _ _ _ _⟩
  rw [if_neg (fun h => h c0)] at heq
  have hr := nextI_range c0
  by_cases c1 : (nextI s i).k = 5
  case pos =>
    rw [if_pos c1] at heq
    repeat' (first | apply wpc_seq | apply wpe_seq | apply wpl_nil | apply wpc_region | (apply g_any; first | (apply gmv; refine smv rfl rfl ?_) | (apply gas; refine sas rfl rfl ?_) | (apply gld; refine sld rfl (by exact rfl) (by exact rfl) rfl ?_) | (apply gfa; refine sfa rfl rfl ?_) | (apply gex; refine sex rfl rfl ?_) | (apply gst; refine sst rfl rfl (by exact rfl) (by exact rfl) (by exact rfl) (by exact rfl) ?_) | (apply gbn; first | refine sbn rfl rfl ?_) | (apply gcl; first | refine scl rfl (nextR_ok _ _ _ (by omega) c0) rfl ?_) | (apply gal; refine sal rfl (fun _ => ?_))) | (apply g_wpc; first | apply wpc_block | (apply g_cond; first | (refine cdD rfl (fun hb => ?_) (fun hb => ?_) <;> (try (exfalso; first | (with_reducible exact absurd (by assumption) hb) | (with_reducible exact absurd hb (by assumption)) | omega)))) | apply wpc_skip))
    refine wpc_heldI [0] 6 mixed rfl ?_
    refine wph_takes [0, 1, 2, 3] (fuel := 3) (listed' := #[true, true, true, true, false, false, false]) (by kernel_rfl) rfl (by kernel_rfl) (HLe.refl _) (by repeat' (first | exact List.Sublist.slnil | apply List.Sublist.cons_cons | apply List.Sublist.cons)) ?_
    repeat' (first | (apply gt_any; first | (apply hmv; refine tmv rfl rfl ?_) | (apply hld; refine tld rfl (by exact rfl) (by exact rfl) rfl ?_) | (apply hfa; refine tfa rfl rfl ?_) | (apply hbd; refine tbd rfl rfl rfl ?_)))
    refine wpt_nil ?_
    refine wph_one 4 (listed' := #[true, true, true, true, true, false, false]) (by kernel_rfl) rfl (by kernel_rfl) ?_   -- [ref.go:67] -     := Op.store 26 t6 t30
    repeat' (first | apply wpl_nil | (apply g_any; first | (apply gst; refine sst rfl rfl (by exact rfl) (by exact rfl) (by exact rfl) (by exact rfl) ?_)))
    refine wpe_hold (HLe.refl _) (by repeat' (first | exact List.Sublist.slnil | apply List.Sublist.cons_cons | apply List.Sublist.cons)) ?_
    refine wph_takes [5] (fuel := 1) (listed' := #[true, true, true, true, true, true, false]) (by kernel_rfl) rfl (by kernel_rfl) (HLe.refl _) (by repeat' (first | exact List.Sublist.slnil | apply List.Sublist.cons_cons | apply List.Sublist.cons)) ?_
    repeat' (first | (apply gt_any; first | (apply has; refine tas rfl rfl ?_)))
    refine wpt_nil ?_
    refine wph_after [6] (fuel := 0) (listed' := #[true, true, true, true, true, true, true]) (by kernel_rfl) rfl (by kernel_rfl) ?_
    repeat' (first | (apply gt_any; first | (apply has; refine tas rfl rfl ?_)))
    refine wpt_nil ?_
    refine wph_done (by kernel_rfl) ?_
    repeat' (first | apply wpe_seq | (apply g_wpc; first | apply wpc_ret) | (apply g_wpe; first | apply wpe_then_ret | apply wpe_block_ret | apply wpe_back_ret))
    rw [heq]
    rename_i gt _
    refine wpe_freeze [.blk gt (.cells #[.int .i64 (nextI s i).k, .int .i64 (nextI s i).n, .string (nextI s i).t, .int .i64 (skI s i), .int .i64 (nextI s i).e] 51 (0, 0))] [.blk g6 (.cells #[.int .i64 5, .int .i64 0, .int .i64 0, .string ⟨#[]⟩, .slice A xss.length c, .slice none 0 0] 26 (0, 0))] rfl ?_ (fun H2 hg2 hc => ?_)
    · simp [idsOf, Ent.ids]
    exact wpe_end (.inl rfl) (by exact .cell 1 rfl rfl rfl rfl (.tmp rfl (.tmp rfl .nil))) [] (List.nil_sublist _) (hg1.tr hg2) ⟨_, rfl, Tr.rep_list (Tr.repL_mono hg2.le hrep) hc⟩
  rw [if_neg c1] at heq
  repeat' (first | apply wpc_seq | apply wpe_seq | apply wpl_nil | apply wpc_region | (apply g_any; first | (apply gmv; refine smv rfl rfl ?_) | (apply gas; refine sas rfl rfl ?_) | (apply gld; refine sld rfl (by exact rfl) (by exact rfl) rfl ?_) | (apply gfa; refine sfa rfl rfl ?_) | (apply gex; refine sex rfl rfl ?_) | (apply gst; refine sst rfl rfl (by exact rfl) (by exact rfl) (by exact rfl) (by exact rfl) ?_) | (apply gbn; first | refine sbn rfl rfl ?_) | (apply gcl; first | refine scl rfl (nextR_ok _ _ _ (by omega) c0) rfl ?_) | (apply gal; refine sal rfl (fun _ => ?_))) | (apply g_wpc; first | apply wpc_block | (apply g_cond; first | (refine cdD rfl (fun hb => ?_) (fun hb => ?_) <;> (try (exfalso; first | (with_reducible exact absurd (by assumption) hb) | (with_reducible exact absurd hb (by assumption)) | omega)))) | apply wpc_skip))
  refine scs 0 rfl rfl (hR m (by omega) i w H1 hw0 hw1 (by omega) (by omega)) rfl rfl (fun r H2 Lq hg2 hX => ?_)
  obtain ⟨cs, rfl, hrep2⟩ := hX
  obtain ⟨k1, n1, g1, s1, A1, m1, c1', B1, m2, c2', rfl⟩ := Tr.cells hrep2
  rename_i gt _
  refine wpl_drop [.blk gt (.cells #[.int .i64 (nextI s i).k, .int .i64 (nextI s i).n, .string (nextI s i).t, .int .i64 (skI s i), .int .i64 (nextI s i).e] 51 (0, 0)), .row 26 6 A c xss, .blk g6 (.cells #[.int .i64 0, .int .i64 0, .int .i64 0, .string ⟨#[]⟩, .slice none 0 0, .slice none 0 0] 26 (0, 0))] (List.sublist_append_right _ _) ?_
  by_cases c2 : (rdN s m i w).2.2 = 0
  case neg =>
    rw [if_pos c2] at heq
    repeat' (first | apply wpc_seq | apply wpe_seq | apply wpl_nil | apply wpc_region | (apply g_any; first | (apply gmv; refine smv rfl rfl ?_) | (apply gas; refine sas rfl rfl ?_) | (apply gex; refine sex rfl rfl ?_) | (apply gst; refine sst rfl rfl (by exact rfl) (by exact rfl) (by exact rfl) (by exact rfl) ?_) | (apply gbn; first | refine sbn rfl rfl ?_) | (apply gal; refine sal rfl (fun _ => ?_)) | (apply gbd; refine sbd rfl rfl rfl ?_)) | (apply g_wpc; first | (apply g_cond; first | (refine cdD rfl (fun hb => ?_) (fun hb => ?_) <;> (try (exfalso; first | (with_reducible exact absurd (by assumption) hb) | (with_reducible exact absurd hb (by assumption)) | omega)))) | apply wpc_ret) | (apply g_wpe; first | apply wpe_then_ret | apply wpe_block_ret | apply wpe_back_ret))
    rw [heq]
    exact wpe_end (.inl rfl) (by exact .cell 3 rfl rfl rfl rfl (.tmp rfl (.tmp rfl .nil))) [] (List.nil_sublist _) (hg1.tr hg2) ⟨_, rfl, Tr.rep_leaf _ _ _ _⟩
  rw [if_neg (fun h => h c2)] at heq
  have hrg := ((rd_range s m).1 i w hi1 c2 (by omega)).resolve_right (by omega)
  repeat' (first | apply wpc_seq | apply wpe_seq | apply wpl_nil | apply wpc_region | (apply g_any; first | (refine sb1 rfl rfl rfl rfl rfl rfl rfl (fun _ => ?_)) | (refine sap rfl rfl rfl rfl rfl rfl rfl rfl (by omega) rfl (fun _ _ => ?_); refine wnL rfl ?_) | (apply gmv; refine smv rfl rfl ?_) | (apply gas; refine sas rfl rfl ?_) | (apply gld; refine sld rfl (by exact rfl) (by exact rfl) rfl ?_) | (apply gex; refine sex rfl rfl ?_) | (apply gst; refine sst rfl rfl (by exact rfl) (by exact rfl) (by exact rfl) (by exact rfl) ?_) | (apply gbn; first | refine sbn rfl rfl ?_) | (apply gal; refine sal rfl (fun _ => ?_))) | (apply g_wpc; first | (apply g_cond; first | (refine cdD rfl (fun hb => ?_) (fun hb => ?_) <;> (try (exfalso; first | (with_reducible exact absurd (by assumption) hb) | (with_reducible exact absurd hb (by assumption)) | omega)))) | apply wpc_skip) | (apply g_wpe; first | apply wpe_block))
  rename_i A2 cc2
  exact wpe_back ((rdN s m i w).2.1, m, ts ++ [(rdN s m i w).1], xss ++ [_], A2, cc2, H2) ⟨by dsimp only; omega, by dsimp only; omega, by dsimp only; omega, by dsimp only; omega, hg1.tr hg2, Tr.repL_snoc (Tr.repL_mono hg2.le hrep) hrep2, by simp only [List.length_append, List.length_singleton]; omega, heq⟩ (by dsimp only; omega) ⟨rfl, rfl, rfl, rfl, by simp only [List.length_append, List.length_singleton]; rfl, trivial⟩ rfl (by repeat' (first | exact List.Sublist.slnil | apply List.Sublist.cons_cons | apply List.Sublist.cons))
end Go.Proofs.Ytgjhbambdnpcmaa
