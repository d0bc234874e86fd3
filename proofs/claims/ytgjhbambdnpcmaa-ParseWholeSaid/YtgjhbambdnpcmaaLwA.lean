/- Proved on the way: Contracts: parse.Value, Whole; the reference's. Contracts of the laws over parse: parsed, ParseTells, ParseWhole. -/
import Derived.Test.YtgjhbambdnpcmaaRnB
import Derived.Test.YtgjhbambdnpcmaaPnB
import Derived.KernelRfl
set_option linter.unusedVariables false
set_option linter.unusedSimpArgs false
namespace Go.Proofs.Ytgjhbambdnpcmaa
open Go Go.Eng
theorem szD_app : ∀ (a b : List PT), Tr.szD (a ++ b) = Tr.szD a + Tr.szD b
  | [], b => by simp [Tr.szD]
  | (k, t) :: r, b => by simp only [List.cons_append, Tr.szD]; rw [szD_app r b]; omega
theorem szD_put : ∀ (l : List PT) (p : PT), Tr.szD (putL l p) ≤ Tr.szD l + p.2.sz
  | [], (k, t) => by simp [putL, Tr.szD]
  | (k', t') :: r, (k, t) => by
    have := szD_put r (k, t)
    simp only [putL]
    split
    · simp only [Tr.szD]; omega
    · split
      · simp only [Tr.szD]; omega
      · simp only [Tr.szD] at this ⊢; omega
theorem szD_fold : ∀ (d l : List PT), Tr.szD (d.foldl putL l) ≤ Tr.szD l + Tr.szD d
  | [], l => by simp [Tr.szD]
  | (k, t) :: r, l => by
    have h1 := szD_fold r (putL l (k, t))
    have h2 := szD_put l (k, t)
    simp only [List.foldl_cons, Tr.szD] at h1 h2 ⊢
    omega
theorem szD_filter (f : PT → Bool) : ∀ (d : List PT), Tr.szD (d.filter f) ≤ Tr.szD d
  | [] => Nat.le_refl _
  | (k, t) :: r => by
    have := szD_filter f r
    rw [List.filter_cons]
    split <;> simp only [Tr.szD] <;> omega
mutual
theorem plT_sz : ∀ t : Tr, (plT t).sz ≤ t.sz
  | .mk k n g s l d => by
    have h1 := plL_sz l
    have h2 := plD_sz d
    have h3 : Tr.szD (nnL (scL (plD d))) ≤ Tr.szD (plD d) := Nat.le_trans (szD_filter _ _) (by have := szD_fold (plD d) []; rw [Tr.szD] at this; rw [scL]; omega)
    rw [plT]
    (repeat' split) <;> simp only [Tr.sz, Tr.szL, Tr.szD] <;> omega
theorem plL_sz : ∀ l : List Tr, Tr.szL (plL l) ≤ Tr.szL l
  | [] => Nat.le_refl _
  | t :: r => by
    have h1 := plT_sz t
    have h2 := plL_sz r
    simp only [plL, Tr.szL]; omega
theorem plD_sz : ∀ l : List PT, Tr.szD (plD l) ≤ Tr.szD l
  | [] => Nat.le_refl _
  | (k, t) :: r => by
    have h1 := plT_sz t
    have h2 := plD_sz r
    simp only [plD, Tr.szD]; omega
end
theorem next_neg {s : ByteArray} {a : Int} (h : a ≤ 0) : nextI s a = nextI s 0 := by
  have : skI s a = skI s 0 := by
    unfold skI
    rw [show max 0 a = 0 by omega, show max 0 (0 : Int) = 0 by omega]
  unfold nextI
  rw [this]
theorem rd_neg {s : ByteArray} {n : Nat} {a w : Int} (h : a ≤ 0) : rdN s n a w = rdN s n 0 w := by
  cases n with
  | zero => rfl
  | succ n => rw [rdN, rdN, next_neg h]
/-- A value, as it was read, with enough rounds. -/
def rdI (s : ByteArray) (a : Int) : PR := rdN s ((2 * (s.size - a)).toNat + 3) a 0
theorem rdI_good {s : ByteArray} {a : Int} (hs : s.size ≤ 67108864) : (rdI s a).1.uniq ∧ (rdI s a).1.sz ≤ 67108865 ∧ (plT (rdI s a).1).sz ≤ 67108865 := by
  have key : (rdI s a).1.uniq ∧ (rdI s a).1.sz ≤ 67108865 := by
    unfold rdI
    by_cases h : 0 ≤ a
    · have := (rd_good s ((2 * (s.size - a)).toNat + 3)).1 a 0 h (by omega) (by omega)
      exact ⟨this.1, by have := this.2.1; omega⟩
    · rw [rd_neg (by omega)]
      have := (rd_good s ((2 * (s.size - a)).toNat + 3)).1 0 0 (by omega) (by omega) (by omega)
      exact ⟨this.1, by have := this.2.1; omega⟩
  exact ⟨key.1, key.2, Nat.le_trans (plT_sz _) key.2⟩
/-- What Value tells. -/
def vaI (s : ByteArray) (a : Int) : PR := if (rdI s a).2.2 = 0 then (plT (rdI s a).1, (rdI s a).2.1, 0) else failP (rdI s a).2.2
theorem zero_rep (H : GH) : zeroT.rep H [.int .i64 0, .int .i64 0, .int .i64 0, .string ⟨#[]⟩, .slice none 0 0, .slice none 0 0] := Tr.rep_leaf _ _ _ _
theorem value_fn (s : ByteArray) (a : Int) (H : GH) (hs : s.size ≤ 67108864) : Ct Try.prog 6 [.string s, .int .i64 a] H [] (fun r H' L' => ∃ cs, r = .tuple #[.agg cs.toArray, .int .i64 (vaI s a).2.1, .int .i64 (vaI s a).2.2] ∧ (vaI s a).1.rep H' cs) := by
  refine fn_intro Try.func6 rfl rfl (fun W0 => ?_)
  repeat' (first | apply wpc_seq | apply wpe_seq | apply wpl_nil | apply wpc_region | (apply g_any; first | (apply gmv; refine smv rfl rfl ?_) | (apply gas; refine sas rfl rfl ?_) | (apply gal; refine sal rfl (fun _ => ?_)) | (apply gbx; refine sbx rfl rfl rfl (fun _ => ?_)) | (apply gbd; refine sbd rfl rfl rfl ?_)))
  rename_i g4 gr
  refine scs 0 rfl rfl (p_all s hs ((2 * (s.size - a)).toNat + 3) a 0 gr H (by omega) (by omega) (by omega) (by omega)) rfl rfl (fun r H2 Lq hg2 hX => ?_)
  obtain ⟨cs, rfl, hrep2, a', rfl, hend⟩ := hX
  obtain ⟨k1, n1, g1, s1, A1, m1, c1', B1, m2, c2', rfl⟩ := Tr.cells hrep2
  refine wnL rfl ?_
  change Tr.rep H2 (rdI s a).1 _ at hrep2
  change (rdI s a).2.2 = 0 → a' = (rdI s a).2.1 at hend
  rw [show (rdN s ((2 * (s.size - a)).toNat + 3) a 0).2.2 = (rdI s a).2.2 from rfl]
  by_cases he : (rdI s a).2.2 = 0
  case neg =>
    rw [show vaI s a = failP (rdI s a).2.2 from if_neg he]
    repeat' (first | apply wpc_seq | apply wpe_seq | apply wpl_nil | apply wpc_region | (apply g_any; first | (apply gmv; refine smv rfl rfl ?_) | (apply gas; refine sas rfl rfl ?_) | (apply gex; refine sex rfl rfl ?_) | (apply gst; refine sst rfl rfl (by exact rfl) (by exact rfl) (by exact rfl) (by exact rfl) ?_) | (apply gbn; first | refine sbn rfl rfl ?_) | (apply gal; refine sal rfl (fun _ => ?_)) | (apply gbd; refine sbd rfl rfl rfl ?_)) | (apply g_wpc; first | (apply g_cond; first | (refine cdD rfl (fun hb => ?_) (fun hb => ?_) <;> (try (exfalso; first | (with_reducible exact absurd (by assumption) hb) | (with_reducible exact absurd hb (by assumption)) | omega)))) | apply wpc_ret) | (apply g_wpe; first | apply wpe_then_ret))
    exact wpe_end (.inl rfl) (by exact .cell 2 rfl rfl rfl rfl (.tmp rfl (.tmp rfl .nil))) [] (List.nil_sublist _) hg2 ⟨_, rfl, zero_rep _⟩
  rw [show vaI s a = (plT (rdI s a).1, (rdI s a).2.1, 0) from if_pos he]
  obtain rfl := hend he
  obtain ⟨hu, hz, _⟩ := rdI_good (a := a) hs
  repeat' (first | apply wpc_seq | apply wpe_seq | apply wpl_nil | apply wpc_region | (apply g_any; first | (apply gmv; refine smv rfl rfl ?_) | (apply gas; refine sas rfl rfl ?_) | (apply gex; refine sex rfl rfl ?_) | (apply gst; refine sst rfl rfl (by exact rfl) (by exact rfl) (by exact rfl) (by exact rfl) ?_) | (apply gbn; first | refine sbn rfl rfl ?_) | (apply gal; refine sal rfl (fun _ => ?_))) | (apply g_wpc; first | (apply g_cond; first | (refine cdD rfl (fun hb => ?_) (fun hb => ?_) <;> (try (exfalso; first | (with_reducible exact absurd (by assumption) hb) | (with_reducible exact absurd hb (by assumption)) | omega)))) | apply wpc_skip))
  refine wpc_heldU [0, 1] [0, 6] [2, 3, 4, 5, 8, 9] mixed rfl ?_
  refine whu_free [2, 3, 4, 5] (fuel := 6) (listed' := #[false, false, true, true, true, true, false, false, false, false]) (by kernel_rfl) rfl (by kernel_rfl) ?_
  repeat' (first | (apply gt_any; first | (apply hmv; refine tmv rfl rfl ?_) | (apply hfa; refine tfa rfl rfl ?_) | (apply hnc; refine tnc rfl rfl ?_)))
  refine wpt_nil ?_
  refine whu_looks [0, 6] (fuel := 4) (listed' := #[true, false, true, true, true, true, true, false, false, false]) (by kernel_rfl) rfl (by kernel_rfl) (HLe.refl _) (by repeat' (first | exact List.Sublist.slnil | apply List.Sublist.cons_cons | apply List.Sublist.cons)) ?_
  repeat' (first | (apply gt_any; first | (apply hld; refine tld rfl (by exact rfl) (by exact rfl) rfl ?_)))
  refine wpt_nil ?_
  refine whu_one 1 (listed' := #[true, true, true, true, true, true, true, false, false, false]) (by kernel_rfl) rfl (by kernel_rfl) ?_   -- [parse.go:179] t25   := Op.call {callee=(Callee.value f12), args=[t24], argTypes=[26]}   :
  refine scs 3 rfl rfl (plain_fn _ _ (Nat.le_refl _) (by omega) hu _ H2 hrep2) rfl rfl (fun r H3 Lq hg3 hX => ?_)
  obtain ⟨cs', rfl, hrep3⟩ := hX
  obtain ⟨k3, n3, g3, s3, A3, m3, c3', B3, m4, c4', rfl⟩ := Tr.cells hrep3
  refine wpl_drop _ (by rw [List.append_nil]; exact List.sublist_append_left _ _) ?_
  repeat' (first | apply wpl_nil)
  refine weu_hold (hg3.le) (by repeat' (first | exact List.Sublist.slnil | apply List.Sublist.cons_cons | apply List.Sublist.cons)) ?_
  refine whu_one 7 (listed' := #[true, true, true, true, true, true, true, true, false, false]) (by kernel_rfl) rfl (by kernel_rfl) ?_   -- [parse.go:179] -     := Op.store 26 t4 t25
  repeat' (first | apply wpl_nil | (apply g_any; first | (apply gst; refine sst rfl rfl (by exact rfl) (by exact rfl) (by exact rfl) (by exact rfl) ?_)))
  refine weu_hold (hg3.le) (by repeat' (first | exact List.Sublist.slnil | apply List.Sublist.cons_cons | apply List.Sublist.cons)) ?_
  refine whu_free [8, 9] (fuel := 0) (listed' := #[true, true, true, true, true, true, true, true, true, true]) (by kernel_rfl) rfl (by kernel_rfl) ?_
  repeat' (first | (apply gt_any; first | (apply has; refine tas rfl rfl ?_)))
  refine wpt_nil ?_
  refine whu_done (by kernel_rfl) ?_
  repeat' (first | apply wpe_seq | (apply g_wpc; first | apply wpc_ret))
  exact wpe_end (.inl rfl) (by exact .cell 2 rfl rfl rfl rfl (.tmp rfl (.tmp rfl .nil))) [] (List.nil_sublist _) (hg2.tr hg3) ⟨_, rfl, hrep3⟩
theorem valueR_fn (s : ByteArray) (a : Int) (H : GH) (hs : s.size ≤ 67108864) : Ct Try.prog 7 [.string s, .int .i64 a] H [] (fun r H' L' => ∃ cs, r = .tuple #[.agg cs.toArray, .int .i64 (vaI s a).2.1, .int .i64 (vaI s a).2.2] ∧ (vaI s a).1.rep H' cs) := by
  refine fn_intro Try.func7 rfl rfl (fun W0 => ?_)
  repeat' (first | apply wpc_seq | apply wpe_seq | apply wpl_nil | apply wpc_region | (apply g_any; first | (apply gmv; refine smv rfl rfl ?_) | (apply gas; refine sas rfl rfl ?_) | (apply gal; refine sal rfl (fun _ => ?_))))
  refine scs 0 rfl rfl (r_all s hs ((2 * (s.size - a)).toNat + 3) a 0 H (by omega) (by omega) (by omega) (by omega)) rfl rfl (fun r H2 Lq hg2 hX => ?_)
  obtain ⟨cs, rfl, hrep2⟩ := hX
  obtain ⟨k1, n1, g1, s1, A1, m1, c1', B1, m2, c2', rfl⟩ := Tr.cells hrep2
  refine wpl_drop _ (List.sublist_append_right _ _) ?_
  change Tr.rep H2 (rdI s a).1 _ at hrep2
  rw [show (rdN s ((2 * (s.size - a)).toNat + 3) a 0).2.2 = (rdI s a).2.2 from rfl, show (rdN s ((2 * (s.size - a)).toNat + 3) a 0).2.1 = (rdI s a).2.1 from rfl]
  by_cases he : (rdI s a).2.2 = 0
  case neg =>
    rw [show vaI s a = failP (rdI s a).2.2 from if_neg he]
    repeat' (first | apply wpc_seq | apply wpe_seq | apply wpl_nil | apply wpc_region | (apply g_any; first | (apply gmv; refine smv rfl rfl ?_) | (apply gas; refine sas rfl rfl ?_) | (apply gex; refine sex rfl rfl ?_) | (apply gst; refine sst rfl rfl (by exact rfl) (by exact rfl) (by exact rfl) (by exact rfl) ?_) | (apply gbn; first | refine sbn rfl rfl ?_) | (apply gal; refine sal rfl (fun _ => ?_)) | (apply gbd; refine sbd rfl rfl rfl ?_)) | (apply g_wpc; first | (apply g_cond; first | (refine cdD rfl (fun hb => ?_) (fun hb => ?_) <;> (try (exfalso; first | (with_reducible exact absurd (by assumption) hb) | (with_reducible exact absurd hb (by assumption)) | omega)))) | apply wpc_ret) | (apply g_wpe; first | apply wpe_then_ret))
    exact wpe_end (.inl rfl) (by exact .cell 1 rfl rfl rfl rfl (.tmp rfl (.tmp rfl .nil))) [] (List.nil_sublist _) hg2 ⟨_, rfl, zero_rep _⟩
  rw [show vaI s a = (plT (rdI s a).1, (rdI s a).2.1, 0) from if_pos he]
  obtain ⟨hu, hz, _⟩ := rdI_good (a := a) hs
  repeat' (first | apply wpc_seq | apply wpe_seq | apply wpl_nil | apply wpc_region | (apply g_any; first | (apply gmv; refine smv rfl rfl ?_) | (apply gas; refine sas rfl rfl ?_) | (apply gld; refine sld rfl (by exact rfl) (by exact rfl) rfl ?_) | (apply gex; refine sex rfl rfl ?_) | (apply gst; refine sst rfl rfl (by exact rfl) (by exact rfl) (by exact rfl) (by exact rfl) ?_) | (apply gbn; first | refine sbn rfl rfl ?_) | (apply gal; refine sal rfl (fun _ => ?_))) | (apply g_wpc; first | (apply g_cond; first | (refine cdD rfl (fun hb => ?_) (fun hb => ?_) <;> (try (exfalso; first | (with_reducible exact absurd (by assumption) hb) | (with_reducible exact absurd hb (by assumption)) | omega)))) | apply wpc_skip))
  refine scs 0 rfl rfl (rplain_fn _ _ (Nat.le_refl _) (by omega) _ H2 hrep2) rfl rfl (fun r H3 Lq hg3 hX => ?_)
  obtain ⟨cs', rfl, hrep3⟩ := hX
  obtain ⟨k3, n3, g3, s3, A3, m3, c3', B3, m4, c4', rfl⟩ := Tr.cells hrep3
  refine wpl_drop _ (List.sublist_append_right _ _) ?_
  repeat' (first | apply wpe_seq | apply wpl_nil | (apply g_any; first | (apply gmv; refine smv rfl rfl ?_) | (apply gas; refine sas rfl rfl ?_) | (apply gst; refine sst rfl rfl (by exact rfl) (by exact rfl) (by exact rfl) (by exact rfl) ?_)) | (apply g_wpc; first | apply wpc_ret))
  exact wpe_end (.inl rfl) (by exact .cell 1 rfl rfl rfl rfl (.tmp rfl (.tmp rfl .nil))) [] (List.nil_sublist _) (hg2.tr hg3) ⟨_, rfl, hrep3⟩
/-- What Whole tells. -/
def whI (s : ByteArray) : Tr × Int := if (vaI s 0).2.2 = 0 then (if (nextI s (vaI s 0).2.1).err = 0 then (if (nextI s (vaI s 0).2.1).k = 0 then ((vaI s 0).1, 0) else (zeroT, 4)) else (zeroT, (nextI s (vaI s 0).2.1).err)) else (zeroT, (vaI s 0).2.2)
theorem whole_fn (s : ByteArray) (H : GH) (hs : s.size ≤ 67108864) : Ct Try.prog 9 [.string s] H [] (fun r H' L' => ∃ cs, r = .tuple #[.agg cs.toArray, .int .i64 (whI s).2] ∧ (whI s).1.rep H' cs) := by
  refine fn_intro Try.func9 rfl rfl (fun W0 => ?_)
  repeat' (first | apply wpc_seq | apply wpe_seq | apply wpl_nil | apply wpc_region | (apply g_any; first | (apply gmv; refine smv rfl rfl ?_) | (apply gas; refine sas rfl rfl ?_) | (apply gal; refine sal rfl (fun _ => ?_))))
  refine scs 0 rfl rfl (value_fn s 0 H hs) rfl rfl (fun r H2 Lq hg2 hX => ?_)
  obtain ⟨cs, rfl, hrep2⟩ := hX
  obtain ⟨k1, n1, g1, s1, A1, m1, c1', B1, m2, c2', rfl⟩ := Tr.cells hrep2
  refine wpl_drop _ (List.sublist_append_right _ _) ?_
  by_cases he : (vaI s 0).2.2 = 0
  case neg =>
    rw [show whI s = _ from if_neg he]
    repeat' (first | apply wpc_seq | apply wpe_seq | apply wpl_nil | apply wpc_region | (apply g_any; first | (apply gmv; refine smv rfl rfl ?_) | (apply gas; refine sas rfl rfl ?_) | (apply gex; refine sex rfl rfl ?_) | (apply gst; refine sst rfl rfl (by exact rfl) (by exact rfl) (by exact rfl) (by exact rfl) ?_) | (apply gbn; first | refine sbn rfl rfl ?_) | (apply gcl; first | refine scl rfl (p_none _ _) rfl ?_) | (apply gal; refine sal rfl (fun _ => ?_))) | (apply g_wpc; first | (apply g_cond; first | (refine cdD rfl (fun hb => ?_) (fun hb => ?_) <;> (try (exfalso; first | (with_reducible exact absurd (by assumption) hb) | (with_reducible exact absurd hb (by assumption)) | omega)))) | apply wpc_ret) | (apply g_wpe; first | apply wpe_then_ret))
    exact wpe_end (.inl rfl) (by exact .cell 1 rfl rfl rfl rfl (.tmp rfl .nil)) [] (List.nil_sublist _) hg2 ⟨_, rfl, zero_rep _⟩
  by_cases c0 : (nextI s (vaI s 0).2.1).err = 0
  case neg =>
    rw [show whI s = _ from (if_pos he).trans (if_neg c0)]
    repeat' (first | apply wpc_seq | apply wpe_seq | apply wpl_nil | apply wpc_region | (apply g_any; first | (apply gmv; refine smv rfl rfl ?_) | (apply gas; refine sas rfl rfl ?_) | (apply gex; refine sex rfl rfl ?_) | (apply gst; refine sst rfl rfl (by exact rfl) (by exact rfl) (by exact rfl) (by exact rfl) ?_) | (apply gbn; first | refine sbn rfl rfl ?_) | (apply gcl; first | refine scl rfl (p_none _ _) rfl ?_ | refine scl rfl (next_bad _ _ _ (by omega) c0) rfl ?_) | (apply gal; refine sal rfl (fun _ => ?_))) | (apply g_wpc; first | apply wpc_block | (apply g_cond; first | (refine cdD rfl (fun hb => ?_) (fun hb => ?_) <;> (try (exfalso; first | (with_reducible exact absurd (by assumption) hb) | (with_reducible exact absurd hb (by assumption)) | omega)))) | apply wpc_skip | apply wpc_ret) | (apply g_wpe; first | apply wpe_then_ret | apply wpe_block_ret))
    exact wpe_end (.inl rfl) (by exact .cell 2 rfl rfl rfl rfl (.tmp rfl .nil)) [] (List.nil_sublist _) hg2 ⟨_, rfl, zero_rep _⟩
  by_cases c1 : (nextI s (vaI s 0).2.1).k = 0
  case neg =>
    rw [show whI s = _ from (if_pos he).trans ((if_pos c0).trans (if_neg c1))]
    repeat' (first | apply wpc_seq | apply wpe_seq | apply wpl_nil | apply wpc_region | (apply g_any; first | (apply gmv; refine smv rfl rfl ?_) | (apply gas; refine sas rfl rfl ?_) | (apply gld; refine sld rfl (by exact rfl) (by exact rfl) rfl ?_) | (apply gfa; refine sfa rfl rfl ?_) | (apply gex; refine sex rfl rfl ?_) | (apply gst; refine sst rfl rfl (by exact rfl) (by exact rfl) (by exact rfl) (by exact rfl) ?_) | (apply gbn; first | refine sbn rfl rfl ?_) | (apply gcl; first | refine scl rfl (p_none _ _) rfl ?_ | refine scl rfl (next_ok _ _ _ (by omega) c0) rfl ?_) | (apply gal; refine sal rfl (fun _ => ?_))) | (apply g_wpc; first | apply wpc_block | (apply g_cond; first | (refine cdD rfl (fun hb => ?_) (fun hb => ?_) <;> (try (exfalso; first | (with_reducible exact absurd (by assumption) hb) | (with_reducible exact absurd hb (by assumption)) | omega)))) | apply wpc_skip | apply wpc_ret) | (apply g_wpe; first | apply wpe_then_ret | apply wpe_block_ret))
    exact wpe_end (.inl rfl) (by exact .cell 2 rfl rfl rfl rfl (.tmp rfl .nil)) [] (List.nil_sublist _) hg2 ⟨_, rfl, zero_rep _⟩
  rw [show whI s = _ from (if_pos he).trans ((if_pos c0).trans (if_pos c1))]
  repeat' (first | apply wpc_seq | apply wpe_seq | apply wpl_nil | apply wpc_region | (apply g_any; first | (apply gmv; refine smv rfl rfl ?_) | (apply gas; refine sas rfl rfl ?_) | (apply gld; refine sld rfl (by exact rfl) (by exact rfl) rfl ?_) | (apply gfa; refine sfa rfl rfl ?_) | (apply gex; refine sex rfl rfl ?_) | (apply gst; refine sst rfl rfl (by exact rfl) (by exact rfl) (by exact rfl) (by exact rfl) ?_) | (apply gbn; first | refine sbn rfl rfl ?_) | (apply gcl; first | refine scl rfl (next_ok _ _ _ (by omega) c0) rfl ?_) | (apply gal; refine sal rfl (fun _ => ?_))) | (apply g_wpc; first | apply wpc_block | (apply g_cond; first | (refine cdD rfl (fun hb => ?_) (fun hb => ?_) <;> (try (exfalso; first | (with_reducible exact absurd (by assumption) hb) | (with_reducible exact absurd hb (by assumption)) | omega)))) | apply wpc_skip | apply wpc_ret) | (apply g_wpe; first | apply wpe_block))
  exact wpe_end (.inl rfl) (by exact .cell 2 rfl rfl rfl rfl (.tmp rfl .nil)) [] (List.nil_sublist _) hg2 ⟨_, rfl, hrep2⟩
theorem wholeR_fn (s : ByteArray) (H : GH) (hs : s.size ≤ 67108864) : Ct Try.prog 10 [.string s] H [] (fun r H' L' => ∃ cs, r = .tuple #[.agg cs.toArray, .int .i64 (whI s).2] ∧ (whI s).1.rep H' cs) := by
  refine fn_intro Try.func10 rfl rfl (fun W0 => ?_)
  repeat' (first | apply wpc_seq | apply wpe_seq | apply wpl_nil | apply wpc_region | (apply g_any; first | (apply gmv; refine smv rfl rfl ?_) | (apply gas; refine sas rfl rfl ?_) | (apply gal; refine sal rfl (fun _ => ?_))))
  refine scs 0 rfl rfl (valueR_fn s 0 H hs) rfl rfl (fun r H2 Lq hg2 hX => ?_)
  obtain ⟨cs, rfl, hrep2⟩ := hX
  obtain ⟨k1, n1, g1, s1, A1, m1, c1', B1, m2, c2', rfl⟩ := Tr.cells hrep2
  refine wpl_drop _ (List.sublist_append_right _ _) ?_
  by_cases he : (vaI s 0).2.2 = 0
  case neg =>
    rw [show whI s = _ from if_neg he]
    repeat' (first | apply wpc_seq | apply wpe_seq | apply wpl_nil | apply wpc_region | (apply g_any; first | (apply gmv; refine smv rfl rfl ?_) | (apply gas; refine sas rfl rfl ?_) | (apply gex; refine sex rfl rfl ?_) | (apply gst; refine sst rfl rfl (by exact rfl) (by exact rfl) (by exact rfl) (by exact rfl) ?_) | (apply gbn; first | refine sbn rfl rfl ?_) | (apply gal; refine sal rfl (fun _ => ?_)) | (apply gbd; refine sbd rfl rfl rfl ?_)) | (apply g_wpc; first | (apply g_cond; first | (refine cdD rfl (fun hb => ?_) (fun hb => ?_) <;> (try (exfalso; first | (with_reducible exact absurd (by assumption) hb) | (with_reducible exact absurd hb (by assumption)) | omega)))) | apply wpc_ret) | (apply g_wpe; first | apply wpe_then_ret))
    exact wpe_end (.inl rfl) (by exact .cell 1 rfl rfl rfl rfl (.tmp rfl .nil)) [] (List.nil_sublist _) hg2 ⟨_, rfl, zero_rep _⟩
  by_cases c0 : (nextI s (vaI s 0).2.1).err = 0
  case neg =>
    rw [show whI s = _ from (if_pos he).trans (if_neg c0)]
    repeat' (first | apply wpc_seq | apply wpe_seq | apply wpl_nil | apply wpc_region | (apply g_any; first | (apply gmv; refine smv rfl rfl ?_) | (apply gas; refine sas rfl rfl ?_) | (apply gex; refine sex rfl rfl ?_) | (apply gst; refine sst rfl rfl (by exact rfl) (by exact rfl) (by exact rfl) (by exact rfl) ?_) | (apply gbn; first | refine sbn rfl rfl ?_) | (apply gcl; first | refine scl rfl (nextR_bad _ _ _ (by omega) c0) rfl ?_) | (apply gal; refine sal rfl (fun _ => ?_)) | (apply gbd; refine sbd rfl rfl rfl ?_)) | (apply g_wpc; first | (apply g_cond; first | (refine cdD rfl (fun hb => ?_) (fun hb => ?_) <;> (try (exfalso; first | (with_reducible exact absurd (by assumption) hb) | (with_reducible exact absurd hb (by assumption)) | omega)))) | apply wpc_skip | apply wpc_ret) | (apply g_wpe; first | apply wpe_then_ret))
    exact wpe_end (.inl rfl) (by exact .cell 2 rfl rfl rfl rfl (.tmp rfl .nil)) [] (List.nil_sublist _) hg2 ⟨_, rfl, zero_rep _⟩
  by_cases c1 : (nextI s (vaI s 0).2.1).k = 0
  case neg =>
    rw [show whI s = _ from (if_pos he).trans ((if_pos c0).trans (if_neg c1))]
    repeat' (first | apply wpc_seq | apply wpe_seq | apply wpl_nil | apply wpc_region | (apply g_any; first | (apply gmv; refine smv rfl rfl ?_) | (apply gas; refine sas rfl rfl ?_) | (apply gld; refine sld rfl (by exact rfl) (by exact rfl) rfl ?_) | (apply gfa; refine sfa rfl rfl ?_) | (apply gex; refine sex rfl rfl ?_) | (apply gst; refine sst rfl rfl (by exact rfl) (by exact rfl) (by exact rfl) (by exact rfl) ?_) | (apply gbn; first | refine sbn rfl rfl ?_) | (apply gcl; first | refine scl rfl (nextR_ok _ _ _ (by omega) c0) rfl ?_) | (apply gal; refine sal rfl (fun _ => ?_)) | (apply gbd; refine sbd rfl rfl rfl ?_)) | (apply g_wpc; first | (apply g_cond; first | (refine cdD rfl (fun hb => ?_) (fun hb => ?_) <;> (try (exfalso; first | (with_reducible exact absurd (by assumption) hb) | (with_reducible exact absurd hb (by assumption)) | omega)))) | apply wpc_skip | apply wpc_ret) | (apply g_wpe; first | apply wpe_then_ret))
    exact wpe_end (.inl rfl) (by exact .cell 2 rfl rfl rfl rfl (.tmp rfl .nil)) [] (List.nil_sublist _) hg2 ⟨_, rfl, zero_rep _⟩
  rw [show whI s = _ from (if_pos he).trans ((if_pos c0).trans (if_pos c1))]
  repeat' (first | apply wpc_seq | apply wpe_seq | apply wpl_nil | apply wpc_region | (apply g_any; first | (apply gmv; refine smv rfl rfl ?_) | (apply gas; refine sas rfl rfl ?_) | (apply gld; refine sld rfl (by exact rfl) (by exact rfl) rfl ?_) | (apply gfa; refine sfa rfl rfl ?_) | (apply gex; refine sex rfl rfl ?_) | (apply gst; refine sst rfl rfl (by exact rfl) (by exact rfl) (by exact rfl) (by exact rfl) ?_) | (apply gbn; first | refine sbn rfl rfl ?_) | (apply gcl; first | refine scl rfl (nextR_ok _ _ _ (by omega) c0) rfl ?_) | (apply gal; refine sal rfl (fun _ => ?_))) | (apply g_wpc; first | (apply g_cond; first | (refine cdD rfl (fun hb => ?_) (fun hb => ?_) <;> (try (exfalso; first | (with_reducible exact absurd (by assumption) hb) | (with_reducible exact absurd hb (by assumption)) | omega)))) | apply wpc_skip | apply wpc_ret))
  exact wpe_end (.inl rfl) (by exact .cell 2 rfl rfl rfl rfl (.tmp rfl .nil)) [] (List.nil_sublist _) hg2 ⟨_, rfl, hrep2⟩
end Go.Proofs.Ytgjhbambdnpcmaa
namespace Go.Proofs.Ytgjhbambdnpcmaa
open Go Go.Eng
theorem ev1 : whI ⟨#[60, 60, 47, 65, 32, 91, 49, 32, 50, 32, 48, 32, 82, 93, 32, 47, 66, 32, 110, 117, 108, 108, 62, 62]⟩ = (.mk 6 0 0 ⟨#[]⟩ [] [(⟨#[65]⟩, .mk 5 0 0 ⟨#[]⟩ [.mk 2 1 0 ⟨#[]⟩ [] [], .mk 7 2 0 ⟨#[]⟩ [] []] [])], 0) := by kernel_rfl
theorem ev2 : (vaI ⟨#[120, 32, 49, 50, 32, 93]⟩ 1).2 = (4, 0) := by kernel_rfl
theorem ev3 : (whI ⟨#[91, 49]⟩).2 = 5 := by kernel_rfl
theorem ev4 : (whI ⟨#[49, 32, 49]⟩).2 = 4 := by kernel_rfl
end Go.Proofs.Ytgjhbambdnpcmaa
set_option linter.unusedVariables false
set_option linter.unusedSimpArgs false
namespace Go.Proofs.Ytgjhbambdnpcmaa
open Go Go.Eng
theorem vaI_sz {s : ByteArray} {a : Int} (hs : s.size ≤ 67108864) : (vaI s a).1.sz ≤ 67108865 := by
  unfold vaI
  split
  · exact (rdI_good hs).2.2
  · rw [failP, zeroT]
    simp [Tr.sz, Tr.szL, Tr.szD]
theorem whI_sz {s : ByteArray} (hs : s.size ≤ 67108864) : (whI s).1.sz ≤ 67108865 := by
  have h := vaI_sz (a := 0) hs
  have hz : zeroT.sz ≤ 67108865 := by rw [zeroT]; simp [Tr.sz, Tr.szL, Tr.szD]
  unfold whI
  (repeat' split) <;> first | exact h | exact hz
theorem parsed_fn (H : GH) : Ct Try.prog 5 [] H [] (fun r H' L' => r = .bool true) := by
  refine fn_intro Try.func5 rfl rfl (fun W0 => ?_)
  repeat' (first | apply wpc_seq | apply wpe_seq | apply wpl_nil | apply wpc_region | (apply g_any; first | (apply gas; refine sas rfl rfl ?_)))
  refine scs 0 rfl rfl (whole_fn ⟨#[60, 60, 47, 65, 32, 91, 49, 32, 50, 32, 48, 32, 82, 93, 32, 47, 66, 32, 110, 117, 108, 108, 62, 62]⟩ H (by decide)) rfl rfl (fun r H2 Lq hg2 hX => ?_)
  obtain ⟨cs, rfl, hrep2⟩ := hX
  rw [ev1] at hrep2 ⊢
  obtain ⟨k1, n1, g1, s1, A1, m1, c1', B1, m2, c2', rfl⟩ := Tr.cells hrep2
  refine wpl_drop _ (by rw [List.append_nil]; exact List.nil_sublist _) ?_
  repeat' (first | apply wpc_seq | apply wpe_seq | apply wpl_nil | apply wpc_region | (apply g_any; first | (refine sbh rfl rfl rfl rfl rfl rfl (fun gl H3 hg3 hc3 => ?_)) | (apply gmv; refine smv rfl rfl ?_) | (apply gas; refine sas rfl rfl ?_) | (apply gex; refine sex rfl rfl ?_) | (apply gst; refine sst rfl rfl (by exact rfl) (by exact rfl) (by exact rfl) (by exact rfl) ?_) | (apply gal; refine sal rfl (fun _ => ?_)) | (apply gbd; refine sbd rfl rfl rfl ?_)))
  refine scs 0 rfl rfl (value_fn ⟨#[120, 32, 49, 50, 32, 93]⟩ 1 H3 (by decide)) rfl rfl (fun r H4 Lq4 hg4 hX => ?_)
  obtain ⟨cs4, rfl, hrep4⟩ := hX
  rw [ev2]
  obtain ⟨k3, n3, g3, s3, A3, m3, c3', B3, m4, c4', rfl⟩ := Tr.cells hrep4
  refine wpl_drop _ (List.sublist_append_right _ _) ?_
  repeat' (first | apply wpc_seq | apply wpe_seq | apply wpl_nil | apply wpc_region | (apply g_any; first | (apply gmv; refine smv rfl rfl ?_) | (apply gas; refine sas rfl rfl ?_) | (apply gex; refine sex rfl rfl ?_) | (apply gst; refine sst rfl rfl (by exact rfl) (by exact rfl) (by exact rfl) (by exact rfl) ?_) | (apply gal; refine sal rfl (fun _ => ?_))))
  refine scs 0 rfl rfl (whole_fn ⟨#[91, 49]⟩ H4 (by decide)) rfl rfl (fun r H5 Lq5 hg5 hX => ?_)
  obtain ⟨cs5, rfl, hrep5⟩ := hX
  rw [ev3]
  obtain ⟨k5, n5, g5, s5, A5, m5, c5', B5, m6, c6', rfl⟩ := Tr.cells hrep5
  refine wpl_drop _ (List.sublist_append_right _ _) ?_
  repeat' (first | apply wpc_seq | apply wpe_seq | apply wpl_nil | apply wpc_region | (apply g_any; first | (apply gmv; refine smv rfl rfl ?_) | (apply gas; refine sas rfl rfl ?_) | (apply gex; refine sex rfl rfl ?_) | (apply gst; refine sst rfl rfl (by exact rfl) (by exact rfl) (by exact rfl) (by exact rfl) ?_) | (apply gal; refine sal rfl (fun _ => ?_))))
  refine scs 0 rfl rfl (whole_fn ⟨#[49, 32, 49]⟩ H5 (by decide)) rfl rfl (fun r H6 Lq6 hg6 hX => ?_)
  obtain ⟨cs6, rfl, hrep6⟩ := hX
  rw [ev4]
  obtain ⟨k7, n7, g7, s7, A7, m7, c7', B7, m8, c8', rfl⟩ := Tr.cells hrep6
  refine wpl_drop _ (List.sublist_append_right _ _) ?_
  repeat' (first | apply wpc_seq | apply wpe_seq | apply wpl_nil | apply wpc_region | (apply g_any; first | (refine sh1 rfl rfl rfl rfl rfl rfl rfl (fun gd H7 hg7 hc7 => ?_)) | (apply gmv; refine smv rfl rfl ?_) | (apply gas; refine sas rfl rfl ?_) | (apply gld; refine sld rfl (by exact rfl) (by exact rfl) rfl ?_) | (apply gex; refine sex rfl rfl ?_) | (apply gst; refine sst rfl rfl (by exact rfl) (by exact rfl) (by exact rfl) (by exact rfl) ?_) | (apply gal; refine sal rfl (fun _ => ?_)) | (apply gbd; refine sbd rfl rfl rfl ?_)))
  have h37 : HLe H3 H7 := (hg4.tr (hg5.tr (hg6.tr hg7))).le
  have hI : (Tr.mk 5 0 0 ⟨#[]⟩ [.mk 2 1 0 ⟨#[]⟩ [] [], .mk 7 2 0 ⟨#[]⟩ [] []] []).rep H7 [.int .i64 5, .int .i64 0, .int .i64 0, .string ⟨#[]⟩, .slice (some ⟨gl, 0, none⟩) 2 2, .slice none 0 0] :=
    Tr.rep_list (xss := [[.int .i64 2, .int .i64 1, .int .i64 0, .string ⟨#[]⟩, .slice none 0 0, .slice none 0 0], [.int .i64 7, .int .i64 2, .int .i64 0, .string ⟨#[]⟩, .slice none 0 0, .slice none 0 0]]) (by rw [Tr.repL, Tr.repL, Tr.repL]; exact ⟨Tr.rep_leaf _ _ _ _, Tr.rep_leaf _ _ _ _, trivial⟩) (.inr ⟨gl, 0, rfl, .inr (CellsAt.mono hc3 h37)⟩)
  have hD : (Tr.mk 6 0 0 ⟨#[]⟩ [] [(⟨#[65]⟩, .mk 5 0 0 ⟨#[]⟩ [.mk 2 1 0 ⟨#[]⟩ [] [], .mk 7 2 0 ⟨#[]⟩ [] []] [])]).rep H7 [.int .i64 6, .int .i64 0, .int .i64 0, .string ⟨#[]⟩, .slice none 0 0, .slice (some ⟨gd, 0, none⟩) 1 1] :=
    Tr.rep_dict (xss := [[.string ⟨#[65]⟩, .int .i64 5, .int .i64 0, .int .i64 0, .string ⟨#[]⟩, .slice (some ⟨gl, 0, none⟩) 2 2, .slice none 0 0]]) (by rw [Tr.repD, Tr.repD]; exact ⟨⟨_, rfl, hI⟩, trivial⟩) (.inr ⟨gd, 0, rfl, .inr hc7⟩)
  have hA := Tr.rep_mono (hg3.tr (hg4.tr (hg5.tr (hg6.tr hg7)))).le hrep2
  repeat' (first | apply wpe_seq | apply wpl_nil | (apply g_any; first | (apply gmv; refine smv rfl rfl ?_) | (apply gas; refine sas rfl rfl ?_) | (apply gbn; first | refine sbn rfl rfl ?_) | (apply gcl; first | refine scl rfl (equal_fn _ _ _ _ _ (Nat.le_refl _) (by simp [Tr.sz, Tr.szL, Tr.szD]) hA hD) rfl ?_) | (apply gpk; refine spk rfl rfl ?_) | (apply g_guard; first | refine wpl_wanted (wants_tt rfl rfl rfl) ?_ | (refine gsD rfl rfl rfl (fun hb => ?_) (fun hb => ?_) <;> (try (exfalso; first | (with_reducible exact absurd (by assumption) hb) | (with_reducible exact absurd hb (by assumption)) | omega))))) | (apply g_wpc; first | apply wpc_ret))
  exact wpe_end (.inl rfl) (by exact .tmp rfl .nil) [] (List.nil_sublist _) (hg2.tr (hg3.tr (hg4.tr (hg5.tr (hg6.tr hg7))))) (by simp [tupV, tst])
theorem tells_fn (s : ByteArray) (a : Int) (H : GH) : Ct Try.prog 3 [.string s, .int .i64 a] H [] (fun r H' L' => r = .bool true) := by
  refine fn_intro Try.func3 rfl rfl (fun W0 => ?_)
  by_cases hs : 1000 < s.size
  case pos =>
    repeat' (first | apply wpc_seq | apply wpe_seq | apply wpl_nil | apply wpc_region | (apply g_any; first | (apply gmv; refine smv rfl rfl ?_) | (apply gas; refine sas rfl rfl ?_) | (apply gbn; first | refine sbn rfl rfl ?_) | (apply gln; first | refine sls rfl rfl ?_)) | (apply g_wpc; first | (apply g_cond; first | (refine cdD rfl (fun hb => ?_) (fun hb => ?_) <;> (try (exfalso; first | (with_reducible exact absurd (by assumption) hb) | (with_reducible exact absurd hb (by assumption)) | omega))))))
    refine scs 0 rfl rfl (parsed_fn H) rfl rfl (fun r H2 Lq hg2 hX => ?_)
    subst hX
    refine wpl_drop _ (by rw [List.append_nil]; exact List.nil_sublist _) ?_
    repeat' (first | apply wpe_seq | apply wpl_nil | (apply g_any; first | (apply gas; refine sas rfl rfl ?_)) | (apply g_wpc; first | apply wpc_ret) | (apply g_wpe; first | apply wpe_then_ret))
    exact wpe_end (.inl rfl) (by exact .tmp rfl .nil) [] (List.nil_sublist _) hg2 rfl
  repeat' (first | apply wpc_seq | apply wpe_seq | apply wpl_nil | apply wpc_region | (apply g_any; first | (apply gmv; refine smv rfl rfl ?_) | (apply gas; refine sas rfl rfl ?_) | (apply gbn; first | refine sbn rfl rfl ?_) | (apply gln; first | refine sls rfl rfl ?_)) | (apply g_wpc; first | (apply g_cond; first | (refine cdD rfl (fun hb => ?_) (fun hb => ?_) <;> (try (exfalso; first | (with_reducible exact absurd (by assumption) hb) | (with_reducible exact absurd hb (by assumption)) | omega)))) | apply wpc_skip))
  refine scs 0 rfl rfl (value_fn s a H (by omega)) rfl rfl (fun r H2 Lq hg2 hX => ?_)
  obtain ⟨cs, rfl, hrep2⟩ := hX
  obtain ⟨k1, n1, g1, s1, A1, m1, c1', B1, m2, c2', rfl⟩ := Tr.cells hrep2
  refine wpl_drop _ (by rw [List.append_nil]; exact List.nil_sublist _) ?_
  repeat' (first | apply wpc_seq | apply wpe_seq | apply wpl_nil | apply wpc_region | (apply g_any; first | (apply gmv; refine smv rfl rfl ?_) | (apply gas; refine sas rfl rfl ?_) | (apply gex; refine sex rfl rfl ?_) | (apply gst; refine sst rfl rfl (by exact rfl) (by exact rfl) (by exact rfl) (by exact rfl) ?_) | (apply gal; refine sal rfl (fun _ => ?_))))
  refine scs 0 rfl rfl (valueR_fn s a H2 (by omega)) rfl rfl (fun r H3 Lq3 hg3 hX => ?_)
  obtain ⟨cs3, rfl, hrep3⟩ := hX
  obtain ⟨k3, n3, g3, s3, A3, m3, c3', B3, m4, c4', rfl⟩ := Tr.cells hrep3
  refine wpl_drop _ (List.sublist_append_right _ _) ?_
  have hA := Tr.rep_mono hg3.le hrep2
  have hz := vaI_sz (s := s) (a := a) (by omega)
  repeat' (first | apply wpc_seq | apply wpe_seq | apply wpl_nil | apply wpc_region | (apply g_any; first | (apply gmv; refine smv rfl rfl ?_) | (apply gas; refine sas rfl rfl ?_) | (apply gld; refine sld rfl (by exact rfl) (by exact rfl) rfl ?_) | (apply gex; refine sex rfl rfl ?_) | (apply gst; refine sst rfl rfl (by exact rfl) (by exact rfl) (by exact rfl) (by exact rfl) ?_) | (apply gbn; first | refine sbn rfl rfl ?_) | (apply gcl; first | refine scl rfl (equal_fn _ _ _ _ _ (Nat.le_refl _) (by omega) hA hrep3) rfl ?_) | (apply gpk; refine spk rfl rfl ?_) | (apply gal; refine sal rfl (fun _ => ?_)) | (apply g_guard; first | refine wpl_wanted (wants_tt rfl rfl rfl) ?_ | (refine gsD rfl rfl rfl (fun hb => ?_) (fun hb => ?_) <;> (try (exfalso; first | (with_reducible exact absurd (by assumption) hb) | (with_reducible exact absurd hb (by assumption)) | omega))))))
  refine scs 0 rfl rfl (parsed_fn H3) rfl rfl (fun r H4 Lq4 hg4 hX => ?_)
  subst hX
  refine wpl_drop _ (List.sublist_append_right _ _) ?_
  repeat' (first | apply wpe_seq | apply wpl_nil | (apply g_any; first | (apply gas; refine sas rfl rfl ?_) | (apply gpk; refine spk rfl rfl ?_)) | (apply g_wpc; first | apply wpc_ret))
  exact wpe_end (.inl rfl) (by exact .tmp rfl .nil) [] (List.nil_sublist _) (hg2.tr (hg3.tr hg4)) rfl
theorem pwhole_fn (s : ByteArray) (H : GH) : Ct Try.prog 4 [.string s] H [] (fun r H' L' => r = .bool true) := by
  refine fn_intro Try.func4 rfl rfl (fun W0 => ?_)
  by_cases hs : 1000 < s.size
  case pos =>
    repeat' (first | apply wpc_seq | apply wpe_seq | apply wpl_nil | apply wpc_region | (apply g_any; first | (apply gmv; refine smv rfl rfl ?_) | (apply gas; refine sas rfl rfl ?_) | (apply gbn; first | refine sbn rfl rfl ?_) | (apply gln; first | refine sls rfl rfl ?_)) | (apply g_wpc; first | (apply g_cond; first | (refine cdD rfl (fun hb => ?_) (fun hb => ?_) <;> (try (exfalso; first | (with_reducible exact absurd (by assumption) hb) | (with_reducible exact absurd hb (by assumption)) | omega))))))
    refine scs 0 rfl rfl (parsed_fn H) rfl rfl (fun r H2 Lq hg2 hX => ?_)
    subst hX
    refine wpl_drop _ (by rw [List.append_nil]; exact List.nil_sublist _) ?_
    repeat' (first | apply wpe_seq | apply wpl_nil | (apply g_any; first | (apply gas; refine sas rfl rfl ?_)) | (apply g_wpc; first | apply wpc_ret) | (apply g_wpe; first | apply wpe_then_ret))
    exact wpe_end (.inl rfl) (by exact .tmp rfl .nil) [] (List.nil_sublist _) hg2 rfl
  repeat' (first | apply wpc_seq | apply wpe_seq | apply wpl_nil | apply wpc_region | (apply g_any; first | (apply gmv; refine smv rfl rfl ?_) | (apply gas; refine sas rfl rfl ?_) | (apply gbn; first | refine sbn rfl rfl ?_) | (apply gln; first | refine sls rfl rfl ?_)) | (apply g_wpc; first | (apply g_cond; first | (refine cdD rfl (fun hb => ?_) (fun hb => ?_) <;> (try (exfalso; first | (with_reducible exact absurd (by assumption) hb) | (with_reducible exact absurd hb (by assumption)) | omega)))) | apply wpc_skip))
  refine scs 0 rfl rfl (whole_fn s H (by omega)) rfl rfl (fun r H2 Lq hg2 hX => ?_)
  obtain ⟨cs, rfl, hrep2⟩ := hX
  obtain ⟨k1, n1, g1, s1, A1, m1, c1', B1, m2, c2', rfl⟩ := Tr.cells hrep2
  refine wpl_drop _ (by rw [List.append_nil]; exact List.nil_sublist _) ?_
  repeat' (first | apply wpc_seq | apply wpe_seq | apply wpl_nil | apply wpc_region | (apply g_any; first | (apply gmv; refine smv rfl rfl ?_) | (apply gas; refine sas rfl rfl ?_) | (apply gex; refine sex rfl rfl ?_) | (apply gst; refine sst rfl rfl (by exact rfl) (by exact rfl) (by exact rfl) (by exact rfl) ?_) | (apply gal; refine sal rfl (fun _ => ?_))))
  refine scs 0 rfl rfl (wholeR_fn s H2 (by omega)) rfl rfl (fun r H3 Lq3 hg3 hX => ?_)
  obtain ⟨cs3, rfl, hrep3⟩ := hX
  obtain ⟨k3, n3, g3, s3, A3, m3, c3', B3, m4, c4', rfl⟩ := Tr.cells hrep3
  refine wpl_drop _ (List.sublist_append_right _ _) ?_
  have hA := Tr.rep_mono hg3.le hrep2
  have hz := whI_sz (s := s) (by omega)
  repeat' (first | apply wpc_seq | apply wpe_seq | apply wpl_nil | apply wpc_region | (apply g_any; first | (apply gmv; refine smv rfl rfl ?_) | (apply gas; refine sas rfl rfl ?_) | (apply gld; refine sld rfl (by exact rfl) (by exact rfl) rfl ?_) | (apply gex; refine sex rfl rfl ?_) | (apply gst; refine sst rfl rfl (by exact rfl) (by exact rfl) (by exact rfl) (by exact rfl) ?_) | (apply gbn; first | refine sbn rfl rfl ?_) | (apply gcl; first | refine scl rfl (equal_fn _ _ _ _ _ (Nat.le_refl _) (by omega) hA hrep3) rfl ?_) | (apply gpk; refine spk rfl rfl ?_) | (apply gal; refine sal rfl (fun _ => ?_)) | (apply g_guard; first | refine wpl_wanted (wants_tt rfl rfl rfl) ?_ | (refine gsD rfl rfl rfl (fun hb => ?_) (fun hb => ?_) <;> (try (exfalso; first | (with_reducible exact absurd (by assumption) hb) | (with_reducible exact absurd hb (by assumption)) | omega))))))
  refine scs 0 rfl rfl (parsed_fn H3) rfl rfl (fun r H4 Lq4 hg4 hX => ?_)
  subst hX
  refine wpl_drop _ (List.sublist_append_right _ _) ?_
  repeat' (first | apply wpe_seq | apply wpl_nil | (apply g_any; first | (apply gas; refine sas rfl rfl ?_) | (apply gpk; refine spk rfl rfl ?_)) | (apply g_wpc; first | apply wpc_ret))
  exact wpe_end (.inl rfl) (by exact .tmp rfl .nil) [] (List.nil_sublist _) (hg2.tr (hg3.tr hg4)) rfl
end Go.Proofs.Ytgjhbambdnpcmaa
