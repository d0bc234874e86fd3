/- Proved on the way: Contracts: insertion. Sorting that is stable, plainly: how two ascending rows are merged in place. Contracts: a row of one is merged into another. Contracts: a row, into which one is merged. -/
import Derived.Test.YtgjhbambdnpcmaaSoA
import Derived.Test.YtgjhbambdnpcmaaGoC
set_option linter.unusedVariables false
set_option linter.unusedSimpArgs false
namespace Go.Proofs.Ytgjhbambdnpcmaa
open Go Go.Eng Go.Srt
theorem cmpI_neg {a b : ByteArray} : cmpI a b < 0 ↔ ltB a b = true := by
  unfold cmpI
  by_cases h : ltB a b = true
  · rw [if_pos h]; exact ⟨fun _ => h, fun _ => by decide⟩
  · rw [if_neg h]
    by_cases h' : ltB b a = true
    · rw [if_pos h']; exact ⟨fun h => absurd h (by decide), fun h'' => absurd h'' h⟩
    · rw [if_neg h']; exact ⟨fun h => absurd h (by decide), fun h'' => absurd h'' h⟩
abbrev cmpF : Value := .func (.func 46) #[] #[]
theorem snoc_of {α : Type} {l : List α} (h : l ≠ []) : ∃ z y, l = z ++ [y] := ⟨l.dropLast, l.getLast h, (List.dropLast_concat_getLast h).symm⟩
theorem insert_fn (P X S : List (List Value)) (g m c a b : Nat) (H : GH) {ia ib : Int} (ea : ia = (a : Nat)) (eb : ib = (b : Nat)) (ha : P.length = a) (hb : a + X.length = b) (hm : b + S.length = m) (hbig : m ≤ 1099511627776) (hp : ∀ xs ∈ P ++ X ++ S, PairC xs) :
    CtL Try.prog 78 [.slice (some ⟨g, 0, none⟩) m c, .int .i64 ia, .int .i64 ib, cmpF] H [.row 40 7 (some ⟨g, 0, none⟩) c (P ++ X ++ S)] (fun r L' => r = .tuple #[] ∧ ∃ Y, L' = [.row 40 7 (some ⟨g, 0, none⟩) c (P ++ Y ++ S)] ∧ Asc ltB keyC Y ∧ Alike keyC X Y ∧ Y.length = X.length ∧ ∀ xs ∈ Y, xs ∈ X) := by
  subst ea eb
  refine fn_intro Try.func78 rfl rfl (fun w => ?_)
  repeat' (first | apply wpc_seq | apply wpe_seq | apply wpl_nil | apply wpc_region | (apply g_any; first | (apply gmv; refine smv rfl rfl ?_) | (apply gas; refine sas rfl rfl ?_) | (apply gbn; first | (apply gad; refine sad rfl rfl (by omega) (by omega) rfl ?_))) | (apply g_wpc; first | apply wpc_block))
  refine wpc_less (l' := [(8, .int .i64 ((a : Int) + 1)), (0, .slice (some ⟨g, 0, none⟩) m c), (1, .int .i64 a), (2, .int .i64 b), (3, cmpF)]) ⟨rfl, rfl, rfl, rfl, rfl, trivial⟩ (List.Sublist.refl _) ?_
  cases X with
  | nil =>
    refine wpc_loop (ι := Unit) (fun _ => True) (fun _ => 0) (fun _ => [(8, .int .i64 ((a : Int) + 1)), (0, .slice (some ⟨g, 0, none⟩) m c), (1, .int .i64 a), (2, .int .i64 b), (3, cmpF)]) (fun _ => H) (fun _ => [.row 40 7 (some ⟨g, 0, none⟩) c (P ++ [] ++ S)]) ?_ () trivial
    rintro _ _
    simp only [List.length_nil] at hb
    repeat' (first | apply wpc_seq | apply wpe_seq | apply wpl_nil | apply wpc_region | (apply g_any; first | (apply gmv; refine smv rfl rfl ?_) | (apply gbn; first | refine sbn rfl rfl ?_)) | (apply g_wpc; first | (apply g_cond; first | (refine cdD rfl (fun hb => ?_) (fun hb => ?_) <;> (try (exfalso; first | (with_reducible exact absurd (by assumption) hb) | (with_reducible exact absurd hb (by assumption)) | omega)))) | apply wpc_exit) | (apply g_wpe; first | apply wpe_then_exit | apply wpe_block_eq | apply wpe_back_exit))
    exact wpe_end (.inr rfl) (by exact .nil) _ (List.Sublist.refl _) (Grow.refl _ _) ⟨rfl, [], rfl, List.Pairwise.nil, Alike.refl _, rfl, fun xs hx => hx⟩
  | cons x0 X0 =>
  simp only [List.length_cons] at hb
  refine wpc_loop (ι := List (List Value) × List (List Value)) (fun x => Asc ltB keyC x.1 ∧ Alike keyC (x0 :: X0) (x.1 ++ x.2) ∧ a + x.1.length + x.2.length = b ∧ 1 ≤ x.1.length ∧ (∀ xs ∈ x.1 ++ x.2, xs ∈ x0 :: X0)) (fun x => x.2.length)
    (fun x => [(8, .int .i64 ((a : Int) + (x.1.length : Nat))), (0, .slice (some ⟨g, 0, none⟩) m c), (1, .int .i64 a), (2, .int .i64 b), (3, cmpF)]) (fun _ => H) (fun x => [.row 40 7 (some ⟨g, 0, none⟩) c (P ++ (x.1 ++ x.2) ++ S)]) ?_ ([x0], X0) ⟨List.pairwise_singleton _ _, Alike.refl _, by simp only [List.length_singleton]; omega, Nat.le_refl _, fun xs hx => hx⟩
  rintro ⟨Y, Z⟩ ⟨hasc, hal, hlen, hY1, hmem⟩
  dsimp only at hasc hal hlen hY1 hmem ⊢
  cases Z with
  | nil =>
    simp only [List.length_nil] at hlen
    repeat' (first | apply wpc_seq | apply wpe_seq | apply wpl_nil | apply wpc_region | (apply g_any; first | (apply gmv; refine smv rfl rfl ?_) | (apply gbn; first | refine sbn rfl rfl ?_)) | (apply g_wpc; first | (apply g_cond; first | (refine cdD rfl (fun hb => ?_) (fun hb => ?_) <;> (try (exfalso; first | (with_reducible exact absurd (by assumption) hb) | (with_reducible exact absurd hb (by assumption)) | omega)))) | apply wpc_exit) | (apply g_wpe; first | apply wpe_then_exit | apply wpe_block_eq | apply wpe_back_exit))
    refine wpe_end (.inr rfl) (by exact .nil) _ (List.Sublist.refl _) (Grow.refl _ _) ⟨rfl, Y ++ [], rfl, by simpa using hasc, hal, by simp only [List.length_append, List.length_cons, List.length_nil]; omega, hmem⟩
  | cons x Z =>
  simp only [List.length_cons] at hlen
  have hpx : PairC x := hp x (by
    have := hmem x (by simp)
    simp only [List.mem_append]; exact .inl (.inr this))
  obtain ⟨kx, a1, a2, a3, a4, a5, a6, a7, a8, a9, a10, ex⟩ := hpx
  repeat' (first | apply wpc_seq | apply wpe_seq | apply wpl_nil | apply wpc_region | (apply g_any; first | (apply gmv; refine smv rfl rfl ?_) | (apply gas; refine sas rfl rfl ?_) | (apply gbn; first | refine sbn rfl rfl ?_)) | (apply g_wpc; first | apply wpc_block | (apply g_cond; first | (refine cdD rfl (fun hb => ?_) (fun hb => ?_) <;> (try (exfalso; first | (with_reducible exact absurd (by assumption) hb) | (with_reducible exact absurd hb (by assumption)) | omega)))) | apply wpc_skip))
  refine wpc_less (l' := [(9, .int .i64 ((a : Int) + (Y.length : Nat))), (8, .int .i64 ((a : Int) + (Y.length : Nat))), (0, .slice (some ⟨g, 0, none⟩) m c), (1, .int .i64 a), (2, .int .i64 b), (3, cmpF)]) ⟨rfl, rfl, rfl, rfl, rfl, rfl, trivial⟩ (List.Sublist.refl _) ?_
  refine weC [.row 40 7 (some ⟨g, 0, none⟩) c (P ++ Y ++ x :: ([] ++ Z) ++ S)] (by simp only [List.append_assoc, List.nil_append, List.cons_append]) ?_
  refine wpc_loop (ι := List (List Value) × List (List Value)) (fun q => Y = q.1 ++ q.2 ∧ ∀ y ∈ q.2, ltB (keyC x) (keyC y) = true) (fun q => q.1.length)
    (fun q => [(9, .int .i64 ((a : Int) + (q.1.length : Nat))), (8, .int .i64 ((a : Int) + (Y.length : Nat))), (0, .slice (some ⟨g, 0, none⟩) m c), (1, .int .i64 a), (2, .int .i64 b), (3, cmpF)]) (fun _ => H) (fun q => [.row 40 7 (some ⟨g, 0, none⟩) c (P ++ q.1 ++ x :: (q.2 ++ Z) ++ S)]) ?_ (Y, []) ⟨by simp, fun y hy => by cases hy⟩
  rintro ⟨A, B⟩ ⟨hAB, hBx⟩
  dsimp only at hAB hBx ⊢
  have hYl : Y.length = A.length + B.length := by rw [hAB, List.length_append]
  -- the way out
  have out : (∀ y ∈ A, ltB (keyC x) (keyC y) = false) → Asc ltB keyC (A ++ x :: B) ∧ Alike keyC (x0 :: X0) ((A ++ x :: B) ++ Z) := fun h => by
    rw [hAB] at hasc hal
    have := put_in' ordB (x := x) hasc h hBx
    refine ⟨this.1, hal.trans ?_⟩
    have h2 := this.2.append (Alike.refl (key := keyC) Z)
    simpa [List.append_assoc] using h2
  have hmem' : ∀ xs ∈ (A ++ x :: B) ++ Z, xs ∈ x0 :: X0 := fun xs hx => hmem xs (by
    rw [hAB]; simp only [List.mem_append, List.mem_cons] at hx ⊢
    rcases hx with (hx | hx | hx) | hx <;> simp [hx])
  have hnil : ([] : List (List Value)).length = 0 := rfl
  have fin : ∀ (W1 : Int), W1 = (a : Int) + (Y.length : Nat) + 1 → W1 = (a : Int) + ((A ++ x :: B).length : Nat) := fun W1 h => by rw [List.length_append, List.length_cons]; omega
  by_cases hA : A = []
  · subst hA
    obtain ⟨h1, h2⟩ := out (fun y hy => by cases hy)
    repeat' (first | apply wpc_seq | apply wpe_seq | apply wpl_nil | apply wpc_region | (apply g_any; first | (apply gmv; refine smv rfl rfl ?_) | (apply gas; refine sas rfl rfl ?_) | (apply gbn; first | (apply gad; refine sad rfl rfl (by omega) (by omega) rfl ?_))) | (apply g_wpc; first | (apply g_cond; first | refine cdF rfl ?_) | apply wpc_exit | (apply g_draw; refine wpc_quiet mixed (by kernel_rfl) ?_)) | (apply g_wpe; first | apply wpe_block | apply wpe_then_exit | apply wpe_block_eq | apply wpe_back_exit) | apply wpq_nil | (apply gq_any; first | (apply kmv; refine qmv rfl rfl ?_) | (apply kbn; first | refine qbn rfl rfl ?_) | (apply kpk; refine qpk rfl rfl ?_) | (apply gq_guard; first | refine wpq_skip (wants_tf rfl rfl rfl) rfl ?_ | (refine ksD rfl rfl rfl (fun hb => ?_) (fun hb => ?_) <;> (try (exfalso; first | (with_reducible exact absurd (by assumption) hb) | (with_reducible exact absurd hb (by assumption)) | omega))))))
    refine wpe_back ([] ++ x :: B, Z) ⟨h1, h2, by simp only [List.length_append, List.length_cons, List.length_nil] at *; omega, by simp, hmem'⟩ (by simp) ⟨by dsimp only; rw [← fin _ rfl]; rfl, rfl, rfl, rfl, rfl, trivial⟩ rfl ?_
    simp only [List.append_assoc, List.cons_append, List.nil_append]
    exact List.Sublist.refl _
  obtain ⟨A, y, rfl⟩ := snoc_of hA
  have hpy : PairC y := hp y (by
    have := hmem y (by rw [hAB]; simp)
    simp only [List.mem_append]; exact .inl (.inr this))
  obtain ⟨ky, b1, b2, b3, b4, b5, b6, b7, b8, b9, b10, ey⟩ := hpy
  have hPA : (P ++ A).length = a + A.length := by rw [List.length_append, ha]
  have hAl : (A ++ [y]).length = A.length + 1 := by simp
  have hkx : keyC x = kx := by rw [ex]; rfl
  have hky : keyC y = ky := by rw [ey]; rfl
  have gy : ((P ++ A) ++ y :: x :: (B ++ Z ++ S))[a + A.length]? = some y := by rw [← hPA]; exact get_at _ _ _
  have gx : ((P ++ A) ++ y :: x :: (B ++ Z ++ S))[a + A.length + 1]? = some x := by rw [← hPA]; exact get_at1 _ _ _ _
  rw [ey, ex] at gy
  rw [ey, ex] at gx
  refine weC [.row 40 7 (some ⟨g, 0, none⟩) c ((P ++ A) ++ y :: x :: (B ++ Z ++ S))] (by simp only [List.append_assoc, List.nil_append, List.cons_append]) ?_
  rw [show (a : Int) + ((A ++ [y]).length : Nat) = (a : Int) + (A.length : Nat) + 1 by omega, ey, ex]
  have hYl2 : Y.length = A.length + 1 + B.length := by omega
  by_cases hlt : ltB kx ky = true
  case neg =>
    have hc : ¬ cmpI kx ky < 0 := fun h => hlt (cmpI_neg.1 h)
    obtain ⟨h1, h2⟩ := out (fun z hz => by
      rcases List.mem_append.1 hz with hz | hz
      · rw [hAB, asc_append, asc_append] at hasc
        have h3 := hasc.1.2.2 z hz y (by simp)
        cases h4 : ltB (keyC x) (keyC z) with
        | false => rfl
        | true =>
          exfalso
          rw [hkx] at h4
          rw [hky] at h3
          cases h5 : ltB kx ky with
          | true => exact hlt h5
          | false => have := ordB.ntrans (a := keyC z) (b := ky) (c := kx) h3 h5; rw [h4] at this; cases this
      · rw [List.mem_singleton.1 hz, hkx, hky]
        cases h : ltB kx ky with
        | false => rfl
        | true => exact absurd h hlt)
    repeat' (first | apply wpc_seq | apply wpe_seq | apply wpl_nil | apply wpc_region | (apply g_any; first | (apply gmv; refine smv rfl rfl ?_) | (apply gas; refine sas rfl rfl ?_) | (apply gbn; first | (apply gad; refine sad rfl rfl (by omega) (by omega) rfl ?_))) | (apply g_wpc; first | (apply g_cond; first | (refine cdD rfl (fun hb => ?_) (fun hb => ?_) <;> (try (exfalso; first | (with_reducible exact absurd (by assumption) hb) | (with_reducible exact absurd hb (by assumption)) | omega)))) | apply wpc_exit | (apply g_draw; refine wpc_quiet mixed (by kernel_rfl) ?_)) | (apply g_wpe; first | apply wpe_block | apply wpe_then_exit | apply wpe_block_eq | apply wpe_back_exit) | apply wpq_nil | (apply gq_any; first | refine qlf (a + A.length + 1) rfl gx 0 rfl rfl (by omega) rfl ?_ | refine qlf (a + A.length) rfl gy 0 rfl rfl (by omega) rfl ?_ | (apply kmv; refine qmv rfl rfl ?_) | (apply kbn; first | (apply ksb; refine qsb rfl rfl (by omega) (by omega) rfl ?_) | refine qbn rfl rfl ?_) | (apply kcl; first | refine qcl rfl (cmpP_fn _ _ _ _ _ _ _ _ _ _ _ _ _ _ _) rfl ?_) | (apply kpk; refine qpk rfl rfl ?_) | (apply kia; refine qia rfl rfl (by omega) (by omega) rfl ?_) | (apply gq_guard; first | refine wpq_wanted (wants_tt rfl rfl rfl) ?_ | (refine ksD rfl rfl rfl (fun hb => ?_) (fun hb => ?_) <;> (try (exfalso; first | (with_reducible exact absurd (by assumption) hb) | (with_reducible exact absurd hb (by assumption)) | omega))))))
    refine wpe_back (A ++ [y] ++ x :: B, Z) ⟨h1, h2, by simp only [List.length_append, List.length_cons, List.length_nil] at *; omega, by simp only [List.length_append, List.length_cons, List.length_nil]; omega, hmem'⟩ (by simp) ⟨by dsimp only; rw [← fin _ rfl]; rfl, rfl, rfl, rfl, rfl, trivial⟩ rfl ?_
    rw [ey, ex]
    simp only [List.append_assoc, List.cons_append, List.nil_append]
    exact List.Sublist.refl _
  have hc : cmpI kx ky < 0 := cmpI_neg.2 hlt
  have hl2 : ((P ++ A) ++ y :: x :: (B ++ Z ++ S)).length = m := by simp only [List.length_append, List.length_cons] at *; omega
  rw [ey, ex] at hl2
  repeat' (first | apply wpc_seq)
  refine wpc_quiet mixed (by kernel_rfl) ?_
  repeat' (first | apply wpc_seq | apply wpe_seq | (apply g_wpc; first | apply wpc_block | (apply g_cond; first | (refine cdD rfl (fun hb => ?_) (fun hb => ?_) <;> (try (exfalso; first | (with_reducible exact absurd (by assumption) hb) | (with_reducible exact absurd hb (by assumption)) | omega)))) | apply wpc_skip) | apply wpq_nil | (apply gq_any; first | refine qlf (a + A.length + 1) rfl gx 0 rfl rfl (by omega) rfl ?_ | refine qlf (a + A.length) rfl gy 0 rfl rfl (by omega) rfl ?_ | (apply kmv; refine qmv rfl rfl ?_) | (apply kbn; first | (apply ksb; refine qsb rfl rfl (by omega) (by omega) rfl ?_) | refine qbn rfl rfl ?_) | (apply kcl; first | refine qcl rfl (cmpP_fn _ _ _ _ _ _ _ _ _ _ _ _ _ _ _) rfl ?_) | (apply kpk; refine qpk rfl rfl ?_) | (apply kia; refine qia rfl rfl (by omega) (by omega) rfl ?_) | (apply gq_guard; first | refine wpq_wanted (wants_tt rfl rfl rfl) ?_ | (refine ksD rfl rfl rfl (fun hb => ?_) (fun hb => ?_) <;> (try (exfalso; first | (with_reducible exact absurd (by assumption) hb) | (with_reducible exact absurd hb (by assumption)) | omega))))))
  refine wpc_heldU [0] [9, 13] [0, 1, 2, 3, 4, 5, 6, 7, 8, 10, 11, 12, 14, 16] mixed rfl ?_
  refine whu_free [0, 1, 2, 3, 4, 5, 6, 7, 8, 10, 11, 12] (fuel := 6) (listed' := #[true, true, true, true, true, true, true, true, true, false, true, true, true, false, false, false, false, false]) (by kernel_rfl) rfl (by kernel_rfl) ?_
  repeat' (first | (apply gt_any; first | (apply hmv; refine tmv rfl rfl ?_) | (apply hbn; first | (apply hsb; refine tsb rfl rfl (by omega) (by omega) rfl ?_)) | (apply hia; refine tia rfl rfl (by omega) (by omega) rfl ?_)))
  refine wpt_nil ?_
  refine whu_looks [9, 13] (fuel := 4) (listed' := #[true, true, true, true, true, true, true, true, true, true, true, true, true, true, false, false, false, false]) (by kernel_rfl) rfl (by kernel_rfl) (HLe.refl _) (by repeat' (first | exact List.Sublist.slnil | apply List.Sublist.cons_cons | apply List.Sublist.cons)) ?_
  repeat' (first | (apply gt_any; first | refine tlf (a + A.length + 1) rfl gx 0 rfl rfl (by omega) rfl ?_ | refine tlf (a + A.length) rfl gy 0 rfl rfl (by omega) rfl ?_))
  refine wpt_nil ?_
  refine whu_free [14] (fuel := 3) (listed' := #[true, true, true, true, true, true, true, true, true, true, true, true, true, true, true, false, false, false]) (by kernel_rfl) rfl (by kernel_rfl) ?_
  repeat' (first | (apply gt_any; first | (apply hia; refine tia rfl rfl (by omega) (by omega) rfl ?_)))
  refine wpt_nil ?_
  refine whu_one 15 (listed' := #[true, true, true, true, true, true, true, true, true, true, true, true, true, true, true, true, false, false]) (by kernel_rfl) rfl (by kernel_rfl) ?_   -- [zsortanyfunc.go:13] -     := Op.store 40 t51 t46
  repeat' (first | apply wpl_nil | (apply g_any; first | (refine ssr (a + A.length + 1) rfl rfl (by omega) (by omega) rfl rfl ?_; refine wnL rfl ?_)))
  refine weu_last (by kernel_rfl) ?_
  refine whu_free [16] (fuel := 1) (listed' := #[true, true, true, true, true, true, true, true, true, true, true, true, true, true, true, true, true, false]) (by kernel_rfl) rfl (by kernel_rfl) ?_
  repeat' (first | (apply gt_any; first | (apply hia; refine tia rfl rfl (by omega) (by omega) rfl ?_)))
  refine wpt_nil ?_
  refine whu_one 17 (listed' := #[true, true, true, true, true, true, true, true, true, true, true, true, true, true, true, true, true, true]) (by kernel_rfl) rfl (by kernel_rfl) ?_   -- [zsortanyfunc.go:13] -     := Op.store 40 t52 t50
  repeat' (first | apply wpl_nil | (apply g_any; first | (refine ssr (a + A.length) rfl rfl (by omega) (by simp only [List.length_set]; omega) rfl rfl ?_; refine wnL rfl ?_)))
  refine weu_last (by kernel_rfl) ?_
  refine whu_done (by kernel_rfl) ?_
  repeat' (first | apply wpe_seq | apply wpl_nil | apply wpc_region | (apply g_any; first | (apply gmv; refine smv rfl rfl ?_) | (apply gas; refine sas rfl rfl ?_) | (apply gbn; first | (apply gsb; refine ssb rfl rfl (by omega) (by omega) rfl ?_))) | (apply g_wpe; first | apply wpe_block))
  rw [show (a : Int) + (A.length : Nat) + 1 - 1 = (a : Int) + (A.length : Nat) by omega]
  refine wpe_back (A, y :: B) ⟨by rw [hAB]; simp, fun z hz => by
    rcases List.mem_cons.1 hz with rfl | hz
    · show ltB kx _ = true
      rw [hky]; exact hlt
    · have := hBx z hz
      rw [hkx] at this
      exact this⟩ (by simp) ⟨rfl, rfl, rfl, rfl, rfl, rfl, trivial⟩ rfl ?_
  have e3 := set_two (P ++ A) (B ++ Z ++ S) x y
  rw [hPA, ey, ex] at e3
  dsimp only [cellsL]
  rw [e3, ey]
  simp only [List.append_assoc, List.cons_append]
  exact List.Sublist.refl _
end Go.Proofs.Ytgjhbambdnpcmaa
set_option linter.unusedVariables false
set_option linter.unusedSectionVars false
namespace Go.Srt
variable {α : Type} {κ : Type} [DecidableEq κ] {lt : κ → κ → Bool} {key : α → κ}
theorem below_to (o : Ord lt) {R : List α} (hR : Asc lt key R) {h : Nat} {y : α} (hy : R[h]? = some y) {kx : κ} (hlt : lt (key y) kx = true) : ∀ z ∈ R.take (h + 1), lt (key z) kx = true := by
  intro z hz
  obtain ⟨t, ht, rfl⟩ := List.mem_iff_getElem.1 hz
  have ht' : t < h + 1 := by have := List.length_take_le (h + 1) R; omega
  have h1 : R[t]? = some ((R.take (h + 1))[t]) := by rw [List.getElem_take]; exact List.getElem?_eq_getElem _
  have h2 := hR.get o h1 hy (by omega)
  cases h3 : lt (key (R.take (h + 1))[t]) kx with
  | true => rfl
  | false => have := o.ntrans h3 h2; rw [hlt] at this; cases this
theorem notbelow_from (o : Ord lt) {R : List α} (hR : Asc lt key R) {h : Nat} {y : α} (hy : R[h]? = some y) {kx : κ} (hlt : lt (key y) kx = false) : ∀ z ∈ R.drop h, lt (key z) kx = false := by
  intro z hz
  obtain ⟨t, ht, rfl⟩ := List.mem_iff_getElem.1 hz
  have h1 : R[h + t]? = some ((R.drop h)[t]) := by rw [List.getElem_drop]; exact List.getElem?_eq_getElem _
  have h2 := hR.get o hy h1 (by omega)
  exact o.ntrans hlt h2
theorem notabove_to (o : Ord lt) {R : List α} (hR : Asc lt key R) {h : Nat} {y : α} (hy : R[h]? = some y) {kx : κ} (hlt : lt kx (key y) = false) : ∀ z ∈ R.take (h + 1), lt kx (key z) = false := by
  intro z hz
  obtain ⟨t, ht, rfl⟩ := List.mem_iff_getElem.1 hz
  have ht' : t < h + 1 := by have := List.length_take_le (h + 1) R; omega
  have h1 : R[t]? = some ((R.take (h + 1))[t]) := by rw [List.getElem_take]; exact List.getElem?_eq_getElem _
  have h2 := hR.get o h1 hy (by omega)
  exact o.ntrans h2 hlt
theorem above_from (o : Ord lt) {R : List α} (hR : Asc lt key R) {h : Nat} {y : α} (hy : R[h]? = some y) {kx : κ} (hlt : lt kx (key y) = true) : ∀ z ∈ R.drop h, lt kx (key z) = true := by
  intro z hz
  obtain ⟨t, ht, rfl⟩ := List.mem_iff_getElem.1 hz
  have h1 : R[h + t]? = some ((R.drop h)[t]) := by rw [List.getElem_drop]; exact List.getElem?_eq_getElem _
  have h2 := hR.get o hy h1 (by omega)
  cases h3 : lt kx (key (R.drop h)[t]) with
  | true => rfl
  | false => have := o.ntrans h2 h3; rw [hlt] at this; cases this
/-- Where two ascending rows are parted. -/
theorem sym_split (o : Ord lt) {L R : List α} (hL : Asc lt key L) (hR : Asc lt key R) {i j : Nat} (hi : i ≤ L.length) (hj : j ≤ R.length)
    (h1 : i = 0 ∨ j = R.length ∨ ∃ x y, L[i - 1]? = some x ∧ R[j]? = some y ∧ lt (key y) (key x) = false)
    (h2 : i = L.length ∨ j = 0 ∨ ∃ x y, L[i]? = some x ∧ R[j - 1]? = some y ∧ lt (key y) (key x) = true) :
    (∀ x ∈ L.take i, ∀ y ∈ R.drop j, lt (key y) (key x) = false) ∧ (∀ x ∈ R.take j, ∀ y ∈ L.drop i, lt (key x) (key y) = true) := by
  constructor
  · intro x hx y hy
    rcases h1 with rfl | rfl | ⟨u, v, hu, hv, huv⟩
    · simp at hx
    · simp at hy
    · by_cases hi0 : i = 0
      · subst hi0; simp at hx
      have hy' := notbelow_from o hR hv huv y hy
      rw [show i = i - 1 + 1 by omega] at hx
      exact notabove_to o hL hu hy' x hx
  · intro x hx y hy
    rcases h2 with rfl | rfl | ⟨u, v, hu, hv, huv⟩
    · simp at hy
    · simp at hx
    · by_cases hj0 : j = 0
      · subst hj0; simp at hx
      rw [show j = j - 1 + 1 by omega] at hx
      have hx' := below_to o hR hv huv x hx
      exact above_from o hL hu hx' y hy
end Go.Srt
set_option linter.unusedVariables false
set_option linter.unusedSimpArgs false
namespace Go.Proofs.Ytgjhbambdnpcmaa
open Go Go.Eng Go.Srt
/-- What is known when two rows were merged. -/
def SymX (g c : Nat) (P L R S : List (List Value)) (r : Value) (L' : OL) : Prop := r = .tuple #[] ∧ ∃ M, L' = [.row 40 7 (some ⟨g, 0, none⟩) c (P ++ M ++ S)] ∧ Asc ltB keyC M ∧ Alike keyC (L ++ R) M ∧ M.length = L.length + R.length ∧ ∀ xs ∈ M, xs ∈ L ++ R
theorem get_mid {α : Type} {P X S : List α} {t : Nat} (h0 : P.length ≤ t) (h1 : t < P.length + X.length) : (P ++ X ++ S)[t]? = X[t - P.length]? := by
  rw [List.getElem?_append_left (by simp; omega), List.getElem?_append_right h0]
theorem set_two' {α : Type} (A B : List α) (x y : α) : ((A ++ x :: y :: B).set A.length y).set (A.length + 1) x = A ++ y :: x :: B := by simp
theorem sym_left (P R S : List (List Value)) (x : List Value) (g m c a d : Nat) (H : GH) {ia ib id : Int} (ea : ia = (a : Nat)) (eb : ib = (a : Nat) + 1) (ed : id = (d : Nat)) (ha : P.length = a) (hd : a + 1 + R.length = d) (hm : d + S.length = m) (hbig : m ≤ 1099511627776) (hp : ∀ xs ∈ P ++ ([x] ++ R) ++ S, PairC xs) (hR : Asc ltB keyC R) (hR0 : 0 < R.length) :
    CtL Try.prog 79 [.slice (some ⟨g, 0, none⟩) m c, .int .i64 ia, .int .i64 ib, .int .i64 id, cmpF] H [.row 40 7 (some ⟨g, 0, none⟩) c (P ++ ([x] ++ R) ++ S)] (SymX g c P [x] R S) := by
  subst ea eb ed
  refine fn_intro Try.func79 rfl rfl (fun w => ?_)
  obtain ⟨kx, a1, a2, a3, a4, a5, a6, a7, a8, a9, a10, ex⟩ := hp x (by simp)
  have hkx : keyC x = kx := by rw [ex]; rfl
  have gx := (show (P ++ ([x] ++ R) ++ S)[a]? = some x by rw [get_mid (by omega) (by simp; omega), ha, Nat.sub_self]; rfl).trans (congrArg some ex)
  have hl : (P ++ ([x] ++ R) ++ S).length = m := by simp; omega
  repeat' (first | apply wpc_seq | apply wpe_seq | apply wpl_nil | apply wpc_region | (apply g_any; first | (apply gmv; refine smv rfl rfl ?_) | (apply gas; refine sas rfl rfl ?_) | (apply gbn; first | (apply gsb; refine ssb rfl rfl (by omega) (by omega) rfl ?_) | refine sbn rfl rfl ?_)) | (apply g_wpc; first | apply wpc_block | (apply g_cond; first | (refine cdD rfl (fun hb => ?_) (fun hb => ?_) <;> (try (exfalso; first | (with_reducible exact absurd (by assumption) hb) | (with_reducible exact absurd hb (by assumption)) | omega))))))
  refine wpc_loopS (ι := Nat × Nat) (fun q => q.1 ≤ q.2 ∧ q.2 ≤ R.length ∧ (∀ z ∈ R.take q.1, ltB (keyC z) kx = true) ∧ (∀ z ∈ R.drop q.2, ltB (keyC z) kx = false)) (fun q => q.2 - q.1)
    (fun q => [(10, .int .i64 ((a : Int) + 1 + (q.1 : Nat))), (11, .int .i64 ((a : Int) + 1 + (q.2 : Nat))), (0, .slice (some ⟨g, 0, none⟩) m c), (1, .int .i64 a), (4, cmpF)]) (fun _ => H) (fun _ => [.row 40 7 (some ⟨g, 0, none⟩) c (P ++ ([x] ++ R) ++ S)]) (0, R.length) ⟨by simp, by simp, by simp, by simp⟩ ⟨lki (by dsimp only; omega), lki (by dsimp only; omega), rfl, rfl, rfl, trivial⟩ rfl (List.Sublist.refl _) ?_
  rintro ⟨i, j⟩ ⟨hij, hj, hlo, hhi⟩
  dsimp only at hij hj hlo hhi ⊢
  by_cases hlt : i < j
  case pos =>
    obtain ⟨h, hh⟩ : ∃ h : Nat, h = (2 * (a + 1) + i + j) / 2 - (a + 1) := ⟨_, rfl⟩
    have hr : i ≤ h ∧ h < j := by omega
    have eh : ((a : Int) + 1 + (i : Nat) + ((a : Int) + 1 + (j : Nat))) / 2 = (a : Int) + 1 + (h : Nat) := by omega
    have hlt' : h < R.length := by omega
    have gz : (P ++ ([x] ++ R) ++ S)[a + 1 + h]? = some R[h] := by
      rw [get_mid (by omega) (by simp; omega), ha, show a + 1 + h - a = h + 1 by omega]
      show R[h]? = _
      exact List.getElem?_eq_getElem hlt'
    obtain ⟨kz, b1, b2, b3, b4, b5, b6, b7, b8, b9, b10, ez⟩ := hp R[h] (by simp)
    have hkz : keyC R[h] = kz := by rw [ez]; rfl
    have hRh : R[h]? = some R[h] := List.getElem?_eq_getElem hlt'
    rw [ez] at gz
    have hc := cmpI_neg (a := kz) (b := kx)
    repeat' (first | apply wpc_seq | apply wpe_seq | apply wpl_nil | apply wpc_region | (apply g_any; first | (refine sc7 rfl (by omega) (by omega) rfl ?_) | (refine shr rfl rfl rfl rfl ?_) | (apply gmv; refine smv rfl rfl ?_) | (apply gas; refine sas rfl rfl ?_) | (apply gbn; first | (apply gad; refine sad rfl rfl (by omega) (by omega) rfl ?_) | refine sbn rfl rfl ?_) | (apply gcv; first | refine sc6 rfl (by omega) (by omega) rfl ?_)) | (apply g_wpc; first | apply wpc_block | (apply g_cond; first | (refine cdD rfl (fun hb => ?_) (fun hb => ?_) <;> (try (exfalso; first | (with_reducible exact absurd (by assumption) hb) | (with_reducible exact absurd hb (by assumption)) | omega)))) | apply wpc_skip | (apply g_draw; refine wpc_quiet mixed (by kernel_rfl) ?_)) | (apply g_wpe; first | apply wpe_block) | apply wpq_nil | (apply gq_any; first | refine qlf (a + 1 + h) rfl gz 0 rfl rfl (by omega) rfl ?_ | refine qlf a rfl gx 0 rfl rfl (by omega) rfl ?_ | (apply kmv; refine qmv rfl rfl ?_) | (apply kbn; first | refine qbn rfl rfl ?_) | (apply kcl; first | refine qcl rfl (cmpP_fn _ _ _ _ _ _ _ _ _ _ _ _ _ _ _) rfl ?_) | (apply kia; refine qia rfl rfl (by omega) (by omega) rfl ?_)))
    · rename_i hb
      rw [eh]
      refine wpe_back (h + 1, j) ⟨by dsimp only; omega, hj, ?_, hhi⟩ (by dsimp only; omega) ⟨lki (by dsimp only; omega), rfl, rfl, rfl, rfl, trivial⟩ rfl (List.Sublist.refl _)
      exact below_to ordB hR hRh (by rw [hkz]; exact hc.1 hb)
    · rename_i hb
      rw [eh]
      refine wpe_back (i, h) ⟨by dsimp only; omega, by dsimp only; omega, hlo, ?_⟩ (by dsimp only; omega) ⟨rfl, rfl, rfl, rfl, rfl, trivial⟩ rfl (List.Sublist.refl _)
      refine notbelow_from ordB hR hRh ?_
      rw [hkz]
      cases h4 : ltB kz kx with
      | false => rfl
      | true => exact absurd (hc.2 h4) hb
  obtain rfl : i = j := by omega
  repeat' (first | apply wpc_seq | apply wpe_seq | apply wpl_nil | apply wpc_region | (apply g_any; first | (apply gmv; refine smv rfl rfl ?_) | (apply gas; refine sas rfl rfl ?_) | (apply gbn; first | refine sbn rfl rfl ?_)) | (apply g_wpc; first | apply wpc_block | (apply g_cond; first | (refine cdD rfl (fun hb => ?_) (fun hb => ?_) <;> (try (exfalso; first | (with_reducible exact absurd (by assumption) hb) | (with_reducible exact absurd hb (by assumption)) | omega)))) | apply wpc_exit) | (apply g_wpe; first | apply wpe_then_exit | apply wpe_block_eq | apply wpe_back_exit))
  refine wpc_loopS (ι := Nat) (fun q => q ≤ i) (fun q => i - q)
    (fun q => [(13, .int .i64 ((a : Int) + (q : Nat))), (10, .int .i64 ((a : Int) + 1 + (i : Nat))), (0, .slice (some ⟨g, 0, none⟩) m c)]) (fun _ => H) (fun q => [.row 40 7 (some ⟨g, 0, none⟩) c (P ++ R.take q ++ x :: (R.drop q ++ S))]) 0 (by omega) ⟨lki (by omega), rfl, rfl, trivial⟩ rfl (by simp) ?_
  intro q hq
  by_cases hqi : q < i
  case neg =>
    obtain rfl : q = i := by omega
    repeat' (first | apply wpc_seq | apply wpe_seq | apply wpl_nil | apply wpc_region | (apply g_any; first | (apply gmv; refine smv rfl rfl ?_) | (apply gbn; first | (apply gsb; refine ssb rfl rfl (by omega) (by omega) rfl ?_) | refine sbn rfl rfl ?_)) | (apply g_wpc; first | (apply g_cond; first | (refine cdD rfl (fun hb => ?_) (fun hb => ?_) <;> (try (exfalso; first | (with_reducible exact absurd (by assumption) hb) | (with_reducible exact absurd hb (by assumption)) | omega)))) | apply wpc_exit | apply wpc_ret) | (apply g_wpe; first | apply wpe_then_exit | apply wpe_block_eq | apply wpe_then_ret | apply wpe_back_exit))
    obtain ⟨h1, h2⟩ := put_in ordB (key := keyC) (x := x) (r1 := R.take q) (r2 := R.drop q) (by rw [List.take_append_drop]; exact hR) (by rw [hkx]; exact hlo) (by rw [hkx]; exact hhi)
    rw [List.take_append_drop] at h2
    refine wpe_end (.inl rfl) (by exact .nil) _ (List.Sublist.refl _) (Grow.refl _ _) ⟨rfl, R.take q ++ x :: R.drop q, by simp only [List.append_assoc, List.cons_append], h1, by simpa using h2, by simp only [List.length_append, List.length_cons, List.length_nil, List.length_take, List.length_drop]; omega, fun xs hx => ?_⟩
    have := h2.symm.mem hx
    simpa using this
  have hq' : q < R.length := by omega
  obtain ⟨kz, b1, b2, b3, b4, b5, b6, b7, b8, b9, b10, ez⟩ := hp R[q] (by simp)
  have hA : (P ++ R.take q).length = a + q := by rw [List.length_append, ha, List.length_take]; omega
  have hl2 : ((P ++ R.take q) ++ x :: R[q] :: (R.drop (q + 1) ++ S)).length = m := by simp only [List.length_append, List.length_cons, List.length_take, List.length_drop]; omega
  have g0 := (show ((P ++ R.take q) ++ x :: R[q] :: (R.drop (q + 1) ++ S))[a + q]? = some x by rw [← hA]; exact get_at _ _ _).trans (congrArg some ex)
  have g1 := (show ((P ++ R.take q) ++ x :: R[q] :: (R.drop (q + 1) ++ S))[a + q + 1]? = some R[q] by rw [← hA]; exact get_at1 _ _ _ _).trans (congrArg some ez)
  rw [List.drop_eq_getElem_cons hq']
  refine weC [.row 40 7 (some ⟨g, 0, none⟩) c ((P ++ R.take q) ++ x :: R[q] :: (R.drop (q + 1) ++ S))] rfl ?_
  repeat' (first | apply wpc_seq | apply wpe_seq | apply wpl_nil | apply wpc_region | (apply g_any; first | (apply gmv; refine smv rfl rfl ?_) | (apply gbn; first | (apply gsb; refine ssb rfl rfl (by omega) (by omega) rfl ?_) | refine sbn rfl rfl ?_)) | (apply g_wpc; first | apply wpc_block | (apply g_cond; first | (refine cdD rfl (fun hb => ?_) (fun hb => ?_) <;> (try (exfalso; first | (with_reducible exact absurd (by assumption) hb) | (with_reducible exact absurd hb (by assumption)) | omega)))) | apply wpc_skip))
  refine wpc_heldU [0] [9, 13] [0, 1, 2, 3, 4, 5, 6, 7, 8, 10, 11, 12, 14, 16] mixed rfl ?_
  refine whu_free [0, 1, 2, 3, 4, 5, 6, 7, 8, 10, 11, 12] (fuel := 6) (listed' := #[true, true, true, true, true, true, true, true, true, false, true, true, true, false, false, false, false, false]) (by kernel_rfl) rfl (by kernel_rfl) ?_
  repeat' (first | (apply gt_any; first | (apply hmv; refine tmv rfl rfl ?_) | (apply hbn; first | (apply had; refine tad rfl rfl (by omega) (by omega) rfl ?_)) | (apply hia; refine tia rfl rfl (by omega) (by omega) rfl ?_)))
  refine wpt_nil ?_
  refine whu_looks [9, 13] (fuel := 4) (listed' := #[true, true, true, true, true, true, true, true, true, true, true, true, true, true, false, false, false, false]) (by kernel_rfl) rfl (by kernel_rfl) (HLe.refl _) (by repeat' (first | exact List.Sublist.slnil | apply List.Sublist.cons_cons | apply List.Sublist.cons)) ?_
  repeat' (first | (apply gt_any; first | refine tlf (a + q) rfl g0 0 rfl rfl (by omega) rfl ?_ | refine tlf (a + q + 1) rfl g1 0 rfl rfl (by omega) rfl ?_))
  refine wpt_nil ?_
  refine whu_free [14] (fuel := 3) (listed' := #[true, true, true, true, true, true, true, true, true, true, true, true, true, true, true, false, false, false]) (by kernel_rfl) rfl (by kernel_rfl) ?_
  repeat' (first | (apply gt_any; first | (apply hia; refine tia rfl rfl (by omega) (by omega) rfl ?_)))
  refine wpt_nil ?_
  refine whu_one 15 (listed' := #[true, true, true, true, true, true, true, true, true, true, true, true, true, true, true, true, false, false]) (by kernel_rfl) rfl (by kernel_rfl) ?_   -- [zsortanyfunc.go:398] -     := Op.store 40 t75 t70
  repeat' (first | apply wpl_nil | (apply g_any; first | (refine ssr (a + q) rfl rfl (by omega) (by omega) rfl rfl ?_; refine wnL rfl ?_)))
  refine weu_last (by kernel_rfl) ?_
  refine whu_free [16] (fuel := 1) (listed' := #[true, true, true, true, true, true, true, true, true, true, true, true, true, true, true, true, true, false]) (by kernel_rfl) rfl (by kernel_rfl) ?_
  repeat' (first | (apply gt_any; first | (apply hia; refine tia rfl rfl (by omega) (by omega) rfl ?_)))
  refine wpt_nil ?_
  refine whu_one 17 (listed' := #[true, true, true, true, true, true, true, true, true, true, true, true, true, true, true, true, true, true]) (by kernel_rfl) rfl (by kernel_rfl) ?_   -- [zsortanyfunc.go:398] -     := Op.store 40 t76 t74
  repeat' (first | apply wpl_nil | (apply g_any; first | (refine ssr (a + q + 1) rfl rfl (by omega) (by simp only [List.length_set]; omega) rfl rfl ?_; refine wnL rfl ?_)))
  refine weu_last (by kernel_rfl) ?_
  refine whu_done (by kernel_rfl) ?_
  repeat' (first | apply wpe_seq | apply wpl_nil | apply wpc_region | (apply g_any; first | (apply gmv; refine smv rfl rfl ?_) | (apply gas; refine sas rfl rfl ?_) | (apply gbn; first | (apply gad; refine sad rfl rfl (by omega) (by omega) rfl ?_))) | (apply g_wpe; first | apply wpe_block))
  refine wpe_back (q + 1) (by omega) (by omega) ⟨lki (by omega), rfl, rfl, trivial⟩ rfl ?_
  have e3 := set_two' (P ++ R.take q) (R.drop (q + 1) ++ S) x R[q]
  rw [hA] at e3
  dsimp only [cellsL]
  rw [← ex, ← ez, e3, List.take_succ_eq_append_getElem hq']
  simp only [List.append_assoc, List.cons_append, List.nil_append]
  exact List.Sublist.refl _
end Go.Proofs.Ytgjhbambdnpcmaa
set_option linter.unusedVariables false
set_option linter.unusedSimpArgs false
namespace Go.Proofs.Ytgjhbambdnpcmaa
open Go Go.Eng Go.Srt
theorem sym_right (P L S : List (List Value)) (x : List Value) (g m c a b : Nat) (H : GH) {ia ib id : Int} (ea : ia = (a : Nat)) (eb : ib = (b : Nat)) (ed : id = (b : Nat) + 1) (ha : P.length = a) (hb : a + L.length = b) (hm : b + 1 + S.length = m) (hbig : m ≤ 1099511627776) (hp : ∀ xs ∈ P ++ (L ++ [x]) ++ S, PairC xs) (hL : Asc ltB keyC L) (hL1 : 1 < L.length) :
    CtL Try.prog 79 [.slice (some ⟨g, 0, none⟩) m c, .int .i64 ia, .int .i64 ib, .int .i64 id, cmpF] H [.row 40 7 (some ⟨g, 0, none⟩) c (P ++ (L ++ [x]) ++ S)] (SymX g c P L [x] S) := by
  subst ea eb ed
  refine fn_intro Try.func79 rfl rfl (fun w => ?_)
  obtain ⟨kx, a1, a2, a3, a4, a5, a6, a7, a8, a9, a10, ex⟩ := hp x (by simp)
  have hkx : keyC x = kx := by rw [ex]; rfl
  have gx := (show (P ++ (L ++ [x]) ++ S)[b]? = some x by rw [get_mid (by omega) (by simp; omega), ha, show b - a = L.length by omega]; simp).trans (congrArg some ex)
  have hl : (P ++ (L ++ [x]) ++ S).length = m := by simp; omega
  repeat' (first | apply wpc_seq | apply wpe_seq | apply wpl_nil | apply wpc_region | (apply g_any; first | (apply gmv; refine smv rfl rfl ?_) | (apply gas; refine sas rfl rfl ?_) | (apply gbn; first | (apply gsb; refine ssb rfl rfl (by omega) (by omega) rfl ?_) | refine sbn rfl rfl ?_)) | (apply g_wpc; first | apply wpc_block | (apply g_cond; first | (refine cdD rfl (fun hb => ?_) (fun hb => ?_) <;> (try (exfalso; first | (with_reducible exact absurd (by assumption) hb) | (with_reducible exact absurd hb (by assumption)) | omega)))) | apply wpc_skip))
  refine wpc_loopS (ι := Nat × Nat) (fun q => q.1 ≤ q.2 ∧ q.2 ≤ L.length ∧ (∀ z ∈ L.take q.1, ltB kx (keyC z) = false) ∧ (∀ z ∈ L.drop q.2, ltB kx (keyC z) = true)) (fun q => q.2 - q.1)
    (fun q => [(14, .int .i64 ((a : Int) + (q.1 : Nat))), (15, .int .i64 ((a : Int) + (q.2 : Nat))), (0, .slice (some ⟨g, 0, none⟩) m c), (2, .int .i64 b), (4, cmpF)]) (fun _ => H) (fun _ => [.row 40 7 (some ⟨g, 0, none⟩) c (P ++ (L ++ [x]) ++ S)]) (0, L.length) ⟨by simp, by simp, by simp, by simp⟩ ⟨lki (by dsimp only; omega), lki (by dsimp only; omega), rfl, rfl, rfl, trivial⟩ rfl (List.Sublist.refl _) ?_
  rintro ⟨i, j⟩ ⟨hij, hj, hlo, hhi⟩
  dsimp only at hij hj hlo hhi ⊢
  by_cases hlt : i < j
  case pos =>
    obtain ⟨h, hh⟩ : ∃ h : Nat, h = (2 * a + i + j) / 2 - a := ⟨_, rfl⟩
    have hr : i ≤ h ∧ h < j := by omega
    have eh : ((a : Int) + (i : Nat) + ((a : Int) + (j : Nat))) / 2 = (a : Int) + (h : Nat) := by omega
    have hlt' : h < L.length := by omega
    obtain ⟨kz, b1, b2, b3, b4, b5, b6, b7, b8, b9, b10, ez⟩ := hp L[h] (by simp)
    have gz := (show (P ++ (L ++ [x]) ++ S)[a + h]? = some L[h] by
      rw [get_mid (by omega) (by simp; omega), ha, show a + h - a = h by omega, List.getElem?_append_left hlt']
      exact List.getElem?_eq_getElem hlt').trans (congrArg some ez)
    have hkz : keyC L[h] = kz := by rw [ez]; rfl
    have hLh : L[h]? = some L[h] := List.getElem?_eq_getElem hlt'
    have hc := cmpI_neg (a := kx) (b := kz)
    repeat' (first | apply wpc_seq | apply wpe_seq | apply wpl_nil | apply wpc_region | (apply g_any; first | (refine sc7 rfl (by omega) (by omega) rfl ?_) | (refine shr rfl rfl rfl rfl ?_) | (apply gmv; refine smv rfl rfl ?_) | (apply gas; refine sas rfl rfl ?_) | (apply gbn; first | (apply gad; refine sad rfl rfl (by omega) (by omega) rfl ?_) | refine sbn rfl rfl ?_) | (apply gcv; first | refine sc6 rfl (by omega) (by omega) rfl ?_)) | (apply g_wpc; first | apply wpc_block | (apply g_cond; first | (refine cdD rfl (fun hb => ?_) (fun hb => ?_) <;> (try (exfalso; first | (with_reducible exact absurd (by assumption) hb) | (with_reducible exact absurd hb (by assumption)) | omega))) | (refine cdN rfl (fun hb => ?_) (fun hb => ?_) <;> (try (exfalso; first | (with_reducible exact absurd (by assumption) hb) | (with_reducible exact absurd hb (by assumption)) | omega)))) | apply wpc_skip | (apply g_draw; refine wpc_quiet mixed (by kernel_rfl) ?_)) | (apply g_wpe; first | apply wpe_block) | apply wpq_nil | (apply gq_any; first | refine qlf (a + h) rfl gz 0 rfl rfl (by omega) rfl ?_ | refine qlf b rfl gx 0 rfl rfl (by omega) rfl ?_ | (apply kmv; refine qmv rfl rfl ?_) | (apply kbn; first | refine qbn rfl rfl ?_) | (apply kcl; first | refine qcl rfl (cmpP_fn _ _ _ _ _ _ _ _ _ _ _ _ _ _ _) rfl ?_) | (apply kun; refine qun rfl rfl ?_) | (apply kia; refine qia rfl rfl (by omega) (by omega) rfl ?_)))
    all_goals rw [eh]
    all_goals first
      | (have hb' : ¬ cmpI kx kz < 0 := by assumption
         refine wpe_back (h + 1, j) ⟨by dsimp only; omega, hj, ?_, hhi⟩ (by dsimp only; omega) ⟨lki (by dsimp only; omega), rfl, rfl, rfl, rfl, trivial⟩ rfl (List.Sublist.refl _)
         refine notabove_to ordB hL hLh ?_
         rw [hkz]
         cases h4 : ltB kx kz with
         | false => rfl
         | true => exact absurd (hc.2 h4) hb')
      | (have hb' : cmpI kx kz < 0 := by assumption
         refine wpe_back (i, h) ⟨by dsimp only; omega, by dsimp only; omega, hlo, ?_⟩ (by dsimp only; omega) ⟨rfl, rfl, rfl, rfl, rfl, trivial⟩ rfl (List.Sublist.refl _)
         exact above_from ordB hL hLh (by rw [hkz]; exact hc.1 hb'))
  obtain rfl : i = j := by omega
  repeat' (first | apply wpc_seq | apply wpe_seq | apply wpl_nil | apply wpc_region | (apply g_any; first | (apply gmv; refine smv rfl rfl ?_) | (apply gas; refine sas rfl rfl ?_) | (apply gbn; first | refine sbn rfl rfl ?_)) | (apply g_wpc; first | apply wpc_block | (apply g_cond; first | (refine cdD rfl (fun hb => ?_) (fun hb => ?_) <;> (try (exfalso; first | (with_reducible exact absurd (by assumption) hb) | (with_reducible exact absurd hb (by assumption)) | omega)))) | apply wpc_exit) | (apply g_wpe; first | apply wpe_then_exit | apply wpe_block_eq | apply wpe_back_exit))
  refine wpc_loopS (ι := Nat) (fun q => i ≤ q ∧ q ≤ L.length) (fun q => q)
    (fun q => [(17, .int .i64 ((a : Int) + (q : Nat))), (14, .int .i64 ((a : Int) + (i : Nat))), (0, .slice (some ⟨g, 0, none⟩) m c)]) (fun _ => H) (fun q => [.row 40 7 (some ⟨g, 0, none⟩) c (P ++ L.take q ++ x :: (L.drop q ++ S))]) L.length ⟨hj, Nat.le_refl _⟩ ⟨lki (by omega), rfl, rfl, trivial⟩ rfl (by simp) ?_
  rintro q ⟨hq0, hq⟩
  by_cases hqi : i < q
  case neg =>
    obtain rfl : q = i := by omega
    repeat' (first | apply wpc_seq | apply wpe_seq | apply wpl_nil | apply wpc_region | (apply g_any; first | (apply gmv; refine smv rfl rfl ?_) | (apply gbn; first | refine sbn rfl rfl ?_)) | (apply g_wpc; first | (apply g_cond; first | (refine cdD rfl (fun hb => ?_) (fun hb => ?_) <;> (try (exfalso; first | (with_reducible exact absurd (by assumption) hb) | (with_reducible exact absurd hb (by assumption)) | omega)))) | apply wpc_exit | apply wpc_ret) | (apply g_wpe; first | apply wpe_then_exit | apply wpe_block_eq | apply wpe_then_ret | apply wpe_back_exit))
    obtain ⟨h1, h2⟩ := put_in' ordB (key := keyC) (x := x) (r1 := L.take q) (r2 := L.drop q) (by rw [List.take_append_drop]; exact hL) (by rw [hkx]; exact hlo) (by rw [hkx]; exact hhi)
    rw [List.take_append_drop] at h2
    refine wpe_end (.inl rfl) (by exact .nil) _ (List.Sublist.refl _) (Grow.refl _ _) ⟨rfl, L.take q ++ x :: L.drop q, by simp only [List.append_assoc, List.cons_append], h1, h2, by simp only [List.length_append, List.length_cons, List.length_nil, List.length_take, List.length_drop]; omega, fun xs hx => h2.symm.mem hx⟩
  obtain ⟨q, rfl⟩ : ∃ t, q = t + 1 := ⟨q - 1, by omega⟩
  have hq' : q < L.length := by omega
  obtain ⟨kz, b1, b2, b3, b4, b5, b6, b7, b8, b9, b10, ez⟩ := hp L[q] (by simp)
  have hA : (P ++ L.take q).length = a + q := by rw [List.length_append, ha, List.length_take]; omega
  have hl2 : ((P ++ L.take q) ++ L[q] :: x :: (L.drop (q + 1) ++ S)).length = m := by simp only [List.length_append, List.length_cons, List.length_take, List.length_drop]; omega
  have g0 := (show ((P ++ L.take q) ++ L[q] :: x :: (L.drop (q + 1) ++ S))[a + q]? = some L[q] by rw [← hA]; exact get_at _ _ _).trans (congrArg some ez)
  have g1 := (show ((P ++ L.take q) ++ L[q] :: x :: (L.drop (q + 1) ++ S))[a + q + 1]? = some x by rw [← hA]; exact get_at1 _ _ _ _).trans (congrArg some ex)
  refine weC [.row 40 7 (some ⟨g, 0, none⟩) c ((P ++ L.take q) ++ L[q] :: x :: (L.drop (q + 1) ++ S))] (by rw [List.take_succ_eq_append_getElem hq']; simp only [List.append_assoc, List.cons_append, List.nil_append]) ?_
  rw [show ((q + 1 : Nat) : Int) = (q : Int) + 1 by omega]
  repeat' (first | apply wpc_seq | apply wpe_seq | apply wpl_nil | apply wpc_region | (apply g_any; first | (apply gmv; refine smv rfl rfl ?_) | (apply gbn; first | refine sbn rfl rfl ?_)) | (apply g_wpc; first | apply wpc_block | (apply g_cond; first | (refine cdD rfl (fun hb => ?_) (fun hb => ?_) <;> (try (exfalso; first | (with_reducible exact absurd (by assumption) hb) | (with_reducible exact absurd hb (by assumption)) | omega)))) | apply wpc_skip))
  refine wpc_heldU [0] [9, 13] [0, 1, 2, 3, 4, 5, 6, 7, 8, 10, 11, 12, 14, 16] mixed rfl ?_
  refine whu_free [0, 1, 2, 3, 4, 5, 6, 7, 8, 10, 11, 12] (fuel := 6) (listed' := #[true, true, true, true, true, true, true, true, true, false, true, true, true, false, false, false, false, false]) (by kernel_rfl) rfl (by kernel_rfl) ?_
  repeat' (first | (apply gt_any; first | (apply hmv; refine tmv rfl rfl ?_) | (apply hbn; first | (apply hsb; refine tsb rfl rfl (by omega) (by omega) rfl ?_)) | (apply hia; refine tia rfl rfl (by omega) (by omega) rfl ?_)))
  refine wpt_nil ?_
  refine whu_looks [9, 13] (fuel := 4) (listed' := #[true, true, true, true, true, true, true, true, true, true, true, true, true, true, false, false, false, false]) (by kernel_rfl) rfl (by kernel_rfl) (HLe.refl _) (by repeat' (first | exact List.Sublist.slnil | apply List.Sublist.cons_cons | apply List.Sublist.cons)) ?_
  repeat' (first | (apply gt_any; first | refine tlf (a + q) rfl g0 0 rfl rfl (by omega) rfl ?_ | refine tlf (a + q + 1) rfl g1 0 rfl rfl (by omega) rfl ?_))
  refine wpt_nil ?_
  refine whu_free [14] (fuel := 3) (listed' := #[true, true, true, true, true, true, true, true, true, true, true, true, true, true, true, false, false, false]) (by kernel_rfl) rfl (by kernel_rfl) ?_
  repeat' (first | (apply gt_any; first | (apply hia; refine tia rfl rfl (by omega) (by omega) rfl ?_)))
  refine wpt_nil ?_
  refine whu_one 15 (listed' := #[true, true, true, true, true, true, true, true, true, true, true, true, true, true, true, true, false, false]) (by kernel_rfl) rfl (by kernel_rfl) ?_   -- [zsortanyfunc.go:422] -     := Op.store 40 t127 t122
  repeat' (first | apply wpl_nil | (apply g_any; first | (refine ssr (a + q + 1) rfl rfl (by omega) (by omega) rfl rfl ?_; refine wnL rfl ?_)))
  refine weu_last (by kernel_rfl) ?_
  refine whu_free [16] (fuel := 1) (listed' := #[true, true, true, true, true, true, true, true, true, true, true, true, true, true, true, true, true, false]) (by kernel_rfl) rfl (by kernel_rfl) ?_
  repeat' (first | (apply gt_any; first | (apply hia; refine tia rfl rfl (by omega) (by omega) rfl ?_)))
  refine wpt_nil ?_
  refine whu_one 17 (listed' := #[true, true, true, true, true, true, true, true, true, true, true, true, true, true, true, true, true, true]) (by kernel_rfl) rfl (by kernel_rfl) ?_   -- [zsortanyfunc.go:422] -     := Op.store 40 t128 t126
  repeat' (first | apply wpl_nil | (apply g_any; first | (refine ssr (a + q) rfl rfl (by omega) (by simp only [List.length_set]; omega) rfl rfl ?_; refine wnL rfl ?_)))
  refine weu_last (by kernel_rfl) ?_
  refine whu_done (by kernel_rfl) ?_
  repeat' (first | apply wpe_seq | apply wpl_nil | apply wpc_region | (apply g_any; first | (apply gmv; refine smv rfl rfl ?_) | (apply gas; refine sas rfl rfl ?_) | (apply gbn; first | (apply gsb; refine ssb rfl rfl (by omega) (by omega) rfl ?_))) | (apply g_wpe; first | apply wpe_block))
  refine wpe_back q ⟨by omega, by omega⟩ (by omega) ⟨lki (by omega), rfl, rfl, trivial⟩ rfl ?_
  have e3 := set_two (P ++ L.take q) (L.drop (q + 1) ++ S) x L[q]
  rw [hA] at e3
  dsimp only [cellsL]
  rw [← ex, ← ez, e3, List.drop_eq_getElem_cons hq']
  simp only [List.append_assoc, List.cons_append, List.nil_append]
  exact List.Sublist.refl _
end Go.Proofs.Ytgjhbambdnpcmaa
