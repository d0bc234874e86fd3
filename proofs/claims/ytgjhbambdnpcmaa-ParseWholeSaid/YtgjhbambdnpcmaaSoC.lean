/- Proved on the way: Contracts: two rows are merged in place. -/
import Derived.Test.YtgjhbambdnpcmaaSoB
set_option linter.unusedVariables false
set_option linter.unusedSimpArgs false
namespace Go.Proofs.Ytgjhbambdnpcmaa
open Go Go.Eng Go.Srt
theorem idx_ {α : Type} {l : List α} {i j : Nat} {x : α} (h : l[j]? = some x) (e : i = j) : l[i]? = some x := e ▸ h
theorem one_asc {L R : List (List Value)} (hL : Asc ltB keyC L) (hR : Asc ltB keyC R) (h : ¬ (0 < L.length ∧ 0 < R.length)) : Asc ltB keyC (L ++ R) := by
  by_cases h0 : L.length = 0
  · rw [List.length_eq_zero_iff.1 h0]; exact hR
  · rw [List.length_eq_zero_iff.1 (show R.length = 0 by omega), List.append_nil]; exact hL
theorem rotate_i (P U V S : List (List Value)) (g m c a b d : Nat) (f : Value) (H : GH) (ha : P.length = a) (hb : a + U.length = b) (hd : b + V.length = d) (hm : d + S.length = m) (hbig : m ≤ 1099511627776) (hp : ∀ xs ∈ P ++ U ++ V ++ S, PairC xs) (hU : 0 < U.length) (hV : 0 < V.length) {ia ib id : Int} (ea : ia = (a : Nat)) (eb : ib = (b : Nat)) (ed : id = (d : Nat)) :
    CtL Try.prog 84 [.slice (some ⟨g, 0, none⟩) m c, .int .i64 ia, .int .i64 ib, .int .i64 id, f] H [.row 40 7 (some ⟨g, 0, none⟩) c (P ++ U ++ V ++ S)] (fun r L' => r = .tuple #[] ∧ L' = [.row 40 7 (some ⟨g, 0, none⟩) c (P ++ V ++ U ++ S)]) := by
  subst ea eb ed; exact rotate_fn P U V S g m c a b d f H ha hb hd hm hbig hp hU hV
set_option maxHeartbeats 4000000 in
theorem sym_fn : ∀ (n : Nat) (P L R S : List (List Value)) (g m c a b d : Nat) (H : GH) (ia ib id : Int), L.length + R.length ≤ n → ia = (a : Nat) → ib = (b : Nat) → id = (d : Nat) → P.length = a → a + L.length = b → b + R.length = d → d + S.length = m → m ≤ 1099511627776 → (∀ xs ∈ P ++ (L ++ R) ++ S, PairC xs) → Asc ltB keyC L → Asc ltB keyC R → 0 < L.length → 0 < R.length →
    CtL Try.prog 79 [.slice (some ⟨g, 0, none⟩) m c, .int .i64 ia, .int .i64 ib, .int .i64 id, cmpF] H [.row 40 7 (some ⟨g, 0, none⟩) c (P ++ (L ++ R) ++ S)] (SymX g c P L R S) := by
  intro n
  induction n with
  | zero => intro P L R S g m c a b d H ia ib id hn; intros; omega
  | succ n ih =>
  intro P L R S g m c a b d H ia ib id hn ea eb ed ha hb hd hm hbig hp hL hR hL0 hR0
  by_cases hL1 : L.length = 1
  · obtain ⟨x, rfl⟩ := List.length_eq_one_iff.1 hL1
    exact sym_left P R S x g m c a d H ea (by simp at hb; omega) ed ha (by simp at hb; omega) hm hbig hp hR hR0
  by_cases hR1 : R.length = 1
  · obtain ⟨x, rfl⟩ := List.length_eq_one_iff.1 hR1
    exact sym_right P L S x g m c a b H ea eb (by simp at hd; omega) ha hb (by simp at hd; omega) hbig hp hL (by omega)
  subst ea eb ed
  refine fn_intro Try.func79 rfl rfl (fun w => ?_)
  have hl : (P ++ (L ++ R) ++ S).length = m := by simp; omega
  obtain ⟨mid, hmid⟩ : ∃ mid : Nat, mid = (a + d) / 2 := ⟨_, rfl⟩
  have emid : ((a : Int) + (d : Nat)) / 2 = (mid : Nat) := by omega
  have hmr : a < mid ∧ mid < d := by omega
  have gL : ∀ t, t < L.length → (P ++ (L ++ R) ++ S)[a + t]? = L[t]? := fun t ht => by
    rw [get_mid (by omega) (by simp; omega), ha, show a + t - a = t by omega, List.getElem?_append_left ht]
  have gR : ∀ t, t < R.length → (P ++ (L ++ R) ++ S)[b + t]? = R[t]? := fun t ht => by
    rw [get_mid (by omega) (by simp; omega), ha, List.getElem?_append_right (by omega), show b + t - a - L.length = t by omega]
  obtain ⟨s0, r0, hs⟩ : ∃ s0 r0 : Nat, (mid < b ∧ s0 + d = mid + b ∧ r0 = mid) ∨ (¬ mid < b ∧ s0 = a ∧ r0 = b) := by
    by_cases h : mid < b
    · exact ⟨mid + b - d, mid, .inl ⟨h, by omega, rfl⟩⟩
    · exact ⟨a, b, .inr ⟨h, rfl, rfl⟩⟩
  have hs0 : a ≤ s0 ∧ s0 ≤ r0 ∧ r0 ≤ b ∧ r0 ≤ mid ∧ mid + b ≤ s0 + d := by omega
  by_cases hbm : mid < b
  all_goals repeat' (first | apply wpc_seq | apply wpe_seq | apply wpl_nil | apply wpc_region | (apply g_any; first | (refine sc7 rfl (by omega) (by omega) rfl ?_) | (refine shr rfl rfl rfl rfl ?_) | (apply gmv; refine smv rfl rfl ?_) | (apply gas; refine sas rfl rfl ?_) | (apply gbn; first | (apply gad; refine sad rfl rfl (by omega) (by omega) rfl ?_) | (apply gsb; refine ssb rfl rfl (by omega) (by omega) rfl ?_) | refine sbn rfl rfl ?_) | (apply gcv; first | refine sc6 rfl (by omega) (by omega) rfl ?_)) | (apply g_wpc; first | apply wpc_block | (apply g_cond; first | (refine cdD rfl (fun hb => ?_) (fun hb => ?_) <;> (try (exfalso; first | (with_reducible exact absurd (by assumption) hb) | (with_reducible exact absurd hb (by assumption)) | omega)))) | apply wpc_skip))
  all_goals
    refine wpc_loopS (ι := Nat × Nat) (fun q => s0 ≤ q.1 ∧ q.1 ≤ q.2 ∧ q.2 ≤ r0 ∧ (q.1 = s0 ∨ ∃ x y, L[q.1 - 1 - a]? = some x ∧ R[mid - q.1]? = some y ∧ ltB (keyC y) (keyC x) = false) ∧ (q.2 = r0 ∨ ∃ x y, L[q.2 - a]? = some x ∧ R[mid - q.2 - 1]? = some y ∧ ltB (keyC y) (keyC x) = true)) (fun q => q.2 - q.1)
      (fun q => [(20, .int .i64 (q.1 : Nat)), (21, .int .i64 (q.2 : Nat)), (19, .int .i64 ((mid + b : Nat) : Int)), (18, .int .i64 (mid : Nat)), (22, .int .i64 ((mid + b - 1 : Nat) : Int)), (0, .slice (some ⟨g, 0, none⟩) m c), (1, .int .i64 a), (2, .int .i64 b), (3, .int .i64 d), (4, cmpF)]) (fun _ => H) (fun _ => [.row 40 7 (some ⟨g, 0, none⟩) c (P ++ (L ++ R) ++ S)]) (s0, r0) ⟨Nat.le_refl _, hs0.2.1, Nat.le_refl _, .inl rfl, .inl rfl⟩ ⟨lki (by dsimp only; omega), lki (by dsimp only; omega), lki (by omega), lki (by omega), lki (by omega), rfl, rfl, rfl, rfl, rfl, trivial⟩ rfl (List.Sublist.refl _) ?_
  all_goals
    rintro ⟨i, j⟩ ⟨hi0, hij, hj0, hlo, hhi⟩
    dsimp only at hi0 hij hj0 hlo hhi ⊢
    by_cases hlt : i < j
    · -- the search goes on
      obtain ⟨h, hh⟩ : ∃ h : Nat, h = (i + j) / 2 := ⟨_, rfl⟩
      have hr : i ≤ h ∧ h < j := by omega
      have eh : ((i : Int) + (j : Nat)) / 2 = (h : Nat) := by omega
      have ep : ((mid + b - 1 : Nat) : Int) - (h : Nat) = ((b + (mid - 1 - h) : Nat) : Int) := by omega
      have hlL : h - a < L.length := by omega
      have hlR : mid - 1 - h < R.length := by omega
      obtain ⟨kx, a1, a2, a3, a4, a5, a6, a7, a8, a9, a10, ex⟩ := hp L[h - a] (by simp)
      obtain ⟨ky, b1, b2, b3, b4, b5, b6, b7, b8, b9, b10, ey⟩ := hp R[mid - 1 - h] (by simp)
      have eL : L[h - a]? = some L[h - a] := List.getElem?_eq_getElem hlL
      have eR : R[mid - 1 - h]? = some R[mid - 1 - h] := List.getElem?_eq_getElem hlR
      have gx := ((gL (h - a) hlL).trans eL).trans (congrArg some ex)
      have gy := ((gR (mid - 1 - h) hlR).trans eR).trans (congrArg some ey)
      rw [show a + (h - a) = h by omega] at gx
      have hkx : keyC L[h - a] = kx := by rw [ex]; rfl
      have hky : keyC R[mid - 1 - h] = ky := by rw [ey]; rfl
      have hc := cmpI_neg (a := ky) (b := kx)
      repeat' (first | apply wpc_seq | apply wpe_seq | apply wpl_nil | apply wpc_region | (apply g_any; first | (refine sc7 rfl (by omega) (by omega) rfl ?_) | (refine shr rfl rfl rfl rfl ?_) | (apply gmv; refine smv rfl rfl ?_) | (apply gas; refine sas rfl rfl ?_) | (apply gbn; first | (apply gad; refine sad rfl rfl (by omega) (by omega) rfl ?_) | refine sbn rfl rfl ?_) | (apply gcv; first | refine sc6 rfl (by omega) (by omega) rfl ?_)) | (apply g_wpc; first | apply wpc_block | (apply g_cond; first | (refine cdD rfl (fun hb => ?_) (fun hb => ?_) <;> (try (exfalso; first | (with_reducible exact absurd (by assumption) hb) | (with_reducible exact absurd hb (by assumption)) | omega))) | (refine cdN rfl (fun hb => ?_) (fun hb => ?_) <;> (try (exfalso; first | (with_reducible exact absurd (by assumption) hb) | (with_reducible exact absurd hb (by assumption)) | omega)))) | apply wpc_skip | (apply g_draw; refine wpc_quiet mixed (by kernel_rfl) ?_)) | (apply g_wpe; first | apply wpe_block) | apply wpq_nil | (apply gq_any; first | refine qlf h rfl gx 0 rfl rfl (by omega) rfl ?_ | refine qlf (b + (mid - 1 - h)) rfl gy 0 rfl rfl (by omega) rfl ?_ | (apply kmv; refine qmv rfl rfl ?_) | (apply kbn; first | (apply ksb; refine qsb rfl rfl (by omega) (by omega) rfl ?_) | refine qbn rfl rfl ?_) | (apply kcl; first | refine qcl rfl (cmpP_fn _ _ _ _ _ _ _ _ _ _ _ _ _ _ _) rfl ?_) | (apply kun; refine qun rfl rfl ?_) | (apply kia; refine qia rfl rfl (by omega) (by omega) rfl ?_)))
      all_goals rw [eh]
      all_goals first
        | (have hb' : ¬ cmpI ky kx < 0 := by assumption
           refine wpe_back (h + 1, j) ⟨by dsimp only; omega, by dsimp only; omega, hj0, .inr ⟨L[h - a], R[mid - 1 - h], ?_, ?_, ?_⟩, hhi⟩ (by dsimp only; omega) ⟨lki (by dsimp only; omega), rfl, rfl, rfl, rfl, rfl, rfl, rfl, rfl, rfl, trivial⟩ rfl (List.Sublist.refl _)
           · exact idx_ eL (by (try dsimp only) <;> omega)
           · exact idx_ eR (by (try dsimp only) <;> omega)
           · rw [hkx, hky]
             cases h4 : ltB ky kx with
             | false => rfl
             | true => exact absurd (hc.2 h4) hb')
        | (have hb' : cmpI ky kx < 0 := by assumption
           refine wpe_back (i, h) ⟨hi0, by dsimp only; omega, by dsimp only; omega, hlo, .inr ⟨L[h - a], R[mid - 1 - h], ?_, ?_, ?_⟩⟩ (by dsimp only; omega) ⟨rfl, rfl, rfl, rfl, rfl, rfl, rfl, rfl, rfl, rfl, trivial⟩ rfl (List.Sublist.refl _)
           · exact idx_ eL (by (try dsimp only) <;> omega)
           · exact idx_ eR (by (try dsimp only) <;> omega)
           · rw [hkx, hky]; exact hc.1 hb')
    · -- where it ends
      obtain rfl : i = j := by omega
      obtain ⟨q1, q2⟩ := sym_split ordB (key := keyC) hL hR (i := i - a) (j := mid - i) (by omega) (by omega) (by
        rcases hlo with h | ⟨x, y, hx, hy, hxy⟩
        · omega
        · exact .inr (.inr ⟨x, y, by rw [← hx]; congr 1; omega, hy, hxy⟩)) (by
        rcases hhi with h | ⟨x, y, hx, hy, hxy⟩
        · omega
        · exact .inr (.inr ⟨x, y, hx, hy, hxy⟩))
      obtain ⟨L1, L2, R1, R2, eL, eR, hl1, hr1, h1, h2⟩ : ∃ L1 L2 R1 R2, L = L1 ++ L2 ∧ R = R1 ++ R2 ∧ L1.length = i - a ∧ R1.length = mid - i ∧ (∀ x ∈ L1, ∀ y ∈ R2, ltB (keyC y) (keyC x) = false) ∧ (∀ x ∈ R1, ∀ y ∈ L2, ltB (keyC x) (keyC y) = true) :=
        ⟨_, _, _, _, (List.take_append_drop (i - a) L).symm, (List.take_append_drop (mid - i) R).symm, by rw [List.length_take]; omega, by rw [List.length_take]; omega, q1, q2⟩
      clear q1 q2
      clear gL gR hlo hhi
      subst eL eR
      have hll : (L1 ++ L2).length = L1.length + L2.length := List.length_append
      have hrr : (R1 ++ R2).length = R1.length + R2.length := List.length_append
      obtain ⟨hL1', hL2, _⟩ := asc_append.1 hL
      obtain ⟨hR1', hR2, _⟩ := asc_append.1 hR
      have hpQ : ∀ xs ∈ P ++ (L1 ++ R1) ++ (L2 ++ (R2 ++ S)), PairC xs := fun xs hx => hp xs (by
        simp only [List.mem_append] at hx ⊢
        rcases hx with (hx | hx | hx) | hx | hx | hx <;> simp [hx])
      by_cases c1 : 0 < L2.length ∧ 0 < R1.length
      · first
          | (exfalso; omega)
          | skip
            repeat' (first | apply wpc_seq | apply wpe_seq | apply wpl_nil | apply wpc_region | (apply g_any; first | (apply gmv; refine smv rfl rfl ?_) | (apply gas; refine sas rfl rfl ?_) | (apply gbn; first | (apply gsb; refine ssb rfl rfl (by omega) (by omega) rfl ?_) | refine sbn rfl rfl ?_) | (apply gpk; refine spk rfl rfl ?_) | (apply g_guard; first | refine wpl_wanted (wants_tt rfl rfl rfl) ?_ | (refine gsD rfl rfl rfl (fun hb => ?_) (fun hb => ?_) <;> (try (exfalso; first | (with_reducible exact absurd (by assumption) hb) | (with_reducible exact absurd hb (by assumption)) | omega))))) | (apply g_wpc; first | (apply g_cond; first | (refine cdD rfl (fun hb => ?_) (fun hb => ?_) <;> (try (exfalso; first | (with_reducible exact absurd (by assumption) hb) | (with_reducible exact absurd hb (by assumption)) | omega)))) | apply wpc_exit) | (apply g_wpe; first | apply wpe_then_exit | apply wpe_block_eq | apply wpe_back_exit))
            refine weL [.row 40 7 (some ⟨g, 0, none⟩) c ((P ++ L1) ++ L2 ++ R1 ++ (R2 ++ S))] (by simp only [List.append_assoc]) ?_
            refine scq 0 rfl rfl (rotate_i (P ++ L1) L2 R1 (R2 ++ S) g m c i b (mid + b - i) _ H (by simp only [List.length_append]; omega) (by omega) (by omega) (by simp only [List.length_append]; omega) hbig (fun xs hx => hp xs (by
              simp only [List.mem_append] at hx ⊢
              rcases hx with (((hx | hx) | hx) | hx) | hx | hx <;> simp [hx])) c1.1 c1.2 (by omega) (by omega) (by omega)) rfl rfl (fun r Lq hX => ?_)
            obtain ⟨rfl, rfl⟩ := hX
            refine weL [.row 40 7 (some ⟨g, 0, none⟩) c (P ++ (L1 ++ R1) ++ (L2 ++ (R2 ++ S)))] (by simp only [List.append_assoc, List.nil_append, List.append_nil]) ?_
            by_cases c2 : 0 < L1.length ∧ 0 < R1.length
            · first
                | (exfalso; omega)
                | skip
                  repeat' (first | apply wpc_seq | apply wpe_seq | apply wpl_nil | apply wpc_region | (apply g_any; first | (apply gmv; refine smv rfl rfl ?_) | (apply gbn; first | refine sbn rfl rfl ?_) | (apply gpk; refine spk rfl rfl ?_) | (apply g_guard; first | refine wpl_wanted (wants_tt rfl rfl rfl) ?_ | (refine gsD rfl rfl rfl (fun hb => ?_) (fun hb => ?_) <;> (try (exfalso; first | (with_reducible exact absurd (by assumption) hb) | (with_reducible exact absurd hb (by assumption)) | omega))))) | (apply g_wpc; first | (apply g_cond; first | (refine cdD rfl (fun hb => ?_) (fun hb => ?_) <;> (try (exfalso; first | (with_reducible exact absurd (by assumption) hb) | (with_reducible exact absurd hb (by assumption)) | omega))))))
                  refine scq 0 rfl rfl (ih P L1 R1 (L2 ++ (R2 ++ S)) g m c a i mid H _ _ _ (by omega) rfl rfl rfl ha (by omega) (by omega) (by simp only [List.length_append]; omega) hbig hpQ hL1' hR1' c2.1 c2.2) rfl rfl (fun r Lq hX => ?_)
                  obtain ⟨rfl, M1, rfl, hA1, hB1, hM1, hmem1⟩ := hX
                  refine wnL rfl ?_
                  by_cases c3 : 0 < L2.length ∧ 0 < R2.length
                  · first
                      | (exfalso; omega)
                      | skip
                        repeat' (first | apply wpc_seq | apply wpe_seq | apply wpl_nil | apply wpc_region | (apply g_any; first | (apply gmv; refine smv rfl rfl ?_) | (apply gbn; first | refine sbn rfl rfl ?_) | (apply gpk; refine spk rfl rfl ?_) | (apply g_guard; first | refine wpl_wanted (wants_tt rfl rfl rfl) ?_ | (refine gsD rfl rfl rfl (fun hb => ?_) (fun hb => ?_) <;> (try (exfalso; first | (with_reducible exact absurd (by assumption) hb) | (with_reducible exact absurd hb (by assumption)) | omega))))) | (apply g_wpc; first | (apply g_cond; first | (refine cdD rfl (fun hb => ?_) (fun hb => ?_) <;> (try (exfalso; first | (with_reducible exact absurd (by assumption) hb) | (with_reducible exact absurd hb (by assumption)) | omega))))))
                        refine weL [.row 40 7 (some ⟨g, 0, none⟩) c ((P ++ M1) ++ (L2 ++ R2) ++ S)] (by simp only [List.append_assoc]) ?_
                        refine scq 0 rfl rfl (ih (P ++ M1) L2 R2 S g m c mid (mid + b - i) d H _ _ _ (by omega) (by omega) (by omega) (by omega) (by simp only [List.length_append]; omega) (by omega) (by omega) hm hbig (fun xs hx => hp xs (by
                          simp only [List.mem_append] at hx hmem1 ⊢
                          rcases hx with ((hx | hx) | hx) | hx
                          · simp [hx]
                          · rcases hmem1 xs hx with h | h <;> simp [h]
                          · rcases hx with h | h <;> simp [h]
                          · simp [hx])) hL2 hR2 c3.1 c3.2) rfl rfl (fun r Lq hX => ?_)
                        obtain ⟨rfl, M2, rfl, hA2, hB2, hM2, hmem2⟩ := hX
                        refine wnL rfl ?_
                        repeat' (first | apply wpl_nil)
                        have hfin := merged ordB hA1 hA2 hB1 hB2 hL hR h1 h2
                        refine wpe_end (.inr rfl) (by exact .nil) _ (List.Sublist.refl _) (Grow.refl _ _) ⟨rfl, M1 ++ M2, by simp only [List.append_assoc], hfin.1, hfin.2, by simp only [List.length_append] at *; omega, fun xs hx => hfin.2.symm.mem hx⟩
                  · first
                      | (exfalso; omega)
                      | skip
                        have hfin := merged ordB hA1 (one_asc hL2 hR2 c3) hB1 (Alike.refl _) hL hR h1 h2
                        repeat' (first | apply wpc_seq | apply wpe_seq | apply wpl_nil | apply wpc_region | (apply g_any; first | (apply gmv; refine smv rfl rfl ?_) | (apply gbn; first | refine sbn rfl rfl ?_) | (apply gpk; refine spk rfl rfl ?_) | (apply g_guard; first | refine wpl_wanted (wants_tt rfl rfl rfl) ?_ | (refine gsD rfl rfl rfl (fun hb => ?_) (fun hb => ?_) <;> (try (exfalso; first | (with_reducible exact absurd (by assumption) hb) | (with_reducible exact absurd hb (by assumption)) | omega))))) | (apply g_wpc; first | (apply g_cond; first | (refine cdD rfl (fun hb => ?_) (fun hb => ?_) <;> (try (exfalso; first | (with_reducible exact absurd (by assumption) hb) | (with_reducible exact absurd hb (by assumption)) | omega)))) | apply wpc_skip))
                        all_goals refine wpe_end (.inr rfl) (by exact .nil) _ (List.Sublist.refl _) (Grow.refl _ _) ⟨rfl, M1 ++ (L2 ++ R2), by simp only [List.append_assoc], hfin.1, hfin.2, by simp only [List.length_append] at *; omega, fun xs hx => hfin.2.symm.mem hx⟩
            · first
                | (exfalso; omega)
                | skip
                  have hA1 := one_asc hL1' hR1' c2
                  have hB1 : Alike keyC (L1 ++ R1) (L1 ++ R1) := Alike.refl _
                  have hM1 : (L1 ++ R1).length = L1.length + R1.length := List.length_append
                  have hmem1 : ∀ xs ∈ L1 ++ R1, xs ∈ L1 ++ R1 := fun _ h => h
                  by_cases c3 : 0 < L2.length ∧ 0 < R2.length
                  · first
                      | (exfalso; omega)
                      | skip
                        repeat' (first | apply wpc_seq | apply wpe_seq | apply wpl_nil | apply wpc_region | (apply g_any; first | (apply gmv; refine smv rfl rfl ?_) | (apply gbn; first | refine sbn rfl rfl ?_) | (apply gpk; refine spk rfl rfl ?_) | (apply g_guard; first | refine wpl_wanted (wants_tt rfl rfl rfl) ?_ | refine wpl_skip (wants_tf rfl rfl rfl) rfl ?_ | (refine gsD rfl rfl rfl (fun hb => ?_) (fun hb => ?_) <;> (try (exfalso; first | (with_reducible exact absurd (by assumption) hb) | (with_reducible exact absurd hb (by assumption)) | omega))))) | (apply g_wpc; first | (apply g_cond; first | refine cdF rfl ?_ | (refine cdD rfl (fun hb => ?_) (fun hb => ?_) <;> (try (exfalso; first | (with_reducible exact absurd (by assumption) hb) | (with_reducible exact absurd hb (by assumption)) | omega)))) | apply wpc_skip))
                        refine weL [.row 40 7 (some ⟨g, 0, none⟩) c ((P ++ (L1 ++ R1)) ++ (L2 ++ R2) ++ S)] (by simp only [List.append_assoc]) ?_
                        refine scq 0 rfl rfl (ih (P ++ (L1 ++ R1)) L2 R2 S g m c mid (mid + b - i) d H _ _ _ (by omega) (by omega) (by omega) (by omega) (by simp only [List.length_append]; omega) (by omega) (by omega) hm hbig (fun xs hx => hp xs (by
                          simp only [List.mem_append] at hx hmem1 ⊢
                          rcases hx with ((hx | hx) | hx) | hx
                          · simp [hx]
                          · rcases hmem1 xs hx with h | h <;> simp [h]
                          · rcases hx with h | h <;> simp [h]
                          · simp [hx])) hL2 hR2 c3.1 c3.2) rfl rfl (fun r Lq hX => ?_)
                        obtain ⟨rfl, M2, rfl, hA2, hB2, hM2, hmem2⟩ := hX
                        refine wnL rfl ?_
                        repeat' (first | apply wpl_nil)
                        have hfin := merged ordB hA1 hA2 hB1 hB2 hL hR h1 h2
                        refine wpe_end (.inr rfl) (by exact .nil) _ (List.Sublist.refl _) (Grow.refl _ _) ⟨rfl, (L1 ++ R1) ++ M2, by simp only [List.append_assoc], hfin.1, hfin.2, by simp only [List.length_append] at *; omega, fun xs hx => hfin.2.symm.mem hx⟩
                  · first
                      | (exfalso; omega)
                      | skip
                        have hfin := merged ordB hA1 (one_asc hL2 hR2 c3) hB1 (Alike.refl _) hL hR h1 h2
                        repeat' (first | apply wpc_seq | apply wpe_seq | apply wpl_nil | apply wpc_region | (apply g_any; first | (apply gmv; refine smv rfl rfl ?_) | (apply gbn; first | refine sbn rfl rfl ?_) | (apply gpk; refine spk rfl rfl ?_) | (apply g_guard; first | refine wpl_wanted (wants_tt rfl rfl rfl) ?_ | refine wpl_skip (wants_tf rfl rfl rfl) rfl ?_ | (refine gsD rfl rfl rfl (fun hb => ?_) (fun hb => ?_) <;> (try (exfalso; first | (with_reducible exact absurd (by assumption) hb) | (with_reducible exact absurd hb (by assumption)) | omega))))) | (apply g_wpc; first | (apply g_cond; first | refine cdF rfl ?_ | (refine cdD rfl (fun hb => ?_) (fun hb => ?_) <;> (try (exfalso; first | (with_reducible exact absurd (by assumption) hb) | (with_reducible exact absurd hb (by assumption)) | omega)))) | apply wpc_skip))
                        all_goals refine wpe_end (.inr rfl) (by exact .nil) _ (List.Sublist.refl _) (Grow.refl _ _) ⟨rfl, (L1 ++ R1) ++ (L2 ++ R2), by simp only [List.append_assoc], hfin.1, hfin.2, by simp only [List.length_append] at *; omega, fun xs hx => hfin.2.symm.mem hx⟩
      · first
          | (exfalso; omega)
          | skip
            refine weC [.row 40 7 (some ⟨g, 0, none⟩) c (P ++ (L1 ++ R1) ++ (L2 ++ (R2 ++ S)))] (by
              by_cases h : L2.length = 0
              · rw [List.length_eq_zero_iff.1 h]; simp only [List.append_assoc, List.append_nil, List.nil_append]
              · rw [List.length_eq_zero_iff.1 (show R1.length = 0 by omega)]; simp only [List.append_assoc, List.append_nil, List.nil_append]) ?_
            by_cases c2 : 0 < L1.length ∧ 0 < R1.length
            · first
                | (exfalso; omega)
                | skip
                  repeat' (first | apply wpc_seq | apply wpe_seq | apply wpl_nil | apply wpc_region | (apply g_any; first | (apply gmv; refine smv rfl rfl ?_) | (apply gas; refine sas rfl rfl ?_) | (apply gbn; first | (apply gsb; refine ssb rfl rfl (by omega) (by omega) rfl ?_) | refine sbn rfl rfl ?_) | (apply gpk; refine spk rfl rfl ?_) | (apply g_guard; first | refine wpl_wanted (wants_tt rfl rfl rfl) ?_ | refine wpl_skip (wants_tf rfl rfl rfl) rfl ?_ | (refine gsD rfl rfl rfl (fun hb => ?_) (fun hb => ?_) <;> (try (exfalso; first | (with_reducible exact absurd (by assumption) hb) | (with_reducible exact absurd hb (by assumption)) | omega))))) | (apply g_wpc; first | (apply g_cond; first | refine cdF rfl ?_ | (refine cdD rfl (fun hb => ?_) (fun hb => ?_) <;> (try (exfalso; first | (with_reducible exact absurd (by assumption) hb) | (with_reducible exact absurd hb (by assumption)) | omega)))) | apply wpc_skip | apply wpc_exit) | (apply g_wpe; first | apply wpe_then_exit | apply wpe_block_eq | apply wpe_back_exit))
                  refine scq 0 rfl rfl (ih P L1 R1 (L2 ++ (R2 ++ S)) g m c a i mid H _ _ _ (by omega) rfl rfl rfl ha (by omega) (by omega) (by simp only [List.length_append]; omega) hbig hpQ hL1' hR1' c2.1 c2.2) rfl rfl (fun r Lq hX => ?_)
                  obtain ⟨rfl, M1, rfl, hA1, hB1, hM1, hmem1⟩ := hX
                  refine wnL rfl ?_
                  by_cases c3 : 0 < L2.length ∧ 0 < R2.length
                  · first
                      | (exfalso; omega)
                      | skip
                        skip
                        refine weL [.row 40 7 (some ⟨g, 0, none⟩) c ((P ++ M1) ++ (L2 ++ R2) ++ S)] (by simp only [List.append_assoc]) ?_
                        refine scq 0 rfl rfl (ih (P ++ M1) L2 R2 S g m c mid (mid + b - i) d H _ _ _ (by omega) (by omega) (by omega) (by omega) (by simp only [List.length_append]; omega) (by omega) (by omega) hm hbig (fun xs hx => hp xs (by
                          simp only [List.mem_append] at hx hmem1 ⊢
                          rcases hx with ((hx | hx) | hx) | hx
                          · simp [hx]
                          · rcases hmem1 xs hx with h | h <;> simp [h]
                          · rcases hx with h | h <;> simp [h]
                          · simp [hx])) hL2 hR2 c3.1 c3.2) rfl rfl (fun r Lq hX => ?_)
                        obtain ⟨rfl, M2, rfl, hA2, hB2, hM2, hmem2⟩ := hX
                        refine wnL rfl ?_
                        skip
                        have hfin := merged ordB hA1 hA2 hB1 hB2 hL hR h1 h2
                        refine wpe_end (.inr rfl) (by exact .nil) _ (List.Sublist.refl _) (Grow.refl _ _) ⟨rfl, M1 ++ M2, by simp only [List.append_assoc], hfin.1, hfin.2, by simp only [List.length_append] at *; omega, fun xs hx => hfin.2.symm.mem hx⟩
                  · first
                      | (exfalso; omega)
                      | skip
                        have hfin := merged ordB hA1 (one_asc hL2 hR2 c3) hB1 (Alike.refl _) hL hR h1 h2
                        repeat' (first | apply wpc_seq | apply wpe_seq | apply wpl_nil | apply wpc_region | (apply g_any; first | (apply gmv; refine smv rfl rfl ?_) | (apply gbn; first | refine sbn rfl rfl ?_) | (apply gpk; refine spk rfl rfl ?_) | (apply g_guard; first | refine wpl_skip (wants_tf rfl rfl rfl) rfl ?_ | (refine gsD rfl rfl rfl (fun hb => ?_) (fun hb => ?_) <;> (try (exfalso; first | (with_reducible exact absurd (by assumption) hb) | (with_reducible exact absurd hb (by assumption)) | omega))))) | (apply g_wpc; first | (apply g_cond; first | refine cdF rfl ?_) | apply wpc_skip))
                        all_goals refine wpe_end (.inr rfl) (by exact .nil) _ (List.Sublist.refl _) (Grow.refl _ _) ⟨rfl, M1 ++ (L2 ++ R2), by simp only [List.append_assoc], hfin.1, hfin.2, by simp only [List.length_append] at *; omega, fun xs hx => hfin.2.symm.mem hx⟩
            · first
                | (exfalso; omega)
                | skip
                  have hA1 := one_asc hL1' hR1' c2
                  have hB1 : Alike keyC (L1 ++ R1) (L1 ++ R1) := Alike.refl _
                  have hM1 : (L1 ++ R1).length = L1.length + R1.length := List.length_append
                  have hmem1 : ∀ xs ∈ L1 ++ R1, xs ∈ L1 ++ R1 := fun _ h => h
                  by_cases c3 : 0 < L2.length ∧ 0 < R2.length
                  · first
                      | (exfalso; omega)
                      | skip
                        repeat' (first | apply wpc_seq | apply wpe_seq | apply wpl_nil | apply wpc_region | (apply g_any; first | (apply gmv; refine smv rfl rfl ?_) | (apply gas; refine sas rfl rfl ?_) | (apply gbn; first | (apply gsb; refine ssb rfl rfl (by omega) (by omega) rfl ?_) | refine sbn rfl rfl ?_) | (apply gpk; refine spk rfl rfl ?_) | (apply g_guard; first | refine wpl_wanted (wants_tt rfl rfl rfl) ?_ | (refine gsD rfl rfl rfl (fun hb => ?_) (fun hb => ?_) <;> (try (exfalso; first | (with_reducible exact absurd (by assumption) hb) | (with_reducible exact absurd hb (by assumption)) | omega))))) | (apply g_wpc; first | (apply g_cond; first | (refine cdD rfl (fun hb => ?_) (fun hb => ?_) <;> (try (exfalso; first | (with_reducible exact absurd (by assumption) hb) | (with_reducible exact absurd hb (by assumption)) | omega)))) | apply wpc_skip | apply wpc_exit) | (apply g_wpe; first | apply wpe_then_exit | apply wpe_block_eq | apply wpe_back_exit))
                        refine weL [.row 40 7 (some ⟨g, 0, none⟩) c ((P ++ (L1 ++ R1)) ++ (L2 ++ R2) ++ S)] (by simp only [List.append_assoc]) ?_
                        refine scq 0 rfl rfl (ih (P ++ (L1 ++ R1)) L2 R2 S g m c mid (mid + b - i) d H _ _ _ (by omega) (by omega) (by omega) (by omega) (by simp only [List.length_append]; omega) (by omega) (by omega) hm hbig (fun xs hx => hp xs (by
                          simp only [List.mem_append] at hx hmem1 ⊢
                          rcases hx with ((hx | hx) | hx) | hx
                          · simp [hx]
                          · rcases hmem1 xs hx with h | h <;> simp [h]
                          · rcases hx with h | h <;> simp [h]
                          · simp [hx])) hL2 hR2 c3.1 c3.2) rfl rfl (fun r Lq hX => ?_)
                        obtain ⟨rfl, M2, rfl, hA2, hB2, hM2, hmem2⟩ := hX
                        refine wnL rfl ?_
                        repeat' (first | apply wpl_nil)
                        have hfin := merged ordB hA1 hA2 hB1 hB2 hL hR h1 h2
                        refine wpe_end (.inr rfl) (by exact .nil) _ (List.Sublist.refl _) (Grow.refl _ _) ⟨rfl, (L1 ++ R1) ++ M2, by simp only [List.append_assoc], hfin.1, hfin.2, by simp only [List.length_append] at *; omega, fun xs hx => hfin.2.symm.mem hx⟩
                  · first
                      | (exfalso; omega)
                      | skip
                        have hfin := merged ordB hA1 (one_asc hL2 hR2 c3) hB1 (Alike.refl _) hL hR h1 h2
                        repeat' (first | apply wpc_seq | apply wpe_seq | apply wpl_nil | apply wpc_region | (apply g_any; first | (apply gmv; refine smv rfl rfl ?_) | (apply gas; refine sas rfl rfl ?_) | (apply gbn; first | (apply gsb; refine ssb rfl rfl (by omega) (by omega) rfl ?_) | refine sbn rfl rfl ?_) | (apply gpk; refine spk rfl rfl ?_) | (apply g_guard; first | refine wpl_wanted (wants_tt rfl rfl rfl) ?_ | refine wpl_skip (wants_tf rfl rfl rfl) rfl ?_ | (refine gsD rfl rfl rfl (fun hb => ?_) (fun hb => ?_) <;> (try (exfalso; first | (with_reducible exact absurd (by assumption) hb) | (with_reducible exact absurd hb (by assumption)) | omega))))) | (apply g_wpc; first | (apply g_cond; first | refine cdF rfl ?_ | (refine cdD rfl (fun hb => ?_) (fun hb => ?_) <;> (try (exfalso; first | (with_reducible exact absurd (by assumption) hb) | (with_reducible exact absurd hb (by assumption)) | omega)))) | apply wpc_skip | apply wpc_exit) | (apply g_wpe; first | apply wpe_then_exit | apply wpe_block_eq | apply wpe_back_exit))
                        all_goals refine wpe_end (.inr rfl) (by exact .nil) _ (List.Sublist.refl _) (Grow.refl _ _) ⟨rfl, (L1 ++ R1) ++ (L2 ++ R2), by simp only [List.append_assoc], hfin.1, hfin.2, by simp only [List.length_append] at *; omega, fun xs hx => hfin.2.symm.mem hx⟩
            end Go.Proofs.Ytgjhbambdnpcmaa
