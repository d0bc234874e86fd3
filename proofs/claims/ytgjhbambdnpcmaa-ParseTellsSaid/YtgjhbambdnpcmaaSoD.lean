/- Proved on the way: Contracts: the sort that is stable. Contracts: slices.Clone, SortStableFunc, CompactFunc of pairs. -/
import Derived.Test.YtgjhbambdnpcmaaSoC
import Derived.Test.YtgjhbambdnpcmaaGoC
set_option linter.unusedVariables false
set_option linter.unusedSimpArgs false
namespace Go.Proofs.Ytgjhbambdnpcmaa
open Go Go.Eng Go.Srt
theorem stable_fn (xss : List (List Value)) (g m c : Nat) (H : GH) (hm : xss.length = m) (hm0 : 0 < m) (hbig : m ≤ 1099511627776) (hp : ∀ xs ∈ xss, PairC xs) :
    CtL Try.prog 66 [.slice (some ⟨g, 0, none⟩) m c, .int .i64 (m : Nat), cmpF] H [.row 40 7 (some ⟨g, 0, none⟩) c xss] (fun r L' => r = .tuple #[] ∧ ∃ Y, L' = [.row 40 7 (some ⟨g, 0, none⟩) c Y] ∧ Asc ltB keyC Y ∧ Alike keyC xss Y ∧ Y.length = m) := by
  refine fn_intro Try.func66 rfl rfl (fun w => ?_)
  repeat' (first | apply wpc_seq | apply wpe_seq | apply wpl_nil | apply wpc_region | (apply g_any; first | (apply gmv; refine smv rfl rfl ?_) | (apply gas; refine sas rfl rfl ?_)) | (apply g_wpc; first | apply wpc_block))
  refine wpc_loopS (ι := List (List Value) × List (List Value)) (fun q => Full ltB keyC 20 q.1 ∧ Alike keyC xss (q.1 ++ q.2) ∧ q.1.length + q.2.length = m) (fun q => q.2.length)
    (fun q => [(0, .slice (some ⟨g, 0, none⟩) m c), (1, .int .i64 (m : Nat)), (2, cmpF), (6, .int .i64 20), (7, .int .i64 (q.1.length : Nat)), (8, .int .i64 ((q.1.length : Nat) + 20))]) (fun _ => H) (fun q => [.row 40 7 (some ⟨g, 0, none⟩) c (q.1 ++ q.2)]) ([], xss) ⟨.nil, Alike.refl _, by simp; omega⟩ ⟨rfl, rfl, rfl, rfl, rfl, rfl, trivial⟩ rfl (List.Sublist.refl _) ?_
  rintro ⟨D, E⟩ ⟨hD, hal, hlen⟩
  dsimp only at hD hal hlen ⊢
  have hpm : ∀ xs ∈ D ++ E, PairC xs := fun xs hx => hp xs (hal.symm.mem hx)
  by_cases hE : 20 ≤ E.length
  case pos =>
    have e0 : E.take 20 ++ E.drop 20 = E := List.take_append_drop 20 E
    have el : (E.take 20).length = 20 := by rw [List.length_take]; omega
    have ed : (E.drop 20).length = E.length - 20 := List.length_drop
    repeat' (first | apply wpc_seq | apply wpe_seq | apply wpl_nil | apply wpc_region | (apply g_any; first | (apply gmv; refine smv rfl rfl ?_) | (apply gbn; first | refine sbn rfl rfl ?_)) | (apply g_wpc; first | apply wpc_block | (apply g_cond; first | (refine cdD rfl (fun hb => ?_) (fun hb => ?_) <;> (try (exfalso; first | (with_reducible exact absurd (by assumption) hb) | (with_reducible exact absurd hb (by assumption)) | omega)))) | apply wpc_skip))
    refine weL [.row 40 7 (some ⟨g, 0, none⟩) c (D ++ E.take 20 ++ E.drop 20)] (by rw [List.append_assoc, e0]) ?_
    refine scq 0 rfl rfl (insert_fn D (E.take 20) (E.drop 20) g m c D.length (D.length + 20) H rfl (by omega) rfl (by omega) (by omega) hbig (by rw [List.append_assoc, e0]; exact hpm)) rfl rfl (fun r Lq hX => ?_)
    obtain ⟨rfl, Y, rfl, hY1, hY2, hY3, hY4⟩ := hX
    refine wnL rfl ?_
    repeat' (first | apply wpc_seq | apply wpe_seq | apply wpl_nil | apply wpc_region | (apply g_any; first | (apply gmv; refine smv rfl rfl ?_) | (apply gas; refine sas rfl rfl ?_) | (apply gbn; first | (apply gad; refine sad rfl rfl (by omega) (by omega) rfl ?_))) | (apply g_wpe; first | apply wpe_block))
    refine wpe_back (D ++ Y, E.drop 20) ⟨.snoc (by omega) hY1 hD, ?_, by simp only [List.length_append]; omega⟩ (by dsimp only; omega) ⟨rfl, rfl, rfl, rfl, lki (by simp only [List.length_append]; omega), lki (by simp only [List.length_append]; omega), trivial⟩ rfl (List.Sublist.refl _)
    rw [← e0, ← List.append_assoc] at hal
    exact hal.trans (((Alike.refl D).append hY2).append (Alike.refl _))
  repeat' (first | apply wpc_seq | apply wpe_seq | apply wpl_nil | apply wpc_region | (apply g_any; first | (apply gmv; refine smv rfl rfl ?_) | (apply gbn; first | refine sbn rfl rfl ?_)) | (apply g_wpc; first | (apply g_cond; first | (refine cdD rfl (fun hb => ?_) (fun hb => ?_) <;> (try (exfalso; first | (with_reducible exact absurd (by assumption) hb) | (with_reducible exact absurd hb (by assumption)) | omega)))) | apply wpc_exit) | (apply g_wpe; first | apply wpe_then_exit | apply wpe_block_eq | apply wpe_back_exit))
  refine weL [.row 40 7 (some ⟨g, 0, none⟩) c (D ++ E ++ [])] (by rw [List.append_nil]) ?_
  refine scq 0 rfl rfl (insert_fn D E [] g m c D.length m H rfl rfl rfl (by omega) (by simp) hbig (by rw [List.append_nil]; exact hpm)) rfl rfl (fun r Lq hX => ?_)
  obtain ⟨rfl, Y, rfl, hY1, hY2, hY3, hY4⟩ := hX
  refine wnL rfl ?_
  repeat' (first | apply wpe_seq | apply wpl_nil | (apply g_wpc; first | apply wpc_block))
  rw [List.append_nil]
  have hal2 : Alike keyC xss (D ++ Y) := hal.trans ((Alike.refl D).append hY2)
  refine wpc_loopS (ι := Nat × List (List Value)) (fun q => Runs ltB keyC q.1 q.2 ∧ Alike keyC xss q.2 ∧ q.2.length = m ∧ 20 ≤ q.1 ∧ q.1 ≤ 2 * m + 20) (fun q => 2 * m + 20 - q.1)
    (fun q => [(0, .slice (some ⟨g, 0, none⟩) m c), (1, .int .i64 (m : Nat)), (2, cmpF), (6, .int .i64 (q.1 : Nat))]) (fun _ => H) (fun q => [.row 40 7 (some ⟨g, 0, none⟩) c q.2]) (20, D ++ Y) ⟨hD.runs (.last (by omega) hY1), hal2, by rw [List.length_append]; omega, by omega, by dsimp only; omega⟩ ⟨rfl, rfl, rfl, rfl, trivial⟩ rfl (List.Sublist.refl _) ?_
  clear hal hlen hpm hD hE hY1 hY2 hY3 hY4 hal2
  rintro ⟨bs, X⟩ ⟨hrun, hal, hlen, hbs, hbs2⟩
  dsimp only at hrun hal hlen hbs hbs2 ⊢
  by_cases hlt : bs < m
  case neg =>
    repeat' (first | apply wpc_seq | apply wpe_seq | apply wpl_nil | apply wpc_region | (apply g_any; first | (apply gmv; refine smv rfl rfl ?_) | (apply gbn; first | refine sbn rfl rfl ?_)) | (apply g_wpc; first | (apply g_cond; first | (refine cdD rfl (fun hb => ?_) (fun hb => ?_) <;> (try (exfalso; first | (with_reducible exact absurd (by assumption) hb) | (with_reducible exact absurd hb (by assumption)) | omega)))) | apply wpc_exit) | (apply g_wpe; first | apply wpe_then_exit | apply wpe_block_eq | apply wpe_back_exit))
    exact wpe_end (.inr rfl) (by exact .nil) _ (List.Sublist.refl _) (Grow.refl _ _) ⟨rfl, X, rfl, hrun.small (by omega), hal, hlen⟩
  repeat' (first | apply wpc_seq | apply wpe_seq | apply wpl_nil | apply wpc_region | (apply g_any; first | (apply gmv; refine smv rfl rfl ?_) | (apply gas; refine sas rfl rfl ?_) | (apply gbn; first | (apply gmu; refine smu rfl rfl (by omega) (by omega) rfl ?_) | refine sbn rfl rfl ?_)) | (apply g_wpc; first | apply wpc_block | (apply g_cond; first | (refine cdD rfl (fun hb => ?_) (fun hb => ?_) <;> (try (exfalso; first | (with_reducible exact absurd (by assumption) hb) | (with_reducible exact absurd hb (by assumption)) | omega)))) | apply wpc_skip))
  refine wpc_loopS (ι := List (List Value) × List (List Value)) (fun q => Full ltB keyC (2 * bs) q.1 ∧ Runs ltB keyC bs q.2 ∧ Alike keyC xss (q.1 ++ q.2) ∧ q.1.length + q.2.length = m) (fun q => q.2.length)
    (fun q => [(0, .slice (some ⟨g, 0, none⟩) m c), (1, .int .i64 (m : Nat)), (2, cmpF), (6, .int .i64 (bs : Nat)), (7, .int .i64 (q.1.length : Nat)), (8, .int .i64 ((q.1.length : Nat) + 2 * (bs : Nat)))]) (fun _ => H) (fun q => [.row 40 7 (some ⟨g, 0, none⟩) c (q.1 ++ q.2)]) ([], X) ⟨.nil, hrun, hal, by simp; omega⟩ ⟨rfl, rfl, rfl, rfl, rfl, lki (by simp), trivial⟩ rfl (List.Sublist.refl _) ?_
  clear hrun hal hlen
  rintro ⟨D, E⟩ ⟨hD, hE, hal, hlen⟩
  dsimp only at hD hE hal hlen ⊢
  have hpm : ∀ xs ∈ D ++ E, PairC xs := fun xs hx => hp xs (hal.symm.mem hx)
  by_cases h2 : 2 * bs ≤ E.length
  case pos =>
    obtain ⟨X, E1, rfl, hX1, hX2, hE1⟩ := hE.part (by omega)
    have hl1 : (X ++ E1).length = X.length + E1.length := List.length_append
    obtain ⟨Y, Z, hEZ, hYl, hYa, hZ⟩ : ∃ Y Z, E1 = Y ++ Z ∧ Y.length = bs ∧ Asc ltB keyC Y ∧ Runs ltB keyC bs Z := by
      by_cases h : bs < E1.length
      · exact hE1.part h
      · exact ⟨E1, [], by simp, by omega, hE1.small (by omega), .last (by simp) List.Pairwise.nil⟩
    subst hEZ
    have hl2 : (Y ++ Z).length = Y.length + Z.length := List.length_append
    repeat' (first | apply wpc_seq | apply wpe_seq | apply wpl_nil | apply wpc_region | (apply g_any; first | (apply gmv; refine smv rfl rfl ?_) | (apply gbn; first | (apply gad; refine sad rfl rfl (by omega) (by omega) rfl ?_) | refine sbn rfl rfl ?_)) | (apply g_wpc; first | apply wpc_block | (apply g_cond; first | (refine cdD rfl (fun hb => ?_) (fun hb => ?_) <;> (try (exfalso; first | (with_reducible exact absurd (by assumption) hb) | (with_reducible exact absurd hb (by assumption)) | omega)))) | apply wpc_skip))
    refine weL [.row 40 7 (some ⟨g, 0, none⟩) c (D ++ (X ++ Y) ++ Z)] (by simp only [List.append_assoc]) ?_
    refine scq 0 rfl rfl (sym_fn _ D X Y Z g m c D.length (D.length + bs) (D.length + 2 * bs) H _ _ _ (Nat.le_refl _) rfl (by omega) (by omega) rfl (by omega) (by omega) (by omega) hbig (by simpa only [List.append_assoc] using hpm) hX2 hYa (by omega) (by omega)) rfl rfl (fun r Lq hX => ?_)
    obtain ⟨rfl, M, rfl, hM1, hM2, hM3, hM4⟩ := hX
    refine wnL rfl ?_
    repeat' (first | apply wpc_seq | apply wpe_seq | apply wpl_nil | apply wpc_region | (apply g_any; first | (apply gmv; refine smv rfl rfl ?_) | (apply gas; refine sas rfl rfl ?_) | (apply gbn; first | (apply gad; refine sad rfl rfl (by omega) (by omega) rfl ?_) | (apply gmu; refine smu rfl rfl (by omega) (by omega) rfl ?_))) | (apply g_wpe; first | apply wpe_block))
    refine wpe_back (D ++ M, Z) ⟨.snoc (by omega) hM1 hD, hZ, ?_, by simp only [List.length_append]; omega⟩ (by dsimp only; omega) ⟨rfl, rfl, rfl, rfl, lki (by simp only [List.length_append]; omega), lki (by simp only [List.length_append]; omega), trivial⟩ rfl (List.Sublist.refl _)
    have h3 : D ++ (X ++ (Y ++ Z)) = D ++ (X ++ Y) ++ Z := by simp only [List.append_assoc]
    rw [h3] at hal
    exact hal.trans (((Alike.refl D).append hM2).append (Alike.refl _))
  by_cases h1 : bs < E.length
  case pos =>
    obtain ⟨X, Y, rfl, hX1, hX2, hY⟩ := hE.part h1
    have hl1 : (X ++ Y).length = X.length + Y.length := List.length_append
    repeat' (first | apply wpc_seq | apply wpe_seq | apply wpl_nil | apply wpc_region | (apply g_any; first | (apply gmv; refine smv rfl rfl ?_) | (apply gas; refine sas rfl rfl ?_) | (apply gbn; first | (apply gad; refine sad rfl rfl (by omega) (by omega) rfl ?_) | refine sbn rfl rfl ?_)) | (apply g_wpc; first | (apply g_cond; first | (refine cdD rfl (fun hb => ?_) (fun hb => ?_) <;> (try (exfalso; first | (with_reducible exact absurd (by assumption) hb) | (with_reducible exact absurd hb (by assumption)) | omega)))) | apply wpc_exit) | (apply g_wpe; first | apply wpe_then_exit | apply wpe_block_eq | apply wpe_back_exit))
    refine weL [.row 40 7 (some ⟨g, 0, none⟩) c (D ++ (X ++ Y) ++ [])] (by rw [List.append_nil]) ?_
    refine scq 0 rfl rfl (sym_fn _ D X Y [] g m c D.length (D.length + bs) m H _ _ _ (Nat.le_refl _) rfl (by omega) (by omega) rfl (by omega) (by omega) (by simp) hbig (by rw [List.append_nil]; exact hpm) hX2 (hY.small (by omega)) (by omega) (by omega)) rfl rfl (fun r Lq hX => ?_)
    obtain ⟨rfl, M, rfl, hM1, hM2, hM3, hM4⟩ := hX
    refine wnL rfl ?_
    repeat' (first | apply wpe_seq | apply wpl_nil | apply wpc_region | (apply g_any; first | (apply gmv; refine smv rfl rfl ?_) | (apply gas; refine sas rfl rfl ?_) | (apply gbn; first | (apply gmu; refine smu rfl rfl (by omega) (by omega) rfl ?_))) | (apply g_wpe; first | apply wpe_block))
    refine wpe_back (2 * bs, D ++ M) ⟨hD.runs (.last (by omega) hM1), hal.trans ((Alike.refl D).append hM2), by rw [List.length_append]; omega, by dsimp only; omega, by dsimp only; omega⟩ (by dsimp only; omega) ⟨rfl, rfl, rfl, lki (by dsimp only; omega), trivial⟩ rfl (by rw [List.append_nil]; exact List.Sublist.refl _)
  repeat' (first | apply wpc_seq | apply wpe_seq | apply wpl_nil | apply wpc_region | (apply g_any; first | (apply gmv; refine smv rfl rfl ?_) | (apply gas; refine sas rfl rfl ?_) | (apply gbn; first | (apply gad; refine sad rfl rfl (by omega) (by omega) rfl ?_) | (apply gmu; refine smu rfl rfl (by omega) (by omega) rfl ?_) | refine sbn rfl rfl ?_)) | (apply g_wpc; first | (apply g_cond; first | (refine cdD rfl (fun hb => ?_) (fun hb => ?_) <;> (try (exfalso; first | (with_reducible exact absurd (by assumption) hb) | (with_reducible exact absurd hb (by assumption)) | omega)))) | apply wpc_skip | apply wpc_exit) | (apply g_wpe; first | apply wpe_block | apply wpe_then_exit | apply wpe_block_eq | apply wpe_back_exit))
  refine wpe_back (2 * bs, D ++ E) ⟨hD.runs (.last (by omega) (hE.small (by omega))), hal, by rw [List.length_append]; omega, by dsimp only; omega, by dsimp only; omega⟩ (by dsimp only; omega) ⟨rfl, rfl, rfl, lki (by dsimp only; omega), trivial⟩ rfl (List.Sublist.refl _)
end Go.Proofs.Ytgjhbambdnpcmaa
set_option linter.unusedVariables false
set_option linter.unusedSimpArgs false
namespace Go.Proofs.Ytgjhbambdnpcmaa
open Go Go.Eng Go.Srt
theorem PairC.len {cs : List Value} (h : PairC cs) : cs.length = 7 := by obtain ⟨_, _, _, _, _, _, _, _, _, _, _, rfl⟩ := h; rfl
theorem PairC.one {cs : List Value} (h : PairC cs) : oneC cs = true := by obtain ⟨_, _, _, _, _, _, _, _, _, _, _, rfl⟩ := h; rfl
theorem clone_fn (A : Option Addr) (n c : Nat) (yss : List (List Value)) (H : GH) (hn : yss.length = n) (hbig : n ≤ 1099511627776) (hp : ∀ ys ∈ yss, PairC ys) (hA : (A = none ∧ yss = []) ∨ ∃ g o, A = some ⟨g, o, none⟩ ∧ (yss = [] ∨ CellsAt H g o yss.flatten)) :
    CtL Try.prog 44 [.slice A n c] H [] (fun r L' => ∃ A' c', r = .slice A' n c' ∧ L' = [.row 40 7 A' c' yss]) := by
  refine fn_intro Try.func44 rfl rfl (fun w => ?_)
  rcases hA with ⟨rfl, rfl⟩ | ⟨g, o, rfl, hA⟩
  · repeat' (first | apply wpc_seq | apply wpe_seq | apply wpl_nil | apply wpc_region | (apply g_any; first | (refine snl rfl rfl ?_) | (apply gmv; refine smv rfl rfl ?_) | (apply gas; refine sas rfl rfl ?_)) | (apply g_wpc; first | (apply g_cond; first | refine cdT rfl ?_) | apply wpc_ret) | (apply g_wpe; first | apply wpe_then_ret))
    refine wpe_addRow 40 7 ?_
    simp only [List.length_nil] at hn
    subst hn
    exact wpe_end (.inl rfl) (by exact .tmp rfl .nil) _ (List.Sublist.refl _) (Grow.refl _ _) ⟨none, 0, rfl, rfl⟩
  · repeat' (first | apply wpc_seq | apply wpe_seq | apply wpl_nil | apply wpc_region | (apply g_any; first | (refine snl rfl rfl ?_) | (refine sb0 rfl (fun _ => ?_)) | (refine sapg yss rfl rfl hA rfl hn.symm (fun ys h => (hp ys h).len) (fun ys h => (hp ys h).one) rfl rfl rfl (by simp only [List.length_nil]; omega) rfl (fun _ _ => ?_); refine wnL rfl ?_) | (apply gmv; refine smv rfl rfl ?_) | (apply gas; refine sas rfl rfl ?_)) | (apply g_wpc; first | (apply g_cond; first | refine cdF rfl ?_) | apply wpc_skip | apply wpc_ret))
    rename_i g1 A1 c1
    refine wpe_end (.inl rfl) (by exact .tmp rfl .nil) _ (List.Sublist.refl _) (Grow.refl _ _) ⟨A1, c1, ?_, rfl⟩
    simp only [List.length_nil, Nat.zero_add, hn]; rfl
theorem insert_nil (A : Option Addr) (c : Nat) (H : GH) :
    CtL Try.prog 78 [.slice A 0 c, .int .i64 0, .int .i64 0, cmpF] H [.row 40 7 A c []] (fun r L' => r = .tuple #[] ∧ L' = [.row 40 7 A c []]) := by
  refine fn_intro Try.func78 rfl rfl (fun w => ?_)
  repeat' (first | apply wpc_seq | apply wpe_seq | apply wpl_nil | apply wpc_region | (apply g_any; first | (apply gmv; refine smv rfl rfl ?_) | (apply gas; refine sas rfl rfl ?_) | (apply gbn; first | (apply gad; refine sad rfl rfl (by omega) (by omega) rfl ?_))) | (apply g_wpc; first | apply wpc_block))
  refine wpc_loopS (ι := Unit) (fun _ => True) (fun _ => 0) (fun _ => [(8, .int .i64 1), (2, .int .i64 0)]) (fun _ => H) (fun _ => [.row 40 7 A c []]) () trivial ⟨rfl, rfl, trivial⟩ rfl (List.Sublist.refl _) ?_
  rintro _ _
  repeat' (first | apply wpc_seq | apply wpe_seq | apply wpl_nil | apply wpc_region | (apply g_any; first | (apply gmv; refine smv rfl rfl ?_) | (apply gbn; first | refine sbn rfl rfl ?_)) | (apply g_wpc; first | (apply g_cond; first | (refine cdD rfl (fun hb => ?_) (fun hb => ?_) <;> (try (exfalso; first | (with_reducible exact absurd (by assumption) hb) | (with_reducible exact absurd hb (by assumption)) | omega)))) | apply wpc_exit) | (apply g_wpe; first | apply wpe_then_exit | apply wpe_block_eq | apply wpe_back_exit))
  exact wpe_end (.inr rfl) (by exact .nil) _ (List.Sublist.refl _) (Grow.refl _ _) ⟨rfl, rfl⟩
theorem stable_nil (A : Option Addr) (c : Nat) (H : GH) :
    CtL Try.prog 66 [.slice A 0 c, .int .i64 0, cmpF] H [.row 40 7 A c []] (fun r L' => r = .tuple #[] ∧ L' = [.row 40 7 A c []]) := by
  refine fn_intro Try.func66 rfl rfl (fun w => ?_)
  repeat' (first | apply wpc_seq | apply wpe_seq | apply wpl_nil | apply wpc_region | (apply g_any; first | (apply gmv; refine smv rfl rfl ?_) | (apply gas; refine sas rfl rfl ?_)) | (apply g_wpc; first | apply wpc_block))
  refine wpc_loopS (ι := Unit) (fun _ => True) (fun _ => 0) (fun _ => [(0, .slice A 0 c), (1, .int .i64 0), (2, cmpF), (6, .int .i64 20), (7, .int .i64 0), (8, .int .i64 20)]) (fun _ => H) (fun _ => [.row 40 7 A c []]) () trivial ⟨rfl, rfl, rfl, rfl, rfl, rfl, trivial⟩ rfl (List.Sublist.refl _) ?_
  rintro _ _
  repeat' (first | apply wpc_seq | apply wpe_seq | apply wpl_nil | apply wpc_region | (apply g_any; first | (apply gmv; refine smv rfl rfl ?_) | (apply gbn; first | refine sbn rfl rfl ?_)) | (apply g_wpc; first | (apply g_cond; first | (refine cdD rfl (fun hb => ?_) (fun hb => ?_) <;> (try (exfalso; first | (with_reducible exact absurd (by assumption) hb) | (with_reducible exact absurd hb (by assumption)) | omega)))) | apply wpc_exit) | (apply g_wpe; first | apply wpe_then_exit | apply wpe_block_eq | apply wpe_back_exit))
  refine scq 0 rfl rfl (insert_nil A c H) rfl rfl (fun r Lq hX => ?_)
  obtain ⟨rfl, rfl⟩ := hX
  refine wnL rfl ?_
  repeat' (first | apply wpe_seq | apply wpl_nil | (apply g_wpc; first | apply wpc_block))
  refine wpc_loopS (ι := Unit) (fun _ => True) (fun _ => 0) (fun _ => [(1, .int .i64 0), (6, .int .i64 20)]) (fun _ => H) (fun _ => [.row 40 7 A c []]) () trivial ⟨rfl, rfl, trivial⟩ rfl (List.Sublist.refl _) ?_
  rintro _ _
  repeat' (first | apply wpc_seq | apply wpe_seq | apply wpl_nil | apply wpc_region | (apply g_any; first | (apply gmv; refine smv rfl rfl ?_) | (apply gbn; first | refine sbn rfl rfl ?_)) | (apply g_wpc; first | (apply g_cond; first | (refine cdD rfl (fun hb => ?_) (fun hb => ?_) <;> (try (exfalso; first | (with_reducible exact absurd (by assumption) hb) | (with_reducible exact absurd hb (by assumption)) | omega)))) | apply wpc_exit) | (apply g_wpe; first | apply wpe_then_exit | apply wpe_block_eq | apply wpe_back_exit))
  exact wpe_end (.inr rfl) (by exact .nil) _ (List.Sublist.refl _) (Grow.refl _ _) ⟨rfl, rfl⟩
theorem sortS_fn (A : Option Addr) (n c : Nat) (xss : List (List Value)) (H : GH) (hn : xss.length = n) (hbig : n ≤ 1099511627776) (hp : ∀ xs ∈ xss, PairC xs) :
    CtL Try.prog 45 [.slice A n c, cmpF] H [.row 40 7 A c xss] (fun r L' => r = .tuple #[] ∧ ∃ Y, L' = [.row 40 7 A c Y] ∧ Asc ltB keyC Y ∧ Alike keyC xss Y ∧ Y.length = n) := by
  refine fn_intro Try.func45 rfl rfl (fun w => ?_)
  by_cases h0 : xss = []
  · subst h0
    simp only [List.length_nil] at hn
    subst hn
    repeat' (first | apply wpc_region | (apply g_any; first | (apply gmv; refine smv rfl rfl ?_) | (apply gln; first | refine slm rfl rfl ?_)))
    refine scq 0 rfl rfl (stable_nil A c H) rfl rfl (fun r Lq hX => ?_)
    obtain ⟨rfl, rfl⟩ := hX
    refine wnL rfl ?_
    repeat' (first | apply wpl_nil)
    exact wpe_end (.inr rfl) (by exact .nil) _ (List.Sublist.refl _) (Grow.refl _ _) ⟨rfl, [], rfl, List.Pairwise.nil, Alike.refl _, rfl⟩
  refine wpc_rowsome [] [] rfl h0 (fun g hg => ?_)
  subst hg
  repeat' (first | apply wpc_region | (apply g_any; first | (apply gmv; refine smv rfl rfl ?_) | (apply gln; first | refine slm rfl rfl ?_)))
  refine scq 0 rfl rfl (stable_fn xss g n c H hn (by have := List.length_pos_iff.2 h0; omega) hbig hp) rfl rfl (fun r Lq hX => ?_)
  obtain ⟨rfl, Y, rfl, h1, h2, h3⟩ := hX
  refine wnL rfl ?_
  repeat' (first | apply wpl_nil)
  exact wpe_end (.inr rfl) (by exact .nil) _ (List.Sublist.refl _) (Grow.refl _ _) ⟨rfl, Y, rfl, h1, h2, h3⟩
end Go.Proofs.Ytgjhbambdnpcmaa
