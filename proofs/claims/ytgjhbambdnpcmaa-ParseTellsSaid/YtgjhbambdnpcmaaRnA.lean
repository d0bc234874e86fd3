/- Proved on the way: Contracts: the reference's put. Contracts: the reference's pairs. -/
import Derived.Test.YtgjhbambdnpcmaaPnB
import Derived.Test.YtgjhbambdnpcmaaPnA
set_option linter.unusedVariables false
set_option linter.unusedSimpArgs false
namespace Go.Proofs.Ytgjhbambdnpcmaa
open Go Go.Eng Go.Srt
theorem putL_pass {p : PT} : ∀ {a b : List PT}, (∀ q ∈ a, q.1 ≠ p.1 ∧ ltB p.1 q.1 = false) → putL (a ++ b) p = a ++ putL b p
  | [], b, _ => rfl
  | q :: r, b, h => by
    have h1 := h q (by simp)
    rw [List.cons_append, putL, if_neg h1.1, if_neg (by rw [h1.2]; simp), putL_pass fun x hx => h x (by simp [hx])]; rfl
set_option maxHeartbeats 2000000 in
theorem put_fn (l : List PT) (key : ByteArray) (t : Tr) (A : Option Addr) (c : Nat) (yss : List (List Value)) (cs : List Value) (H : GH) (hbig : l.length ≤ 1073741824) (hl : Rising l) (hr : Tr.repD H l yss) (hA : sliceAt H A yss) (ht : t.rep H cs) :
    Ct Try.prog 51 [.slice A l.length c, .agg (.string key :: cs).toArray] H [] (fun r H' L' => ∃ A' c' zss, r = .slice A' zss.length c' ∧ Tr.repD H' (putL l (key, t)) zss ∧ sliceAt H' A' zss) := by
  obtain ⟨a1, a2, a3, a4, a5, a6, a7, a8, a9, a10, rfl⟩ := Tr.cells ht
  have hyl := Tr.repD_len hr
  refine fn_intro Try.func51 rfl rfl (fun W0 => ?_)
  repeat' (first | apply wpc_seq | apply wpe_seq | apply wpl_nil | apply wpc_region | (apply g_any; first | (refine sb0 rfl (fun _ => ?_)) | (apply gas; refine sas rfl rfl ?_) | (apply gbx; refine sbx rfl rfl rfl (fun _ => ?_))) | (apply g_wpc; first | apply wpc_block))
  rename_i g3 g5
  refine wpc_loopS (ι := Nat × Bool × List PT × List (List Value) × Option Addr × Nat) (fun x => x.1 ≤ l.length ∧ Tr.repD H x.2.2.1 x.2.2.2.1 ∧ x.2.2.1.length ≤ x.1 + 1 ∧ ((x.2.1 = false ∧ (∀ q ∈ l.take x.1, q.1 ≠ key ∧ ltB key q.1 = false) ∧ x.2.2.1 = l.take x.1) ∨ (x.2.1 = true ∧ ∃ i, i < x.1 ∧ (∀ q, l[i]? = some q → ltB key q.1 = true) ∧ putL l (key, t) = l.take i ++ (key, t) :: l.drop i ∧ x.2.2.1 = l.take i ++ (key, t) :: (l.drop i).take (x.1 - i)))) (fun x => l.length - x.1)
    (fun x => [(0, .slice A l.length c), (3, .pointer (some ⟨g3, 0, none⟩)), (5, .slice x.2.2.2.2.1 x.2.2.2.1.length x.2.2.2.2.2), (6, .bool x.2.1), (7, .int .i64 (x.1 : Nat))]) (fun _ => H)
    (fun x => [.row 40 7 x.2.2.2.2.1 x.2.2.2.2.2 x.2.2.2.1, .blk g3 (.cells #[.string key, .int .i64 a1, .int .i64 a2, .int .i64 a3, .string a4, .slice a5 a6 a7, .slice a8 a9 a10] 40 (0, 0))]) (0, false, [], [], some ⟨g5, 0, none⟩, 0) ⟨Nat.zero_le _, by simp [Tr.repD], by simp, .inl ⟨rfl, by simp, by simp⟩⟩ ⟨rfl, rfl, rfl, rfl, rfl, trivial⟩ rfl (List.Sublist.refl _) ?_
  rintro ⟨j, done, out, xss, A2, c2⟩ ⟨hj, hrep, hol, hst⟩
  dsimp only at hj hrep hol hst ⊢
  have hxl := (Tr.repD_len hrep).1
  by_cases hlt : j < l.length
  case neg =>
    obtain rfl : j = l.length := by omega
    rcases hst with ⟨rfl, hn, rfl⟩ | ⟨rfl, i, hi, hlti, hput, rfl⟩
    · rw [List.take_of_length_le (Nat.le_refl _)] at hn hrep
      have hput : putL l (key, t) = l ++ [(key, t)] := by
        have := putL_pass (p := (key, t)) (b := []) hn
        rw [List.append_nil] at this
        exact this
      repeat' (first | apply wpc_seq | apply wpe_seq | apply wpl_nil | apply wpc_region | (apply g_any; first | (refine sb1 rfl rfl rfl rfl rfl rfl rfl (fun _ => ?_)) | (refine sap rfl rfl rfl rfl rfl rfl rfl rfl (by omega) rfl (fun _ _ => ?_); refine wnL rfl ?_) | (apply gmv; refine smv rfl rfl ?_) | (apply gas; refine sas rfl rfl ?_) | (apply gld; refine sld rfl (by exact rfl) (by exact rfl) rfl ?_) | (apply gbn; first | refine sbn rfl rfl ?_) | (apply gln; first | refine slm rfl rfl ?_) | (apply gun; refine sun rfl rfl ?_)) | (apply g_wpc; first | (apply g_cond; first | refine cdT rfl ?_ | (refine cdD rfl (fun hb => ?_) (fun hb => ?_) <;> (try (exfalso; first | (with_reducible exact absurd (by assumption) hb) | (with_reducible exact absurd hb (by assumption)) | omega)))) | apply wpc_exit | apply wpc_ret) | (apply g_wpe; first | apply wpe_then_exit | apply wpe_block_eq | apply wpe_back_exit))
      rename_i g9 A3 c3
      refine wpe_freeze [_] [_] rfl ?_ (fun H2 hg2 hc => ?_)
      · intro b hb; cases hb
      refine wpe_end (.inl rfl) (by exact .tmp rfl .nil) [] (List.nil_sublist _) hg2 ⟨A3, c3, _, by simp only [List.length_append, List.length_singleton]; rfl, ?_, hc⟩
      rw [hput]
      exact Tr.repD_mono hg2.le (Tr.repD_snoc hrep ht)
    · rw [show (l.drop i).take (l.length - i) = l.drop i from List.take_of_length_le (by rw [List.length_drop]; exact Nat.le_refl _)] at hrep
      repeat' (first | apply wpc_seq | apply wpe_seq | apply wpl_nil | apply wpc_region | (apply g_any; first | (apply gmv; refine smv rfl rfl ?_) | (apply gas; refine sas rfl rfl ?_) | (apply gbn; first | refine sbn rfl rfl ?_) | (apply gln; first | refine slm rfl rfl ?_) | (apply gun; refine sun rfl rfl ?_)) | (apply g_wpc; first | (apply g_cond; first | refine cdF rfl ?_ | (refine cdD rfl (fun hb => ?_) (fun hb => ?_) <;> (try (exfalso; first | (with_reducible exact absurd (by assumption) hb) | (with_reducible exact absurd hb (by assumption)) | omega)))) | apply wpc_skip | apply wpc_exit | apply wpc_ret) | (apply g_wpe; first | apply wpe_then_exit | apply wpe_block_eq | apply wpe_back_exit))
      refine wpe_freeze [] [_] rfl ?_ (fun H2 hg2 hc => ?_)
      · intro b hb; cases hb
      exact wpe_end (.inl rfl) (by exact .tmp rfl .nil) [] (List.nil_sublist _) hg2 ⟨A2, c2, xss, rfl, by rw [hput]; exact Tr.repD_mono hg2.le hrep, hc⟩
  obtain ⟨u, hu, hru⟩ := Tr.repD_get (key := l[j].1) (t := l[j].2) hr (List.getElem?_eq_getElem hlt)
  obtain ⟨k0, n0, g0, s0, B0, m0, c0, D0, m0', c0', rfl⟩ := Tr.cells hru
  rcases hA with ⟨_, rfl⟩ | ⟨ga, o, rfl, rfl | hc0⟩
  · simp at hu
  · simp at hu
  have hel := hc0.el hyl.2 hu
  have htk : l.take (j + 1) = l.take j ++ [l[j]] := List.take_succ_eq_append_getElem hlt
  have hdj : l.drop j = l[j] :: l.drop (j + 1) := List.drop_eq_getElem_cons hlt
  by_cases heq : l[j].1 = key
  case pos =>
    rcases hst with ⟨rfl, hn, rfl⟩ | ⟨rfl, i, hi, hlti, hput, rfl⟩
    · have hput : putL l (key, t) = l := by
        have h1 := putL_pass (p := (key, t)) (b := l.drop j) hn
        rw [List.take_append_drop] at h1
        rw [h1, hdj, putL, if_pos heq, ← hdj, List.take_append_drop]
      repeat' (first | apply wpc_seq | apply wpe_seq | apply wpl_nil | apply wpc_region | (apply g_any; first | (apply gmv; refine smv rfl rfl ?_) | (apply gbn; first | refine sbn rfl rfl ?_) | (apply gln; first | refine slm rfl rfl ?_)) | (apply g_wpc; first | apply wpc_block | (apply g_cond; first | (refine cdD rfl (fun hb => ?_) (fun hb => ?_) <;> (try (exfalso; first | (with_reducible exact absurd (by assumption) hb) | (with_reducible exact absurd hb (by assumption)) | omega)))) | apply wpc_skip))
      refine wpc_quiet mixed (by kernel_rfl) ?_
      repeat' (first | apply wpc_seq | apply wpe_seq | apply wpl_nil | apply wpc_region | (apply g_any; first | (apply gmv; refine smv rfl rfl ?_) | (apply gas; refine sas rfl rfl ?_)) | (apply g_wpc; first | (apply g_cond; first | (refine cdD rfl (fun hb => ?_) (fun hb => ?_) <;> (try (exfalso; first | (with_reducible exact absurd (by assumption) hb) | (with_reducible exact absurd hb (by assumption)) | omega)))) | apply wpc_ret) | (apply g_wpe; first | apply wpe_then_ret | apply wpe_block_ret | apply wpe_back_ret) | apply wpq_nil | (apply gq_any; first | refine qlh (f := 0) hel rfl (by omega) rfl rfl rfl ?_ | (apply kmv; refine qmv rfl rfl ?_) | (apply kld; refine qld rfl (by exact rfl) (by exact rfl) rfl ?_) | (apply kfa; refine qfa rfl rfl ?_) | (apply kbn; first | refine qbn rfl rfl ?_) | (apply kia; refine qia rfl rfl (by omega) (by omega) rfl ?_)))
      all_goals first | exact absurd heq (by assumption) | skip
      refine wpe_end (.inl rfl) (by exact .tmp rfl .nil) [] (List.nil_sublist _) (Grow.refl _ _) ⟨_, c, yss, by rw [hyl.1]; rfl, by rw [hput]; exact hr, .inr ⟨ga, o, rfl, .inr hc0⟩⟩
    · exfalso
      have hil : i < l.length := by omega
      have h1 := hlti l[i] (List.getElem?_eq_getElem hil)
      have h2 := List.pairwise_iff_getElem.1 hl i j hil hlt hi
      have h3 := ordB.trans _ _ _ h1 h2
      rw [heq, ordB.irrefl] at h3
      cases h3
  have hbb : ∀ n, n ≤ xss.length + 1 → (n + 1) * 104 ≤ 140737488355328 := by clear hst; intro n hn; omega
  rcases hst with ⟨rfl, hn, rfl⟩ | ⟨rfl, i, hi, hlti, hput, rfl⟩
  · by_cases hlt2 : ltB key l[j].1 = true
    · have hput : putL l (key, t) = l.take j ++ (key, t) :: l.drop j := by
        have h1 := putL_pass (p := (key, t)) (b := l.drop j) hn
        rw [List.take_append_drop] at h1
        rw [h1, hdj, putL, if_neg heq, if_pos hlt2]
      repeat' (first | apply wpc_seq | apply wpe_seq | apply wpl_nil | apply wpc_region | (apply g_any; first | refine slh (f := 0) hel rfl (by omega) rfl rfl rfl ?_ | (refine sb1 rfl rfl rfl rfl rfl rfl rfl (fun _ => ?_)) | (refine sap rfl rfl (by simp only [List.length_append, List.length_singleton]) rfl rfl rfl rfl rfl (hbb _ (by simp)) rfl (fun _ _ => ?_); refine wnL rfl ?_) | (apply gmv; refine smv rfl rfl ?_) | (apply gas; refine sas rfl rfl ?_) | (apply gld; refine sld rfl (by exact rfl) (by exact rfl) rfl ?_) | (apply gbn; first | (apply gad; refine sad rfl rfl (by omega) (by omega) rfl ?_) | refine sbn rfl rfl ?_) | (apply gln; first | refine slm rfl rfl ?_) | (apply gia; refine sia rfl rfl (by omega) (by omega) rfl ?_)) | (apply g_wpc; first | apply wpc_block | (apply g_cond; first | (refine cdD rfl (fun hb => ?_) (fun hb => ?_) <;> (try (exfalso; first | (with_reducible exact absurd (by assumption) hb) | (with_reducible exact absurd hb (by assumption)) | omega)))) | apply wpc_skip | (apply g_draw; refine wpc_quiet mixed (by kernel_rfl) ?_)) | (apply g_wpe; first | apply wpe_block) | apply wpq_nil | (apply gq_any; first | refine qlh (f := 0) hel rfl (by omega) rfl rfl rfl ?_ | (apply kmv; refine qmv rfl rfl ?_) | (apply kld; refine qld rfl (by exact rfl) (by exact rfl) rfl ?_) | (apply kfa; refine qfa rfl rfl ?_) | (apply kbn; first | refine qbn rfl rfl ?_) | (apply kpk; refine qpk rfl rfl ?_) | (apply kun; refine qun rfl rfl ?_) | (apply kia; refine qia rfl rfl (by omega) (by omega) rfl ?_) | (apply gq_guard; first | refine wpq_wanted (wants_tt rfl rfl rfl) ?_)))
      all_goals first | exact absurd (show l[j].1 = key by assumption) heq | exact absurd hlt2 (by assumption) | skip
      rename_i g8 A3 c3 g9 A4 c4
      refine wpe_back (j + 1, true, l.take j ++ [(key, t)] ++ [l[j]], xss ++ [_] ++ [_], A4, c4) ⟨by dsimp only; omega, Tr.repD_snoc (Tr.repD_snoc hrep ht) hru, by simp only [List.length_append, List.length_singleton, List.length_take]; omega, .inr ⟨rfl, j, by dsimp only; omega, fun q hq => ?_, hput, ?_⟩⟩ (by dsimp only; omega) ⟨rfl, rfl, by simp only [List.length_append, List.length_singleton]; rfl, rfl, lki (by dsimp only; omega), trivial⟩ rfl (by repeat' (first | exact List.Sublist.slnil | apply List.Sublist.cons_cons | apply List.Sublist.cons))
      · rw [List.getElem?_eq_getElem hlt] at hq; obtain rfl := Option.some.inj hq; exact hlt2
      · dsimp only
        rw [hdj, show j + 1 - j = 1 by omega]
        simp only [List.take_succ_cons, List.take_zero, List.append_assoc, List.cons_append, List.nil_append]
    · have hlf : ltB key l[j].1 = false := by cases h : ltB key l[j].1 with | false => rfl | true => exact absurd h hlt2
      repeat' (first | apply wpc_seq | apply wpe_seq | apply wpl_nil | apply wpc_region | (apply g_any; first | refine slh (f := 0) hel rfl (by omega) rfl rfl rfl ?_ | (refine sb1 rfl rfl rfl rfl rfl rfl rfl (fun _ => ?_)) | (refine sap rfl rfl (by simp only [List.length_append, List.length_singleton]) rfl rfl rfl rfl rfl (hbb _ (by simp)) rfl (fun _ _ => ?_); refine wnL rfl ?_) | (apply gmv; refine smv rfl rfl ?_) | (apply gas; refine sas rfl rfl ?_) | (apply gld; refine sld rfl (by exact rfl) (by exact rfl) rfl ?_) | (apply gbn; first | (apply gad; refine sad rfl rfl (by omega) (by omega) rfl ?_) | refine sbn rfl rfl ?_) | (apply gln; first | refine slm rfl rfl ?_) | (apply gia; refine sia rfl rfl (by omega) (by omega) rfl ?_)) | (apply g_wpc; first | apply wpc_block | (apply g_cond; first | (refine cdD rfl (fun hb => ?_) (fun hb => ?_) <;> (try (exfalso; first | (with_reducible exact absurd (by assumption) hb) | (with_reducible exact absurd hb (by assumption)) | omega)))) | apply wpc_skip | (apply g_draw; refine wpc_quiet mixed (by kernel_rfl) ?_)) | (apply g_wpe; first | apply wpe_block) | apply wpq_nil | (apply gq_any; first | refine qlh (f := 0) hel rfl (by omega) rfl rfl rfl ?_ | (apply kmv; refine qmv rfl rfl ?_) | (apply kld; refine qld rfl (by exact rfl) (by exact rfl) rfl ?_) | (apply kfa; refine qfa rfl rfl ?_) | (apply kbn; first | refine qbn rfl rfl ?_) | (apply kpk; refine qpk rfl rfl ?_) | (apply kun; refine qun rfl rfl ?_) | (apply kia; refine qia rfl rfl (by omega) (by omega) rfl ?_) | (apply gq_guard; first | refine wpq_wanted (wants_tt rfl rfl rfl) ?_)))
      all_goals first | exact absurd (show l[j].1 = key by assumption) heq | exact absurd (show ltB key l[j].1 = true by assumption) hlt2 | skip
      rename_i g8 A3 c3
      refine wpe_back (j + 1, false, l.take j ++ [l[j]], xss ++ [_], A3, c3) ⟨by dsimp only; omega, Tr.repD_snoc hrep hru, by simp only [List.length_append, List.length_singleton, List.length_take]; omega, .inl ⟨rfl, ?_, htk.symm⟩⟩ (by dsimp only; omega) ⟨rfl, rfl, by simp only [List.length_append, List.length_singleton]; rfl, rfl, lki (by dsimp only; omega), trivial⟩ rfl (by repeat' (first | exact List.Sublist.slnil | apply List.Sublist.cons_cons | apply List.Sublist.cons))
      dsimp only
      rw [htk]
      intro q hq
      rcases List.mem_append.1 hq with hq | hq
      · exact hn q hq
      · rw [List.mem_singleton.1 hq]; exact ⟨heq, hlf⟩
  · repeat' (first | apply wpc_seq | apply wpe_seq | apply wpl_nil | apply wpc_region | (apply g_any; first | refine slh (f := 0) hel rfl (by omega) rfl rfl rfl ?_ | (refine sb1 rfl rfl rfl rfl rfl rfl rfl (fun _ => ?_)) | (refine sap rfl rfl (by simp only [List.length_append, List.length_singleton]) rfl rfl rfl rfl rfl (hbb _ (by simp)) rfl (fun _ _ => ?_); refine wnL rfl ?_) | (apply gmv; refine smv rfl rfl ?_) | (apply gas; refine sas rfl rfl ?_) | (apply gbn; first | (apply gad; refine sad rfl rfl (by omega) (by omega) rfl ?_) | refine sbn rfl rfl ?_) | (apply gln; first | refine slm rfl rfl ?_) | (apply gia; refine sia rfl rfl (by omega) (by omega) rfl ?_)) | (apply g_wpc; first | apply wpc_block | (apply g_cond; first | refine cdF rfl ?_ | (refine cdD rfl (fun hb => ?_) (fun hb => ?_) <;> (try (exfalso; first | (with_reducible exact absurd (by assumption) hb) | (with_reducible exact absurd hb (by assumption)) | omega)))) | apply wpc_skip | (apply g_draw; refine wpc_quiet mixed (by kernel_rfl) ?_)) | (apply g_wpe; first | apply wpe_block) | apply wpq_nil | (apply gq_any; first | refine qlh (f := 0) hel rfl (by omega) rfl rfl rfl ?_ | (apply kmv; refine qmv rfl rfl ?_) | (apply kld; refine qld rfl (by exact rfl) (by exact rfl) rfl ?_) | (apply kfa; refine qfa rfl rfl ?_) | (apply kbn; first | refine qbn rfl rfl ?_) | (apply kpk; refine qpk rfl rfl ?_) | (apply kun; refine qun rfl rfl ?_) | (apply kia; refine qia rfl rfl (by omega) (by omega) rfl ?_) | (apply gq_guard; first | refine wpq_skip (wants_tf rfl rfl rfl) rfl ?_)))
    all_goals first | exact absurd (show l[j].1 = key by assumption) heq | skip
    rename_i g8 A3 c3
    refine wpe_back (j + 1, true, _ ++ [l[j]], xss ++ [_], A3, c3) ⟨by dsimp only; omega, Tr.repD_snoc hrep hru, Nat.le_trans (Nat.le_of_eq List.length_append) (Nat.add_le_add_right hol 1), .inr ⟨rfl, i, by dsimp only; omega, hlti, hput, ?_⟩⟩ (by dsimp only; omega) ⟨rfl, rfl, by simp only [List.length_append, List.length_singleton]; rfl, rfl, lki (by dsimp only; omega), trivial⟩ rfl (by repeat' (first | exact List.Sublist.slnil | apply List.Sublist.cons_cons | apply List.Sublist.cons))
    dsimp only
    have hdi : (l.drop i).take (j + 1 - i) = (l.drop i).take (j - i) ++ [l[j]] := by
      have h2 : j - i < (l.drop i).length := by rw [List.length_drop]; omega
      rw [show j + 1 - i = (j - i) + 1 by omega, List.take_succ_eq_append_getElem h2, List.getElem_drop]
      congr 3
      omega
    rw [hdi]
    simp only [List.append_assoc, List.cons_append]
end Go.Proofs.Ytgjhbambdnpcmaa
set_option linter.unusedVariables false
set_option linter.unusedSimpArgs false
namespace Go.Proofs.Ytgjhbambdnpcmaa
open Go Go.Eng Go.Srt
/-- Plain, by the reference. -/
def RVP (t : Tr) : Prop := ∀ (cs : List Value) (H : GH), t.rep H cs → Ct Try.prog 14 [.agg cs.toArray] H [] (fun r H' L' => ∃ cs', r = .agg cs'.toArray ∧ (plT t).rep H' cs')
theorem rkind {H : GH} {t : Tr} {k : Int} {r : List Value} (h : t.rep H (.int .i64 k :: r)) : t.kind = k := by
  cases t with
  | mk k' n g s l d =>
    rw [Tr.rep] at h
    obtain ⟨A, c, B, e, h0, _⟩ := h
    simp only [List.cons.injEq, Value.int.injEq] at h0
    exact h0.1.2.symm
theorem foldl_snoc (l : List PT) (d : List PT) (p : PT) : (d ++ [p]).foldl putL l = putL (d.foldl putL l) p := by simp
theorem putL_len : ∀ (l : List PT) (p : PT), (putL l p).length ≤ l.length + 1
  | [], p => Nat.le_refl _
  | q :: r, p => by
    have := putL_len r p
    simp only [putL]
    split
    · exact Nat.le_succ _
    · split
      · simp
      · simp only [List.length_cons]; omega
theorem fold_len : ∀ (d l : List PT), (d.foldl putL l).length ≤ l.length + d.length
  | [], l => Nat.le_refl _
  | p :: r, l => by
    have h1 := fold_len r (putL l p)
    have h2 := putL_len l p
    simp only [List.foldl_cons, List.length_cons]; omega
theorem nn_take (l : List PT) (j : Nat) (h : j < l.length) : nnL (l.take (j + 1)) = nnL (l.take j) ++ if l[j].2.kind = 0 then [] else [l[j]] := by
  rw [List.take_succ_eq_append_getElem h, nnL, List.filter_append]
  congr 1
  by_cases h : l[j].2.kind = 0 <;> simp [h]
theorem plD_take (d : List PT) (j : Nat) (h : j < d.length) : plD (d.take (j + 1)) = plD (d.take j) ++ [(d[j].1, plT d[j].2)] := by
  rw [List.take_succ_eq_append_getElem h, plD_eq, plD_eq, List.map_append]; rfl
theorem rpairs_fn (d : List PT) (A : Option Addr) (c : Nat) (yss : List (List Value)) (H : GH) (hbig : d.length ≤ 1073741824) (hv : ∀ p ∈ d, RVP p.2) (hr : Tr.repD H d yss) (hA : sliceAt H A yss) :
    Ct Try.prog 30 [.slice A d.length c] H [] (fun r H' L' => ∃ A' c' zss, r = .slice A' zss.length c' ∧ Tr.repD H' (nnL (scL (plD d))) zss ∧ sliceAt H' A' zss) := by
  have hyl := Tr.repD_len hr
  refine fn_intro Try.func30 rfl rfl (fun W0 => ?_)
  repeat' (first | apply wpc_seq | apply wpe_seq | apply wpl_nil | apply wpc_region | (apply g_any; first | (refine sb0 rfl (fun _ => ?_)) | (apply gas; refine sas rfl rfl ?_)) | (apply g_wpc; first | apply wpc_block))
  rename_i g7
  refine wpc_freeze [] [] rfl (by intro b hb; cases hb) (fun H0 hg0 hc0 => ?_)
  refine wpc_loopS (ι := Nat × List (List Value) × Option Addr × Nat × GH) (fun x => x.1 ≤ d.length ∧ Grow W0 H x.2.2.2.2 ∧ Tr.repD x.2.2.2.2 ((plD (d.take x.1)).foldl putL []) x.2.1 ∧ sliceAt x.2.2.2.2 x.2.2.1 x.2.1) (fun x => d.length - x.1)
    (fun x => [(0, .slice A d.length c), (3, .slice x.2.2.1 x.2.1.length x.2.2.2.1), (4, .int .i64 (x.1 : Nat))]) (fun x => x.2.2.2.2) (fun x => []) (0, [], some ⟨g7, 0, none⟩, 0, H0) ⟨Nat.zero_le _, hg0, by simp [plD, Tr.repD], hc0⟩ ⟨rfl, rfl, rfl, trivial⟩ rfl (List.Sublist.refl _) ?_
  rintro ⟨j, xss, A2, c2, H1⟩ ⟨hj, hg1, hrep, hsl⟩
  dsimp only at hj hg1 hrep hsl ⊢
  have hxl := (Tr.repD_len hrep).1
  have hfl := fold_len (plD (d.take j)) []
  rw [plD_eq, List.length_map, List.length_take, List.length_nil] at hfl
  rw [plD_eq] at hxl
  by_cases hlt : j < d.length
  case pos =>
    obtain ⟨u, hu, hru⟩ := Tr.repD_get (key := d[j].1) (t := d[j].2) hr (List.getElem?_eq_getElem hlt)
    obtain ⟨k0, n0, g0, s0, B0, m0, c0, D0, m0', c0', rfl⟩ := Tr.cells hru
    rcases hA with ⟨_, rfl⟩ | ⟨ga, o, rfl, rfl | hc1⟩
    · simp at hu
    · simp at hu
    have hel := (hc1.el hyl.2 hu).mono hg1.le
    repeat' (first | apply wpc_seq | apply wpe_seq | apply wpl_nil | apply wpc_region | (apply g_any; first | (apply gmv; refine smv rfl rfl ?_) | (apply gbn; first | refine sbn rfl rfl ?_) | (apply gln; first | refine slm rfl rfl ?_)) | (apply g_wpc; first | apply wpc_block | (apply g_cond; first | (refine cdD rfl (fun hb => ?_) (fun hb => ?_) <;> (try (exfalso; first | (with_reducible exact absurd (by assumption) hb) | (with_reducible exact absurd hb (by assumption)) | omega)))) | apply wpc_skip))
    refine wpc_heldU [] [5, 10] [0, 1, 2, 3, 4, 6, 7, 8, 9, 12, 14] mixed rfl ?_
    refine whu_free [0, 1, 2, 3, 4, 6, 7, 8, 9] (fuel := 6) (listed' := #[true, true, true, true, true, false, true, true, true, true, false, false, false, false, false]) (by kernel_rfl) rfl (by kernel_rfl) ?_
    repeat' (first | (apply gt_any; first | (apply hmv; refine tmv rfl rfl ?_) | (apply hfa; refine tfa rfl rfl ?_) | (apply hia; refine tia rfl rfl (by omega) (by omega) rfl ?_)))
    refine wpt_nil ?_
    refine whu_looks [5] (fuel := 5) (listed' := #[true, true, true, true, true, true, true, true, true, true, false, false, false, false, false]) (by kernel_rfl) rfl (by kernel_rfl) (HLe.refl _) (by repeat' (first | exact List.Sublist.slnil | apply List.Sublist.cons_cons | apply List.Sublist.cons)) ?_
    repeat' (first | (apply gt_any; first | refine tlh (f := 0) hel rfl (by omega) rfl rfl rfl ?_))
    refine wpt_nil ?_
    refine whu_one 10 (listed' := #[true, true, true, true, true, true, true, true, true, true, true, false, false, false, false]) (by kernel_rfl) rfl (by kernel_rfl) ?_   -- [ref.go:135] t24   := Op.load 26 t23   :ty26
    repeat' (first | apply wpl_nil | (apply g_any; first | refine slh (f := 1) hel rfl (by omega) rfl rfl rfl ?_))
    refine weu_hold (HLe.refl _) (by repeat' (first | exact List.Sublist.slnil | apply List.Sublist.cons_cons | apply List.Sublist.cons)) ?_
    refine whu_one 11 (listed' := #[true, true, true, true, true, true, true, true, true, true, true, true, false, false, false]) (by kernel_rfl) rfl (by kernel_rfl) ?_   -- [ref.go:135] t25   := Op.call {callee=(Callee.value f14), args=[t24], argTypes=[26]}   :ty
    refine scs 0 rfl rfl (hv _ (List.getElem_mem hlt) _ H1 (Tr.rep_mono hg1.le hru)) rfl rfl (fun r H2 Lq hg2 hX => ?_)
    obtain ⟨cs', rfl, hrep2⟩ := hX
    obtain ⟨k1, n1, g1, s1, B1, m1, c1, D1, m1', c1', rfl⟩ := Tr.cells hrep2
    refine wpl_drop [] (List.nil_sublist _) ?_
    repeat' (first | apply wpl_nil)
    refine weu_hold (hg2.le) (by repeat' (first | exact List.Sublist.slnil | apply List.Sublist.cons_cons | apply List.Sublist.cons)) ?_
    refine whu_free [12] (fuel := 2) (listed' := #[true, true, true, true, true, true, true, true, true, true, true, true, true, false, false]) (by kernel_rfl) rfl (by kernel_rfl) ?_
    repeat' (first | (apply gt_any; first | (apply hbd; refine tbd rfl rfl rfl ?_)))
    refine wpt_nil ?_
    refine whu_one 13 (listed' := #[true, true, true, true, true, true, true, true, true, true, true, true, true, true, false]) (by kernel_rfl) rfl (by kernel_rfl) ?_   -- [ref.go:135] t27   := Op.call {callee=(Callee.value f51), args=[t14, t26], argTypes=[24, 4
    have hput := put_fn ((plD (d.take j)).foldl putL []) d[j].1 (plT d[j].2) A2 c2 xss _ H2 (by rw [plD_eq]; omega) (fold_rising _ _ List.Pairwise.nil) (Tr.repD_mono hg2.le hrep) (hsl.mono hg2.le) hrep2
    rw [plD_eq, ← hxl, ← plD_eq] at hput
    refine scs 0 rfl rfl hput rfl rfl (fun r H3 Lq hg3 hX => ?_)
    obtain ⟨A3, c3, zss, rfl, hrep3, hsl3⟩ := hX
    have hg23 := hg2.tr hg3
    refine wpl_drop [] (List.nil_sublist _) ?_
    repeat' (first | apply wpl_nil)
    refine weu_hold (hg23.le) (by repeat' (first | exact List.Sublist.slnil | apply List.Sublist.cons_cons | apply List.Sublist.cons)) ?_
    refine whu_free [14] (fuel := 0) (listed' := #[true, true, true, true, true, true, true, true, true, true, true, true, true, true, true]) (by kernel_rfl) rfl (by kernel_rfl) ?_
    repeat' (first | (apply gt_any; first | (apply has; refine tas rfl rfl ?_)))
    refine wpt_nil ?_
    refine whu_done (by kernel_rfl) ?_
    repeat' (first | apply wpe_seq | apply wpl_nil | apply wpc_region | (apply g_any; first | (apply gmv; refine smv rfl rfl ?_) | (apply gas; refine sas rfl rfl ?_) | (apply gbn; first | (apply gad; refine sad rfl rfl (by omega) (by omega) rfl ?_))) | (apply g_wpe; first | apply wpe_block))
    refine wpe_back (j + 1, zss, A3, c3, H3) ⟨by dsimp only; omega, (hg1.tr hg2).tr hg3, ?_, hsl3⟩ (by dsimp only; omega) ⟨rfl, rfl, lki (by dsimp only; omega), trivial⟩ rfl (List.Sublist.refl _)
    dsimp only
    rw [plD_take d j hlt, foldl_snoc]
    exact hrep3
  obtain rfl : j = d.length := by omega
  rw [List.take_of_length_le (Nat.le_refl _)] at hrep
  repeat' (first | apply wpc_seq | apply wpe_seq | apply wpl_nil | apply wpc_region | (apply g_any; first | (refine sb0 rfl (fun _ => ?_)) | (apply gmv; refine smv rfl rfl ?_) | (apply gas; refine sas rfl rfl ?_) | (apply gbn; first | refine sbn rfl rfl ?_) | (apply gln; first | refine slm rfl rfl ?_)) | (apply g_wpc; first | apply wpc_block | (apply g_cond; first | (refine cdD rfl (fun hb => ?_) (fun hb => ?_) <;> (try (exfalso; first | (with_reducible exact absurd (by assumption) hb) | (with_reducible exact absurd hb (by assumption)) | omega)))) | apply wpc_exit) | (apply g_wpe; first | apply wpe_then_exit | apply wpe_block_eq | apply wpe_back_exit))
  rename_i g28
  have hel0 := Tr.repD_len hrep
  generalize hS : (plD d).foldl putL [] = S at hrep hel0
  have hSl : S.length ≤ d.length := by
    have := fold_len (plD d) []
    rw [hS, plD_eq, List.length_map, List.length_nil] at this
    omega
  refine wpc_loopS (ι := Nat × List (List Value) × Option Addr × Nat) (fun x => x.1 ≤ S.length ∧ Tr.repD H1 (nnL (S.take x.1)) x.2.1 ∧ x.2.1.length ≤ x.1) (fun x => S.length - x.1)
    (fun x => [(3, .slice A2 xss.length c2), (5, .slice x.2.2.1 x.2.1.length x.2.2.2), (6, .int .i64 (x.1 : Nat))]) (fun _ => H1) (fun x => [.row 40 7 x.2.2.1 x.2.2.2 x.2.1]) (0, [], some ⟨g28, 0, none⟩, 0) ⟨Nat.zero_le _, by simp [nnL, Tr.repD], Nat.le_refl _⟩ ⟨rfl, rfl, rfl, trivial⟩ rfl (List.Sublist.refl _) ?_
  rintro ⟨j, ys, A4, c4⟩ ⟨hj, hry, hyl4⟩
  dsimp only at hj hry hyl4 ⊢
  by_cases hlt : j < S.length
  case neg =>
    obtain rfl : j = S.length := by omega
    rw [List.take_of_length_le (Nat.le_refl _)] at hry
    repeat' (first | apply wpc_seq | apply wpe_seq | apply wpl_nil | apply wpc_region | (apply g_any; first | (apply gmv; refine smv rfl rfl ?_) | (apply gas; refine sas rfl rfl ?_) | (apply gbn; first | refine sbn rfl rfl ?_) | (apply gln; first | refine slm rfl rfl ?_)) | (apply g_wpc; first | (apply g_cond; first | (refine cdD rfl (fun hb => ?_) (fun hb => ?_) <;> (try (exfalso; first | (with_reducible exact absurd (by assumption) hb) | (with_reducible exact absurd hb (by assumption)) | omega)))) | apply wpc_exit | apply wpc_ret) | (apply g_wpe; first | apply wpe_then_exit | apply wpe_block_eq | apply wpe_back_exit))
    refine wpe_freeze [] [] rfl ?_ (fun H2 hg2 hc => ?_)
    · intro b hb; cases hb
    exact wpe_end (.inl rfl) (by exact .tmp rfl .nil) [] (List.nil_sublist _) (hg1.tr hg2) ⟨A4, c4, ys, rfl, by rw [scL, hS]; exact Tr.repD_mono hg2.le hry, hc⟩
  obtain ⟨u, hu, hru⟩ := Tr.repD_get (key := S[j].1) (t := S[j].2) hrep (List.getElem?_eq_getElem hlt)
  obtain ⟨k0, n0, g0, s0, B0, m0, c0, D0, m0', c0', rfl⟩ := Tr.cells hru
  rcases hsl with ⟨_, rfl⟩ | ⟨gb, ob, rfl, rfl | hc1⟩
  · simp at hu
  · simp at hu
  have hel := hc1.el hel0.2 hu
  have hkd := rkind hru
  have hnx := nn_take S j hlt
  repeat' (first | apply wpc_seq | apply wpe_seq | apply wpl_nil | apply wpc_region | (apply g_any; first | refine slh (f := 0) hel rfl (by omega) rfl rfl rfl ?_ | refine slh (f := 1) hel rfl (by omega) rfl rfl rfl ?_ | (refine sb1 rfl rfl rfl rfl rfl rfl rfl (fun _ => ?_)) | (refine sap rfl rfl rfl rfl rfl rfl rfl rfl (by omega) rfl (fun _ _ => ?_); refine wnL rfl ?_) | (apply gmv; refine smv rfl rfl ?_) | (apply gas; refine sas rfl rfl ?_) | (apply gfa; refine sfa rfl rfl ?_) | (apply gbn; first | (apply gad; refine sad rfl rfl (by omega) (by omega) rfl ?_) | refine sbn rfl rfl ?_) | (apply gln; first | refine slm rfl rfl ?_) | (apply gia; refine sia rfl rfl (by omega) (by omega) rfl ?_)) | (apply g_wpc; first | apply wpc_block | (apply g_cond; first | (refine cdD rfl (fun hb => ?_) (fun hb => ?_) <;> (try (exfalso; first | (with_reducible exact absurd (by assumption) hb) | (with_reducible exact absurd hb (by assumption)) | omega)))) | apply wpc_skip) | (apply g_wpe; first | apply wpe_block))
  · rename_i g47 A5 c5
    rw [if_neg (by rw [hkd]; omega)] at hnx
    exact wpe_back (j + 1, ys ++ [_], A5, c5) ⟨by dsimp only; omega, by dsimp only; rw [hnx]; exact Tr.repD_snoc hry hru, by simp only [List.length_append, List.length_singleton]; omega⟩ (by dsimp only; omega) ⟨rfl, by simp only [List.length_append, List.length_singleton]; rfl, lki (by dsimp only; omega), trivial⟩ rfl (by repeat' (first | exact List.Sublist.slnil | apply List.Sublist.cons_cons | apply List.Sublist.cons))
  · rw [if_pos (by rw [hkd]; omega), List.append_nil] at hnx
    exact wpe_back (j + 1, ys, A4, c4) ⟨by dsimp only; omega, by dsimp only; rw [hnx]; exact hry, by dsimp only; omega⟩ (by dsimp only; omega) ⟨rfl, rfl, lki (by dsimp only; omega), trivial⟩ rfl (by repeat' (first | exact List.Sublist.slnil | apply List.Sublist.cons_cons | apply List.Sublist.cons))
end Go.Proofs.Ytgjhbambdnpcmaa
