/- Proved on the way: The reference's parser: dictionaries, values. -/
import Derived.Test.YtgjhbambdnpcmaaRfA
set_option linter.unusedVariables false
set_option linter.unusedSimpArgs false
namespace Go.Proofs.Ytgjhbambdnpcmaa
open Go Go.Eng
theorem any_of {α : Type} {l : List α} {f : α → Bool} {j : Nat} (h0 : ∀ q, q < j → ∀ x, l[q]? = some x → f x = false) (hj : l.length ≤ j) : l.any f = false := by
  rw [List.any_eq_false]
  intro x hx
  obtain ⟨q, hq, rfl⟩ := List.mem_iff_getElem.1 hx
  rw [h0 q (by omega) _ (List.getElem?_eq_getElem hq)]
  simp
theorem r_dict (s : ByteArray) (n : Nat) (hs : s.size ≤ 67108864) (hR : ∀ m, m < n → RR s m) : RDc s n := by
  intro a w H hw0 hw1 ha0 ha1 hn
  refine fn_intro Try.func29 rfl rfl (fun W0 => ?_)
  repeat' (first | apply wpc_seq | apply wpe_seq | apply wpl_nil | apply wpc_region | (apply g_any; first | (refine sb0 rfl (fun _ => ?_)) | (apply gas; refine sas rfl rfl ?_) | (apply gal; refine sal rfl (fun _ => ?_))) | (apply g_wpc; first | apply wpc_block))
  rename_i g6 gl
  refine weC [.row 40 7 (some ⟨gl, 0, none⟩) 0 [], .blk g6 (.cells #[.int .i64 0, .int .i64 0, .int .i64 0, .string ⟨#[]⟩, .slice none 0 0, .slice none 0 0] 26 (0, 0))] rfl ?_
  refine wpc_less (l' := [(0, .string s), (1, .int .i64 a), (2, .int .i64 w), (6, .pointer (some ⟨g6, 0, none⟩)), (9, .slice (some ⟨gl, 0, none⟩) ([] : List (List Value)).length 0)]) ⟨rfl, rfl, rfl, rfl, rfl, trivial⟩ (List.Sublist.refl _) ?_
  refine wpc_loop (ι := Int × Nat × List (ByteArray × Tr) × List (List Value) × Option Addr × Nat × GH) (fun x => 0 ≤ x.1 ∧ x.1 ≤ s.size ∧ 2 * (s.size - x.1) + 2 ≤ x.2.1 ∧ x.2.1 ≤ n ∧ Grow W0 H x.2.2.2.2.2.2 ∧ Tr.repD x.2.2.2.2.2.2 x.2.2.1 x.2.2.2.1 ∧ (x.2.2.2.1.length : Int) ≤ x.1 ∧ dcN s n a w [] = dcN s x.2.1 x.1 w x.2.2.1) (fun x => x.2.1)
    (fun x => [(0, .string s), (1, .int .i64 x.1), (2, .int .i64 w), (6, .pointer (some ⟨g6, 0, none⟩)), (9, .slice x.2.2.2.2.1 x.2.2.2.1.length x.2.2.2.2.2.1)]) (fun x => x.2.2.2.2.2.2)
    (fun x => [.row 40 7 x.2.2.2.2.1 x.2.2.2.2.2.1 x.2.2.2.1, .blk g6 (.cells #[.int .i64 0, .int .i64 0, .int .i64 0, .string ⟨#[]⟩, .slice none 0 0, .slice none 0 0] 26 (0, 0))]) ?_
    (a, n, [], [], some ⟨gl, 0, none⟩, 0, H) ⟨ha0, ha1, by dsimp only; omega, Nat.le_refl _, Grow.refl _ _, by simp [Tr.repD], by simp; omega, rfl⟩
  rintro ⟨i, m, ts, xss, A, c, H1⟩ ⟨hi0, hi1, hm0, hm1, hg1, hrep, hlen, heq⟩
  dsimp only at hi0 hi1 hm0 hm1 hg1 hrep hlen heq ⊢
  obtain ⟨m, rfl⟩ : ∃ k, m = k + 1 := ⟨m - 1, by omega⟩
  rw [dcN] at heq
  by_cases c0 : (nextI s i).err = 0
  case neg =>
    rw [if_pos c0] at heq
    repeat' (first | apply wpc_seq | apply wpe_seq | apply wpl_nil | apply wpc_region | (apply g_any; first | (apply gmv; refine smv rfl rfl ?_) | (apply gas; refine sas rfl rfl ?_) | (apply gex; refine sex rfl rfl ?_) | (apply gst; refine sst rfl rfl (by exact rfl) (by exact rfl) (by exact rfl) (by exact rfl) ?_) | (apply gbn; first | refine sbn rfl rfl ?_) | (apply gcl; first | refine scl rfl (nextR_bad _ _ _ (by omega) c0) rfl ?_) | (apply gal; refine sal rfl (fun _ => ?_)) | (apply gbd; refine sbd rfl rfl rfl ?_)) | (apply g_wpc; first | apply wpc_block | (apply g_cond; first | (refine cdD rfl (fun hb => ?_) (fun hb => ?_) <;> (try (exfalso; first | (with_reducible exact absurd (by assumption) hb) | (with_reducible exact absurd hb (by assumption)) | omega)))) | apply wpc_ret) | (apply g_wpe; first | apply wpe_then_ret | apply wpe_block_ret | apply wpe_back_ret))
    rw [heq]
    exact wpe_end (.inl rfl) (by exact .cell 2 rfl rfl rfl rfl (.tmp rfl (.tmp rfl .nil))) [] (List.nil_sublist _) hg1 ⟨_, rfl, Tr.rep_leaf _ _ _ _⟩
  rw [if_neg (fun h => h c0)] at heq
  have hr := nextI_range c0
  by_cases c1 : (nextI s i).k = 7
  case pos =>
    rw [if_neg (by omega), if_pos c1] at heq
    repeat' (first | apply wpc_seq | apply wpe_seq | apply wpl_nil | apply wpc_region | (apply g_any; first | (apply gmv; refine smv rfl rfl ?_) | (apply gas; refine sas rfl rfl ?_) | (apply gld; refine sld rfl (by exact rfl) (by exact rfl) rfl ?_) | (apply gfa; refine sfa rfl rfl ?_) | (apply gex; refine sex rfl rfl ?_) | (apply gst; refine sst rfl rfl (by exact rfl) (by exact rfl) (by exact rfl) (by exact rfl) ?_) | (apply gbn; first | refine sbn rfl rfl ?_) | (apply gcl; first | refine scl rfl (nextR_ok _ _ _ (by omega) c0) rfl ?_) | (apply gal; refine sal rfl (fun _ => ?_))) | (apply g_wpc; first | apply wpc_block | (apply g_cond; first | (refine cdD rfl (fun hb => ?_) (fun hb => ?_) <;> (try (exfalso; first | (with_reducible exact absurd (by assumption) hb) | (with_reducible exact absurd hb (by assumption)) | omega))))))
    refine wpc_heldI [0] 6 mixed rfl ?_
    refine wph_takes [0, 1, 2, 3] (fuel := 3) (listed' := #[true, true, true, true, false, false, false]) (by kernel_rfl) rfl (by kernel_rfl) (HLe.refl _) (by repeat' (first | exact List.Sublist.slnil | apply List.Sublist.cons_cons | apply List.Sublist.cons)) ?_
    repeat' (first | (apply gt_any; first | (apply hmv; refine tmv rfl rfl ?_) | (apply hld; refine tld rfl (by exact rfl) (by exact rfl) rfl ?_) | (apply hfa; refine tfa rfl rfl ?_) | (apply hbd; refine tbd rfl rfl rfl ?_)))
    refine wpt_nil ?_
    refine wph_one 4 (listed' := #[true, true, true, true, true, false, false]) (by kernel_rfl) rfl (by kernel_rfl) ?_   -- [ref.go:87] -     := Op.store 26 t6 t33
    repeat' (first | apply wpl_nil | (apply g_any; first | (apply gst; refine sst rfl rfl (by exact rfl) (by exact rfl) (by exact rfl) (by exact rfl) ?_)))
    refine wpe_hold (HLe.refl _) (by repeat' (first | exact List.Sublist.slnil | apply List.Sublist.cons_cons | apply List.Sublist.cons)) ?_
    refine wph_takes [5] (fuel := 1) (listed' := #[true, true, true, true, true, true, false]) (by kernel_rfl) rfl (by kernel_rfl) (HLe.refl _) (by repeat' (first | exact List.Sublist.slnil | apply List.Sublist.cons_cons | apply List.Sublist.cons)) ?_
    repeat' (first | (apply gt_any; first | (apply has; refine tas rfl rfl ?_)))
    refine wpt_nil ?_
    refine wph_after [6] (fuel := 0) (listed' := #[true, true, true, true, true, true, true]) (by kernel_rfl) rfl (by kernel_rfl) ?_
    repeat' (first | (apply gt_any; first | (apply has; refine tas rfl rfl ?_)))
    refine wpt_nil ?_
    refine wph_done (by kernel_rfl) ?_
    repeat' (first | apply wpe_seq | (apply g_wpc; first | apply wpc_ret) | (apply g_wpe; first | apply wpe_then_ret | apply wpe_block_ret | apply wpe_back_ret))
    rw [heq]
    rename_i gt _
    refine wpe_freeze [.blk gt (.cells #[.int .i64 (nextI s i).k, .int .i64 (nextI s i).n, .string (nextI s i).t, .int .i64 (skI s i), .int .i64 (nextI s i).e] 51 (0, 0))] [.blk g6 (.cells #[.int .i64 6, .int .i64 0, .int .i64 0, .string ⟨#[]⟩, .slice none 0 0, .slice A xss.length c] 26 (0, 0))] rfl ?_ (fun H2 hg2 hc => ?_)
    · simp [idsOf, Ent.ids]
    exact wpe_end (.inl rfl) (by exact .cell 1 rfl rfl rfl rfl (.tmp rfl (.tmp rfl .nil))) [] (List.nil_sublist _) (hg1.tr hg2) ⟨_, rfl, Tr.rep_dict (Tr.repD_mono hg2.le hrep) hc⟩
  by_cases c2 : (nextI s i).k = 0
  case pos =>
    rw [if_pos c2] at heq
    repeat' (first | apply wpc_seq | apply wpe_seq | apply wpl_nil | apply wpc_region | (apply g_any; first | (apply gmv; refine smv rfl rfl ?_) | (apply gas; refine sas rfl rfl ?_) | (apply gld; refine sld rfl (by exact rfl) (by exact rfl) rfl ?_) | (apply gfa; refine sfa rfl rfl ?_) | (apply gex; refine sex rfl rfl ?_) | (apply gst; refine sst rfl rfl (by exact rfl) (by exact rfl) (by exact rfl) (by exact rfl) ?_) | (apply gbn; first | refine sbn rfl rfl ?_) | (apply gcl; first | refine scl rfl (nextR_ok _ _ _ (by omega) c0) rfl ?_) | (apply gal; refine sal rfl (fun _ => ?_)) | (apply gbd; refine sbd rfl rfl rfl ?_)) | (apply g_wpc; first | apply wpc_block | (apply g_cond; first | (refine cdD rfl (fun hb => ?_) (fun hb => ?_) <;> (try (exfalso; first | (with_reducible exact absurd (by assumption) hb) | (with_reducible exact absurd hb (by assumption)) | omega)))) | apply wpc_ret) | (apply g_wpe; first | apply wpe_then_ret | apply wpe_block_ret | apply wpe_back_ret))
    rw [heq]
    exact wpe_end (.inl rfl) (by exact .cell 2 rfl rfl rfl rfl (.tmp rfl (.tmp rfl .nil))) [] (List.nil_sublist _) hg1 ⟨_, rfl, Tr.rep_leaf _ _ _ _⟩
  by_cases c3 : (nextI s i).k = 2
  case neg =>
    rw [if_neg c2, if_neg c1, if_pos c3] at heq
    repeat' (first | apply wpc_seq | apply wpe_seq | apply wpl_nil | apply wpc_region | (apply g_any; first | (apply gmv; refine smv rfl rfl ?_) | (apply gas; refine sas rfl rfl ?_) | (apply gld; refine sld rfl (by exact rfl) (by exact rfl) rfl ?_) | (apply gfa; refine sfa rfl rfl ?_) | (apply gex; refine sex rfl rfl ?_) | (apply gst; refine sst rfl rfl (by exact rfl) (by exact rfl) (by exact rfl) (by exact rfl) ?_) | (apply gbn; first | refine sbn rfl rfl ?_) | (apply gcl; first | refine scl rfl (nextR_ok _ _ _ (by omega) c0) rfl ?_) | (apply gal; refine sal rfl (fun _ => ?_)) | (apply gbd; refine sbd rfl rfl rfl ?_)) | (apply g_wpc; first | apply wpc_block | (apply g_cond; first | (refine cdD rfl (fun hb => ?_) (fun hb => ?_) <;> (try (exfalso; first | (with_reducible exact absurd (by assumption) hb) | (with_reducible exact absurd hb (by assumption)) | omega)))) | apply wpc_ret) | (apply g_wpe; first | apply wpe_then_ret | apply wpe_block_ret | apply wpe_back_ret))
    rw [heq]
    exact wpe_end (.inl rfl) (by exact .cell 2 rfl rfl rfl rfl (.tmp rfl (.tmp rfl .nil))) [] (List.nil_sublist _) hg1 ⟨_, rfl, Tr.rep_leaf _ _ _ _⟩
  rw [if_neg c2, if_neg c1, if_neg (fun h => h c3)] at heq
  repeat' (first | apply wpc_seq | apply wpe_seq | apply wpl_nil | apply wpc_region | (apply g_any; first | (apply gmv; refine smv rfl rfl ?_) | (apply gas; refine sas rfl rfl ?_) | (apply gld; refine sld rfl (by exact rfl) (by exact rfl) rfl ?_) | (apply gfa; refine sfa rfl rfl ?_) | (apply gex; refine sex rfl rfl ?_) | (apply gst; refine sst rfl rfl (by exact rfl) (by exact rfl) (by exact rfl) (by exact rfl) ?_) | (apply gbn; first | refine sbn rfl rfl ?_) | (apply gcl; first | refine scl rfl (nextR_ok _ _ _ (by omega) c0) rfl ?_) | (apply gal; refine sal rfl (fun _ => ?_))) | (apply g_wpc; first | apply wpc_block | (apply g_cond; first | (refine cdD rfl (fun hb => ?_) (fun hb => ?_) <;> (try (exfalso; first | (with_reducible exact absurd (by assumption) hb) | (with_reducible exact absurd hb (by assumption)) | omega)))) | apply wpc_skip) | (apply g_wpe; first | apply wpe_block))
  rename_i gt _ _ _
  have hD := Tr.repD_len hrep
  refine wpc_less (l' := [(12, .int .i64 0), (0, .string s), (1, .int .i64 i), (2, .int .i64 w), (6, .pointer (some ⟨g6, 0, none⟩)), (9, .slice A xss.length c), (10, .pointer (some ⟨gt, 0, none⟩))]) ⟨rfl, rfl, rfl, rfl, rfl, rfl, rfl, trivial⟩ (List.Sublist.refl _) ?_
  refine wpc_loop (ι := Nat) (fun j => j ≤ ts.length ∧ ∀ q, q < j → ∀ x, ts[q]? = some x → decide ((nextI s i).t = x.1) = false) (fun j => ts.length - j)
    (fun j => [(12, .int .i64 (j : Int)), (0, .string s), (1, .int .i64 i), (2, .int .i64 w), (6, .pointer (some ⟨g6, 0, none⟩)), (9, .slice A xss.length c), (10, .pointer (some ⟨gt, 0, none⟩))]) (fun _ => H1)
    (fun _ => [.blk gt (.cells #[.int .i64 (nextI s i).k, .int .i64 (nextI s i).n, .string (nextI s i).t, .int .i64 (skI s i), .int .i64 (nextI s i).e] 51 (0, 0)), .row 40 7 A c xss, .blk g6 (.cells #[.int .i64 0, .int .i64 0, .int .i64 0, .string ⟨#[]⟩, .slice none 0 0, .slice none 0 0] 26 (0, 0))]) ?_ 0 ⟨by omega, fun q hq => by omega⟩
  rintro j ⟨hj, hq⟩
  by_cases hlt : j < ts.length
  case pos =>
    have hne : xss ≠ [] := fun h => by rw [h] at hD; simp at hD; omega
    obtain ⟨cs, hcs, hrepj⟩ := Tr.repD_get (key := ts[j].1) (t := ts[j].2) hrep (List.getElem?_eq_getElem hlt)
    obtain ⟨k0, n0, g0, s0, A0, m0, c0', B0, m0', c0'', rfl⟩ := Tr.cells hrepj
    refine wpc_rowsome [_] [_] rfl hne (fun ga hA => ?_)
    subst hA
    repeat' (first | apply wpc_seq | apply wpe_seq | apply wpl_nil | apply wpc_region | (apply g_any; first | (apply gmv; refine smv rfl rfl ?_) | (apply gas; refine sas rfl rfl ?_) | (apply gst; refine sst rfl rfl (by exact rfl) (by exact rfl) (by exact rfl) (by exact rfl) ?_) | (apply gbn; first | (apply gad; refine sad rfl rfl (by omega) (by omega) rfl ?_) | refine sbn rfl rfl ?_) | (apply gln; first | refine slm rfl rfl ?_) | (apply gbd; refine sbd rfl rfl rfl ?_)) | (apply g_wpc; first | apply wpc_block | (apply g_cond; first | (refine cdD rfl (fun hb => ?_) (fun hb => ?_) <;> (try (exfalso; first | (with_reducible exact absurd (by assumption) hb) | (with_reducible exact absurd hb (by assumption)) | omega)))) | apply wpc_skip | apply wpc_ret | (apply g_draw; refine wpc_quiet mixed (by kernel_rfl) ?_)) | (apply g_wpe; first | apply wpe_block | apply wpe_then_ret | apply wpe_block_ret | apply wpe_back_ret) | apply wpq_nil | (apply gq_any; first | (refine qlf j rfl hcs 0 rfl rfl (by omega) rfl ?_) | (apply kmv; refine qmv rfl rfl ?_) | (apply kld; refine qld rfl (by exact rfl) (by exact rfl) rfl ?_) | (apply kfa; refine qfa rfl rfl ?_) | (apply kbn; first | refine qbn rfl rfl ?_) | (apply kia; refine qia rfl rfl (by omega) (by omega) rfl ?_)))
    · -- found
      have hany : (ts.any fun p => decide ((nextI s i).t = p.1)) = true := by
        rw [List.any_eq_true]; exact ⟨ts[j], List.getElem_mem hlt, by simp [hb]⟩
      rw [if_pos hany] at heq
      rw [heq]
      exact wpe_end (.inl rfl) (by exact .cell 2 rfl rfl rfl rfl (.tmp rfl (.tmp rfl .nil))) [] (List.nil_sublist _) hg1 ⟨_, rfl, Tr.rep_leaf _ _ _ _⟩
    · exact wpe_back (j + 1) ⟨by omega, fun q hq' x hx => by
        by_cases e : q = j
        · subst e
          rw [List.getElem?_eq_getElem hlt] at hx
          obtain rfl := Option.some.inj hx
          exact decide_eq_false (fun h => ‹¬ _› h.symm)
        · exact hq q (by omega) x hx⟩ (by omega) ⟨rfl, rfl, rfl, rfl, rfl, rfl, rfl, trivial⟩ rfl (List.Sublist.refl _)
  case neg =>
    have hany : (ts.any fun p => decide ((nextI s i).t = p.1)) = false := any_of hq (by omega)
    rw [hany, if_neg (by decide)] at heq
    repeat' (first | apply wpc_seq | apply wpe_seq | apply wpl_nil | apply wpc_region | (apply g_any; first | (apply gmv; refine smv rfl rfl ?_) | (apply gld; refine sld rfl (by exact rfl) (by exact rfl) rfl ?_) | (apply gfa; refine sfa rfl rfl ?_) | (apply gbn; first | refine sbn rfl rfl ?_) | (apply gln; first | refine slm rfl rfl ?_)) | (apply g_wpc; first | (apply g_cond; first | (refine cdD rfl (fun hb => ?_) (fun hb => ?_) <;> (try (exfalso; first | (with_reducible exact absurd (by assumption) hb) | (with_reducible exact absurd hb (by assumption)) | omega)))) | apply wpc_exit) | (apply g_wpe; first | apply wpe_then_exit | apply wpe_block_eq | apply wpe_back_exit))
    refine scs 0 rfl rfl (hR m (by omega) (nextI s i).e w H1 hw0 hw1 (by omega) (by omega)) rfl rfl (fun r H2 Lq hg2 hX => ?_)
    obtain ⟨cs, rfl, hrep2⟩ := hX
    obtain ⟨k1, n1, g1, s1, A1, m1, c1', B1, m2, c2', rfl⟩ := Tr.cells hrep2
    refine wpl_drop [.blk gt (.cells #[.int .i64 (nextI s i).k, .int .i64 (nextI s i).n, .string (nextI s i).t, .int .i64 (skI s i), .int .i64 (nextI s i).e] 51 (0, 0)), .row 40 7 A c xss, .blk g6 (.cells #[.int .i64 0, .int .i64 0, .int .i64 0, .string ⟨#[]⟩, .slice none 0 0, .slice none 0 0] 26 (0, 0))] (List.sublist_append_right _ _) ?_
    by_cases c4 : (rdN s m (nextI s i).e w).2.2 = 0
    case neg =>
      rw [if_pos c4] at heq
      repeat' (first | apply wpc_seq | apply wpe_seq | apply wpl_nil | apply wpc_region | (apply g_any; first | (apply gmv; refine smv rfl rfl ?_) | (apply gas; refine sas rfl rfl ?_) | (apply gex; refine sex rfl rfl ?_) | (apply gst; refine sst rfl rfl (by exact rfl) (by exact rfl) (by exact rfl) (by exact rfl) ?_) | (apply gbn; first | refine sbn rfl rfl ?_) | (apply gal; refine sal rfl (fun _ => ?_)) | (apply gbd; refine sbd rfl rfl rfl ?_)) | (apply g_wpc; first | (apply g_cond; first | (refine cdD rfl (fun hb => ?_) (fun hb => ?_) <;> (try (exfalso; first | (with_reducible exact absurd (by assumption) hb) | (with_reducible exact absurd hb (by assumption)) | omega)))) | apply wpc_ret) | (apply g_wpe; first | apply wpe_then_ret | apply wpe_block_ret | apply wpe_back_ret))
      rw [heq]
      exact wpe_end (.inl rfl) (by exact .cell 3 rfl rfl rfl rfl (.tmp rfl (.tmp rfl .nil))) [] (List.nil_sublist _) (hg1.tr hg2) ⟨_, rfl, Tr.rep_leaf _ _ _ _⟩
    rw [if_neg (fun h => h c4)] at heq
    have hrg := ((rd_range s m).1 (nextI s i).e w (by omega) c4 (by omega)).resolve_right (by omega)
    repeat' (first | apply wpc_seq | apply wpe_seq | apply wpl_nil | apply wpc_region | (apply g_any; first | (refine sb1 rfl rfl rfl rfl rfl rfl rfl (fun _ => ?_)) | (refine sap rfl rfl rfl rfl rfl rfl rfl rfl (by omega) rfl (fun _ _ => ?_); refine wnL rfl ?_) | (apply gmv; refine smv rfl rfl ?_) | (apply gas; refine sas rfl rfl ?_) | (apply gld; refine sld rfl (by exact rfl) (by exact rfl) rfl ?_) | (apply gfa; refine sfa rfl rfl ?_) | (apply gex; refine sex rfl rfl ?_) | (apply gst; refine sst rfl rfl (by exact rfl) (by exact rfl) (by exact rfl) (by exact rfl) ?_) | (apply gbn; first | refine sbn rfl rfl ?_) | (apply gal; refine sal rfl (fun _ => ?_)) | (apply gbd; refine sbd rfl rfl rfl ?_)) | (apply g_wpc; first | (apply g_cond; first | (refine cdD rfl (fun hb => ?_) (fun hb => ?_) <;> (try (exfalso; first | (with_reducible exact absurd (by assumption) hb) | (with_reducible exact absurd hb (by assumption)) | omega)))) | apply wpc_skip) | (apply g_wpe; first | apply wpe_block))
    rename_i A2 cc2
    exact wpe_back ((rdN s m (nextI s i).e w).2.1, m, ts ++ [((nextI s i).t, (rdN s m (nextI s i).e w).1)], xss ++ [_], A2, cc2, H2) ⟨by dsimp only; omega, by dsimp only; omega, by dsimp only; omega, by dsimp only; omega, hg1.tr hg2, Tr.repD_snoc (Tr.repD_mono hg2.le hrep) hrep2, by simp only [List.length_append, List.length_singleton]; omega, heq⟩ (by dsimp only; omega) ⟨rfl, rfl, rfl, rfl, by simp only [List.length_append, List.length_singleton]; rfl, trivial⟩ rfl (by repeat' (first | exact List.Sublist.slnil | apply List.Sublist.cons_cons | apply List.Sublist.cons))
theorem r_read (s : ByteArray) (n : Nat) (hs : s.size ≤ 67108864) (hL : RLs s n) (hD : RDc s n) : RR s (n + 1) := by
  intro a w H hw0 hw1 hn _
  refine fn_intro Try.func13 rfl rfl (fun W0 => ?_)
  rw [rdN]
  by_cases c0 : (nextI s a).err = 0
  case neg =>
    rw [if_pos c0]
    repeat' (first | apply wpc_seq | apply wpe_seq | apply wpl_nil | apply wpc_region | (apply g_any; first | (apply gmv; refine smv rfl rfl ?_) | (apply gas; refine sas rfl rfl ?_) | (apply gex; refine sex rfl rfl ?_) | (apply gst; refine sst rfl rfl (by exact rfl) (by exact rfl) (by exact rfl) (by exact rfl) ?_) | (apply gbn; first | refine sbn rfl rfl ?_) | (apply gcl; first | refine scl rfl (nextR_bad _ _ _ (by omega) c0) rfl ?_) | (apply gal; refine sal rfl (fun _ => ?_)) | (apply gbd; refine sbd rfl rfl rfl ?_)) | (apply g_wpc; first | (apply g_cond; first | (refine cdD rfl (fun hb => ?_) (fun hb => ?_) <;> (try (exfalso; first | (with_reducible exact absurd (by assumption) hb) | (with_reducible exact absurd hb (by assumption)) | omega)))) | apply wpc_ret) | (apply g_wpe; first | apply wpe_then_ret))
    exact end3 (by exact .cell 1 rfl rfl rfl rfl (.tmp rfl (.tmp rfl .nil))) ⟨_, rfl, Tr.rep_leaf _ _ _ _⟩
  have hr := nextI_range c0
  rw [if_neg (fun h => h c0)]
  by_cases c1 : (nextI s a).k = 0
  case pos =>
    rw [if_pos c1]
    repeat' (first | apply wpc_seq | apply wpe_seq | apply wpl_nil | apply wpc_region | (apply g_any; first | (apply gmv; refine smv rfl rfl ?_) | (apply gas; refine sas rfl rfl ?_) | (apply gld; refine sld rfl (by exact rfl) (by exact rfl) rfl ?_) | (apply gfa; refine sfa rfl rfl ?_) | (apply gex; refine sex rfl rfl ?_) | (apply gst; refine sst rfl rfl (by exact rfl) (by exact rfl) (by exact rfl) (by exact rfl) ?_) | (apply gbn; first | refine sbn rfl rfl ?_) | (apply gcl; first | refine scl rfl (nextR_ok _ _ _ (by omega) c0) rfl ?_) | (apply gal; refine sal rfl (fun _ => ?_)) | (apply gbd; refine sbd rfl rfl rfl ?_)) | (apply g_wpc; first | apply wpc_block | (apply g_cond; first | (refine cdD rfl (fun hb => ?_) (fun hb => ?_) <;> (try (exfalso; first | (with_reducible exact absurd (by assumption) hb) | (with_reducible exact absurd hb (by assumption)) | omega)))) | apply wpc_skip | apply wpc_ret) | (apply g_wpe; first | apply wpe_then_ret | apply wpe_block_ret))
    exact end3 (by exact .cell 1 rfl rfl rfl rfl (.tmp rfl (.tmp rfl .nil))) ⟨_, rfl, Tr.rep_leaf _ _ _ _⟩
  have hin : a < s.size := by
    by_cases h : s.size ≤ a
    · rw [next_beyond h] at c1; exact absurd rfl c1
    · omega
  rw [if_neg c1]
  by_cases c2 : (nextI s a).k = 1
  case pos =>
    rw [if_pos c2]
    repeat' (first | apply wpc_seq | apply wpe_seq | apply wpl_nil | apply wpc_region | (apply g_any; first | (apply gmv; refine smv rfl rfl ?_) | (apply gas; refine sas rfl rfl ?_) | (apply gld; refine sld rfl (by exact rfl) (by exact rfl) rfl ?_) | (apply gfa; refine sfa rfl rfl ?_) | (apply gex; refine sex rfl rfl ?_) | (apply gst; refine sst rfl rfl (by exact rfl) (by exact rfl) (by exact rfl) (by exact rfl) ?_) | (apply gbn; first | refine sbn rfl rfl ?_) | (apply gcl; first | refine scl rfl (nextR_ok _ _ _ (by omega) c0) rfl ?_) | (apply gal; refine sal rfl (fun _ => ?_))) | (apply g_wpc; first | apply wpc_block | (apply g_cond; first | (refine cdD rfl (fun hb => ?_) (fun hb => ?_) <;> (try (exfalso; first | (with_reducible exact absurd (by assumption) hb) | (with_reducible exact absurd hb (by assumption)) | omega)))) | apply wpc_skip))
    refine scs 0 rfl rfl (r_number s _ _ _ _ _ H (by omega)) rfl rfl (fun r H2 Lq hg2 hX => ?_)
    obtain ⟨cs, rfl, hrep2⟩ := hX
    obtain ⟨k1, n1, g1, s1, A1, m1, c1', B1, m2, c2', rfl⟩ := Tr.cells hrep2
    refine wpl_drop _ (List.sublist_append_right _ _) ?_
    repeat' (first | apply wpe_seq | apply wpl_nil | (apply g_any; first | (apply gas; refine sas rfl rfl ?_) | (apply gex; refine sex rfl rfl ?_) | (apply gst; refine sst rfl rfl (by exact rfl) (by exact rfl) (by exact rfl) (by exact rfl) ?_)) | (apply g_wpc; first | apply wpc_ret) | (apply g_wpe; first | apply wpe_then_ret | apply wpe_block_ret))
    exact wpe_end (.inl rfl) (by exact .cell 1 rfl rfl rfl rfl (.tmp rfl (.tmp rfl .nil))) [] (List.nil_sublist _) hg2 ⟨_, rfl, hrep2⟩
  rw [if_neg c2]
  by_cases c3 : (nextI s a).k = 2
  case pos =>
    rw [if_pos c3]
    repeat' (first | apply wpc_seq | apply wpe_seq | apply wpl_nil | apply wpc_region | (apply g_any; first | (apply gmv; refine smv rfl rfl ?_) | (apply gas; refine sas rfl rfl ?_) | (apply gld; refine sld rfl (by exact rfl) (by exact rfl) rfl ?_) | (apply gfa; refine sfa rfl rfl ?_) | (apply gex; refine sex rfl rfl ?_) | (apply gst; refine sst rfl rfl (by exact rfl) (by exact rfl) (by exact rfl) (by exact rfl) ?_) | (apply gbn; first | refine sbn rfl rfl ?_) | (apply gcl; first | refine scl rfl (nextR_ok _ _ _ (by omega) c0) rfl ?_) | (apply gal; refine sal rfl (fun _ => ?_))) | (apply g_wpc; first | apply wpc_block | (apply g_cond; first | (refine cdD rfl (fun hb => ?_) (fun hb => ?_) <;> (try (exfalso; first | (with_reducible exact absurd (by assumption) hb) | (with_reducible exact absurd hb (by assumption)) | omega)))) | apply wpc_skip))
    refine wpc_heldI [0] 7 mixed rfl ?_
    refine wph_takes [0, 1, 2, 3, 4] (fuel := 3) (listed' := #[true, true, true, true, true, false, false, false]) (by kernel_rfl) rfl (by kernel_rfl) (HLe.refl _) (by repeat' (first | exact List.Sublist.slnil | apply List.Sublist.cons_cons | apply List.Sublist.cons)) ?_
    repeat' (first | (apply gt_any; first | (apply hld; refine tld rfl (by exact rfl) (by exact rfl) rfl ?_) | (apply hfa; refine tfa rfl rfl ?_) | (apply hbd; refine tbd rfl rfl rfl ?_)))
    refine wpt_nil ?_
    refine wph_one 5 (listed' := #[true, true, true, true, true, true, false, false]) (by kernel_rfl) rfl (by kernel_rfl) ?_   -- [ref.go:119] -     := Op.store 26 t6 t38
    repeat' (first | apply wpl_nil | (apply g_any; first | (apply gst; refine sst rfl rfl (by exact rfl) (by exact rfl) (by exact rfl) (by exact rfl) ?_)))
    refine wpe_hold (HLe.refl _) (by repeat' (first | exact List.Sublist.slnil | apply List.Sublist.cons_cons | apply List.Sublist.cons)) ?_
    refine wph_takes [6] (fuel := 1) (listed' := #[true, true, true, true, true, true, true, false]) (by kernel_rfl) rfl (by kernel_rfl) (HLe.refl _) (by repeat' (first | exact List.Sublist.slnil | apply List.Sublist.cons_cons | apply List.Sublist.cons)) ?_
    repeat' (first | (apply gt_any; first | (apply has; refine tas rfl rfl ?_)))
    refine wpt_nil ?_
    refine wph_after [7] (fuel := 0) (listed' := #[true, true, true, true, true, true, true, true]) (by kernel_rfl) rfl (by kernel_rfl) ?_
    repeat' (first | (apply gt_any; first | (apply has; refine tas rfl rfl ?_)))
    refine wpt_nil ?_
    refine wph_done (by kernel_rfl) ?_
    repeat' (first | apply wpe_seq | (apply g_wpc; first | apply wpc_ret) | (apply g_wpe; first | apply wpe_then_ret | apply wpe_block_ret))
    exact end3 (by exact .cell 1 rfl rfl rfl rfl (.tmp rfl (.tmp rfl .nil))) ⟨_, rfl, Tr.rep_leaf _ _ _ _⟩
  rw [if_neg c3]
  by_cases c4 : (nextI s a).k = 3
  case pos =>
    rw [if_pos c4]
    repeat' (first | apply wpc_seq | apply wpe_seq | apply wpl_nil | apply wpc_region | (apply g_any; first | (apply gmv; refine smv rfl rfl ?_) | (apply gas; refine sas rfl rfl ?_) | (apply gld; refine sld rfl (by exact rfl) (by exact rfl) rfl ?_) | (apply gfa; refine sfa rfl rfl ?_) | (apply gex; refine sex rfl rfl ?_) | (apply gst; refine sst rfl rfl (by exact rfl) (by exact rfl) (by exact rfl) (by exact rfl) ?_) | (apply gbn; first | refine sbn rfl rfl ?_) | (apply gcl; first | refine scl rfl (nextR_ok _ _ _ (by omega) c0) rfl ?_) | (apply gal; refine sal rfl (fun _ => ?_))) | (apply g_wpc; first | apply wpc_block | (apply g_cond; first | (refine cdD rfl (fun hb => ?_) (fun hb => ?_) <;> (try (exfalso; first | (with_reducible exact absurd (by assumption) hb) | (with_reducible exact absurd hb (by assumption)) | omega)))) | apply wpc_skip))
    refine wpc_heldI [0] 7 mixed rfl ?_
    refine wph_takes [0, 1, 2, 3, 4] (fuel := 3) (listed' := #[true, true, true, true, true, false, false, false]) (by kernel_rfl) rfl (by kernel_rfl) (HLe.refl _) (by repeat' (first | exact List.Sublist.slnil | apply List.Sublist.cons_cons | apply List.Sublist.cons)) ?_
    repeat' (first | (apply gt_any; first | (apply hld; refine tld rfl (by exact rfl) (by exact rfl) rfl ?_) | (apply hfa; refine tfa rfl rfl ?_) | (apply hbd; refine tbd rfl rfl rfl ?_)))
    refine wpt_nil ?_
    refine wph_one 5 (listed' := #[true, true, true, true, true, true, false, false]) (by kernel_rfl) rfl (by kernel_rfl) ?_   -- [ref.go:121] -     := Op.store 26 t6 t45
    repeat' (first | apply wpl_nil | (apply g_any; first | (apply gst; refine sst rfl rfl (by exact rfl) (by exact rfl) (by exact rfl) (by exact rfl) ?_)))
    refine wpe_hold (HLe.refl _) (by repeat' (first | exact List.Sublist.slnil | apply List.Sublist.cons_cons | apply List.Sublist.cons)) ?_
    refine wph_takes [6] (fuel := 1) (listed' := #[true, true, true, true, true, true, true, false]) (by kernel_rfl) rfl (by kernel_rfl) (HLe.refl _) (by repeat' (first | exact List.Sublist.slnil | apply List.Sublist.cons_cons | apply List.Sublist.cons)) ?_
    repeat' (first | (apply gt_any; first | (apply has; refine tas rfl rfl ?_)))
    refine wpt_nil ?_
    refine wph_after [7] (fuel := 0) (listed' := #[true, true, true, true, true, true, true, true]) (by kernel_rfl) rfl (by kernel_rfl) ?_
    repeat' (first | (apply gt_any; first | (apply has; refine tas rfl rfl ?_)))
    refine wpt_nil ?_
    refine wph_done (by kernel_rfl) ?_
    repeat' (first | apply wpe_seq | (apply g_wpc; first | apply wpc_ret) | (apply g_wpe; first | apply wpe_then_ret | apply wpe_block_ret))
    exact end3 (by exact .cell 1 rfl rfl rfl rfl (.tmp rfl (.tmp rfl .nil))) ⟨_, rfl, Tr.rep_leaf _ _ _ _⟩
  rw [if_neg c4]
  by_cases c5 : (nextI s a).k = 8
  case pos =>
    rw [if_pos c5]
    obtain ⟨k', n', g', t', e', err', hnu⟩ := wo_leaf (nextI s a).t (nextI s a).e
    have hwo := r_word (nextI s a).k (nextI s a).n (skI s a) (nextI s a).e (nextI s a).t H
    rw [hnu] at hwo ⊢
    dsimp only at hwo
    repeat' (first | apply wpc_seq | apply wpe_seq | apply wpl_nil | apply wpc_region | (apply g_any; first | (apply gmv; refine smv rfl rfl ?_) | (apply gas; refine sas rfl rfl ?_) | (apply gld; refine sld rfl (by exact rfl) (by exact rfl) rfl ?_) | (apply gfa; refine sfa rfl rfl ?_) | (apply gex; refine sex rfl rfl ?_) | (apply gst; refine sst rfl rfl (by exact rfl) (by exact rfl) (by exact rfl) (by exact rfl) ?_) | (apply gbn; first | refine sbn rfl rfl ?_) | (apply gcl; first | refine scl rfl (nextR_ok _ _ _ (by omega) c0) rfl ?_ | refine scl rfl (hwo) rfl ?_) | (apply gal; refine sal rfl (fun _ => ?_))) | (apply g_wpc; first | apply wpc_block | (apply g_cond; first | (refine cdD rfl (fun hb => ?_) (fun hb => ?_) <;> (try (exfalso; first | (with_reducible exact absurd (by assumption) hb) | (with_reducible exact absurd hb (by assumption)) | omega)))) | apply wpc_skip | apply wpc_ret) | (apply g_wpe; first | apply wpe_then_ret | apply wpe_block_ret))
    exact end3 (by exact .cell 1 rfl rfl rfl rfl (.tmp rfl (.tmp rfl .nil))) ⟨_, rfl, Tr.rep_leaf _ _ _ _⟩
  rw [if_neg c5]
  by_cases c6 : (nextI s a).k = 4
  case pos =>
    rw [if_pos c6]
    by_cases hw : w < 64
    · rw [if_neg (by omega)]
      repeat' (first | apply wpc_seq | apply wpe_seq | apply wpl_nil | apply wpc_region | (apply g_any; first | (apply gmv; refine smv rfl rfl ?_) | (apply gas; refine sas rfl rfl ?_) | (apply gld; refine sld rfl (by exact rfl) (by exact rfl) rfl ?_) | (apply gfa; refine sfa rfl rfl ?_) | (apply gex; refine sex rfl rfl ?_) | (apply gst; refine sst rfl rfl (by exact rfl) (by exact rfl) (by exact rfl) (by exact rfl) ?_) | (apply gbn; first | (apply gad; refine sad rfl rfl (by omega) (by omega) rfl ?_) | refine sbn rfl rfl ?_) | (apply gcl; first | refine scl rfl (nextR_ok _ _ _ (by omega) c0) rfl ?_) | (apply gal; refine sal rfl (fun _ => ?_))) | (apply g_wpc; first | apply wpc_block | (apply g_cond; first | (refine cdD rfl (fun hb => ?_) (fun hb => ?_) <;> (try (exfalso; first | (with_reducible exact absurd (by assumption) hb) | (with_reducible exact absurd hb (by assumption)) | omega)))) | apply wpc_skip) | (apply g_wpe; first | apply wpe_block))
      refine scs 0 rfl rfl (hL (nextI s a).e (w + 1) H (by omega) (by omega) (by omega) (by omega) (by omega)) rfl rfl (fun r H2 Lq hg2 hX => ?_)
      obtain ⟨cs, rfl, hrep2⟩ := hX
      obtain ⟨k1, n1, g1, s1, A1, m1, c1', B1, m2, c2', rfl⟩ := Tr.cells hrep2
      refine wpl_drop _ (List.sublist_append_right _ _) ?_
      repeat' (first | apply wpe_seq | apply wpl_nil | (apply g_any; first | (apply gas; refine sas rfl rfl ?_) | (apply gex; refine sex rfl rfl ?_) | (apply gst; refine sst rfl rfl (by exact rfl) (by exact rfl) (by exact rfl) (by exact rfl) ?_)) | (apply g_wpc; first | apply wpc_ret) | (apply g_wpe; first | apply wpe_then_ret))
      exact wpe_end (.inl rfl) (by exact .cell 1 rfl rfl rfl rfl (.tmp rfl (.tmp rfl .nil))) [] (List.nil_sublist _) hg2 ⟨_, rfl, hrep2⟩
    · rw [if_pos (by omega)]
      repeat' (first | apply wpc_seq | apply wpe_seq | apply wpl_nil | apply wpc_region | (apply g_any; first | (apply gmv; refine smv rfl rfl ?_) | (apply gas; refine sas rfl rfl ?_) | (apply gld; refine sld rfl (by exact rfl) (by exact rfl) rfl ?_) | (apply gfa; refine sfa rfl rfl ?_) | (apply gex; refine sex rfl rfl ?_) | (apply gst; refine sst rfl rfl (by exact rfl) (by exact rfl) (by exact rfl) (by exact rfl) ?_) | (apply gbn; first | refine sbn rfl rfl ?_) | (apply gcl; first | refine scl rfl (nextR_ok _ _ _ (by omega) c0) rfl ?_) | (apply gal; refine sal rfl (fun _ => ?_)) | (apply gbd; refine sbd rfl rfl rfl ?_)) | (apply g_wpc; first | apply wpc_block | (apply g_cond; first | (refine cdD rfl (fun hb => ?_) (fun hb => ?_) <;> (try (exfalso; first | (with_reducible exact absurd (by assumption) hb) | (with_reducible exact absurd hb (by assumption)) | omega)))) | apply wpc_skip | apply wpc_ret) | (apply g_wpe; first | apply wpe_block | apply wpe_then_ret))
      exact end3 (by exact .cell 1 rfl rfl rfl rfl (.tmp rfl (.tmp rfl .nil))) ⟨_, rfl, Tr.rep_leaf _ _ _ _⟩
  rw [if_neg c6]
  by_cases c7 : (nextI s a).k = 6
  case pos =>
    rw [if_pos c7]
    by_cases hw : w < 64
    · rw [if_neg (by omega)]
      repeat' (first | apply wpc_seq | apply wpe_seq | apply wpl_nil | apply wpc_region | (apply g_any; first | (apply gmv; refine smv rfl rfl ?_) | (apply gas; refine sas rfl rfl ?_) | (apply gld; refine sld rfl (by exact rfl) (by exact rfl) rfl ?_) | (apply gfa; refine sfa rfl rfl ?_) | (apply gex; refine sex rfl rfl ?_) | (apply gst; refine sst rfl rfl (by exact rfl) (by exact rfl) (by exact rfl) (by exact rfl) ?_) | (apply gbn; first | (apply gad; refine sad rfl rfl (by omega) (by omega) rfl ?_) | refine sbn rfl rfl ?_) | (apply gcl; first | refine scl rfl (nextR_ok _ _ _ (by omega) c0) rfl ?_) | (apply gal; refine sal rfl (fun _ => ?_))) | (apply g_wpc; first | apply wpc_block | (apply g_cond; first | (refine cdD rfl (fun hb => ?_) (fun hb => ?_) <;> (try (exfalso; first | (with_reducible exact absurd (by assumption) hb) | (with_reducible exact absurd hb (by assumption)) | omega)))) | apply wpc_skip) | (apply g_wpe; first | apply wpe_block))
      refine scs 0 rfl rfl (hD (nextI s a).e (w + 1) H (by omega) (by omega) (by omega) (by omega) (by omega)) rfl rfl (fun r H2 Lq hg2 hX => ?_)
      obtain ⟨cs, rfl, hrep2⟩ := hX
      obtain ⟨k1, n1, g1, s1, A1, m1, c1', B1, m2, c2', rfl⟩ := Tr.cells hrep2
      refine wpl_drop _ (List.sublist_append_right _ _) ?_
      repeat' (first | apply wpe_seq | apply wpl_nil | (apply g_any; first | (apply gas; refine sas rfl rfl ?_) | (apply gex; refine sex rfl rfl ?_) | (apply gst; refine sst rfl rfl (by exact rfl) (by exact rfl) (by exact rfl) (by exact rfl) ?_)) | (apply g_wpc; first | apply wpc_ret))
      exact wpe_end (.inl rfl) (by exact .cell 1 rfl rfl rfl rfl (.tmp rfl (.tmp rfl .nil))) [] (List.nil_sublist _) hg2 ⟨_, rfl, hrep2⟩
    · rw [if_pos (by omega)]
      repeat' (first | apply wpc_seq | apply wpe_seq | apply wpl_nil | apply wpc_region | (apply g_any; first | (apply gmv; refine smv rfl rfl ?_) | (apply gas; refine sas rfl rfl ?_) | (apply gld; refine sld rfl (by exact rfl) (by exact rfl) rfl ?_) | (apply gfa; refine sfa rfl rfl ?_) | (apply gex; refine sex rfl rfl ?_) | (apply gst; refine sst rfl rfl (by exact rfl) (by exact rfl) (by exact rfl) (by exact rfl) ?_) | (apply gbn; first | refine sbn rfl rfl ?_) | (apply gcl; first | refine scl rfl (nextR_ok _ _ _ (by omega) c0) rfl ?_) | (apply gal; refine sal rfl (fun _ => ?_)) | (apply gbd; refine sbd rfl rfl rfl ?_)) | (apply g_wpc; first | apply wpc_block | (apply g_cond; first | (refine cdD rfl (fun hb => ?_) (fun hb => ?_) <;> (try (exfalso; first | (with_reducible exact absurd (by assumption) hb) | (with_reducible exact absurd hb (by assumption)) | omega)))) | apply wpc_skip | apply wpc_ret) | (apply g_wpe; first | apply wpe_block | apply wpe_then_ret))
      exact end3 (by exact .cell 1 rfl rfl rfl rfl (.tmp rfl (.tmp rfl .nil))) ⟨_, rfl, Tr.rep_leaf _ _ _ _⟩
  rw [if_neg c7]
  repeat' (first | apply wpc_seq | apply wpe_seq | apply wpl_nil | apply wpc_region | (apply g_any; first | (apply gmv; refine smv rfl rfl ?_) | (apply gas; refine sas rfl rfl ?_) | (apply gld; refine sld rfl (by exact rfl) (by exact rfl) rfl ?_) | (apply gfa; refine sfa rfl rfl ?_) | (apply gex; refine sex rfl rfl ?_) | (apply gst; refine sst rfl rfl (by exact rfl) (by exact rfl) (by exact rfl) (by exact rfl) ?_) | (apply gbn; first | refine sbn rfl rfl ?_) | (apply gcl; first | refine scl rfl (nextR_ok _ _ _ (by omega) c0) rfl ?_) | (apply gal; refine sal rfl (fun _ => ?_)) | (apply gbd; refine sbd rfl rfl rfl ?_)) | (apply g_wpc; first | apply wpc_block | (apply g_cond; first | refine cdT rfl ?_ | (refine cdD rfl (fun hb => ?_) (fun hb => ?_) <;> (try (exfalso; first | (with_reducible exact absurd (by assumption) hb) | (with_reducible exact absurd hb (by assumption)) | omega)))) | apply wpc_skip | apply wpc_ret) | (apply g_wpe; first | apply wpe_then_ret | apply wpe_block_ret))
  all_goals exact end3 (by exact .cell 1 rfl rfl rfl rfl (.tmp rfl (.tmp rfl .nil))) ⟨_, rfl, Tr.rep_leaf _ _ _ _⟩
/-- The reference's parser, whatever it reads. -/
theorem r_all (s : ByteArray) (hs : s.size ≤ 67108864) : ∀ n, RR s n := by
  intro n
  induction n using Nat.strongRecOn with
  | _ n ih =>
    cases n with
    | zero => intro a w H _ _ _ h; omega
    | succ n => exact r_read s n hs (r_list s n hs fun m hm => ih m (by omega)) (r_dict s n hs fun m hm => ih m (by omega))
end Go.Proofs.Ytgjhbambdnpcmaa
