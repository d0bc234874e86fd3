/- Proved on the way: The parser: lists. The parser: dictionaries. -/
import Derived.Test.YtgjhbambdnpcmaaPrA
set_option linter.unusedVariables false
set_option linter.unusedSimpArgs false
namespace Go.Proofs.Ytgjhbambdnpcmaa
open Go Go.Eng
theorem p_list (s : ByteArray) (n : Nat) (hs : s.size ≤ 67108864) (hR : ∀ m, m < n → RD s m) : LS s n := by
  intro a w g H hw0 hw1 ha0 ha1 hn
  refine fn_intro Try.func22 rfl rfl (fun W0 => ?_)
  repeat' (first | apply wpc_seq | apply wpe_seq | apply wpl_nil | apply wpc_region | (apply g_any; first | (apply gas; refine sas rfl rfl ?_) | (apply gst; refine sst rfl rfl (by exact rfl) (by exact rfl) (by exact rfl) (by exact rfl) ?_) | (apply gal; refine sal rfl (fun _ => ?_)) | (apply gbd; refine sbd rfl rfl rfl ?_)) | (apply g_wpc; first | apply wpc_block | apply wpc_label | apply wpc_scope))
  rename_i g2 g4
  refine wrC 26 6 ?_
  refine wpc_perm _ (List.Perm.swap _ _ _) ?_
  refine weC [.blk g4 (.cells #[.int .i64 5, .int .i64 0, .int .i64 0, .string ⟨#[]⟩, .slice none ([] : List (List Value)).length 0, .slice none 0 0] 26 (0, 0)), .row 26 6 none 0 [], .blk g2 (.cells #[.int .i64 0, .int .i64 0, .int .i64 0, .string ⟨#[]⟩, .slice none 0 0, .slice none 0 0] 26 (0, 0)), .blk g (.cells #[.string s, .int .i64 a, .int .i64 w] 45 (0, 0))] rfl ?_
  refine wpc_less (l' := [(0, .pointer (some ⟨g, 0, none⟩)), (2, .pointer (some ⟨g2, 0, none⟩)), (4, .pointer (some ⟨g4, 0, none⟩))]) ⟨rfl, rfl, rfl, trivial⟩ (List.Sublist.refl _) ?_
  refine wpc_loop (ι := Int × Nat × List Tr × List (List Value) × Option Addr × Nat × GH) (fun x => 0 ≤ x.1 ∧ x.1 ≤ s.size ∧ 2 * (s.size - x.1) + 2 ≤ x.2.1 ∧ x.2.1 ≤ n ∧ Grow W0 H x.2.2.2.2.2.2 ∧ Tr.repL x.2.2.2.2.2.2 x.2.2.1 x.2.2.2.1 ∧ (x.2.2.2.1.length : Int) ≤ x.1 ∧ lsN s n a w [] = lsN s x.2.1 x.1 w x.2.2.1) (fun x => x.2.1)
    (fun x => [(0, .pointer (some ⟨g, 0, none⟩)), (2, .pointer (some ⟨g2, 0, none⟩)), (4, .pointer (some ⟨g4, 0, none⟩))]) (fun x => x.2.2.2.2.2.2)
    (fun x => [.blk g4 (.cells #[.int .i64 5, .int .i64 0, .int .i64 0, .string ⟨#[]⟩, .slice x.2.2.2.2.1 x.2.2.2.1.length x.2.2.2.2.2.1, .slice none 0 0] 26 (0, 0)), .row 26 6 x.2.2.2.2.1 x.2.2.2.2.2.1 x.2.2.2.1, .blk g2 (.cells #[.int .i64 0, .int .i64 0, .int .i64 0, .string ⟨#[]⟩, .slice none 0 0, .slice none 0 0] 26 (0, 0)), .blk g (.cells #[.string s, .int .i64 x.1, .int .i64 w] 45 (0, 0))]) ?_
    (a, n, [], [], none, 0, H) ⟨ha0, ha1, by dsimp only; omega, Nat.le_refl _, Grow.refl _ _, by simp [Tr.repL], by simp; omega, rfl⟩
  rintro ⟨i, m, ts, xss, A, c, H1⟩ ⟨hi0, hi1, hm0, hm1, hg1, hrep, hlen, heq⟩
  dsimp only at hi0 hi1 hm0 hm1 hg1 hrep hlen heq ⊢
  obtain ⟨m, rfl⟩ : ∃ k, m = k + 1 := ⟨m - 1, by omega⟩
  rw [lsN] at heq
  repeat' (first | apply wpc_seq | apply wpc_region | (apply g_any; first | (apply gmv; refine smv rfl rfl ?_) | (apply gfa; refine sfa rfl rfl ?_) | (apply gnc; refine snc rfl rfl ?_)) | (apply g_wpc; first | apply wpc_block))
  refine scq 3 rfl rfl (p_peek s i g _ _ (by omega)) rfl rfl (fun r Lq hX => ?_)
  obtain ⟨rfl, rfl⟩ := hX
  refine wnL rfl ?_
  by_cases c0 : (nextI s i).err = 0
  case neg =>
    rw [if_pos c0] at heq
    rw [tkV, if_neg c0]
    repeat' (first | apply wpc_seq | apply wpe_seq | apply wpl_nil | apply wpc_region | (apply g_any; first | (apply gmv; refine smv rfl rfl ?_) | (apply gas; refine sas rfl rfl ?_) | (apply gex; refine sex rfl rfl ?_) | (apply gst; refine sst rfl rfl (by exact rfl) (by exact rfl) (by exact rfl) (by exact rfl) ?_) | (apply gbn; first | refine sbn rfl rfl ?_) | (apply gcl; first | refine scl rfl (p_none _ _) rfl ?_) | (apply gal; refine sal rfl (fun _ => ?_))) | (apply g_wpc; first | apply wpc_block | (apply g_cond; first | (refine cdD rfl (fun hb => ?_) (fun hb => ?_) <;> (try (exfalso; first | (with_reducible exact absurd (by assumption) hb) | (with_reducible exact absurd hb (by assumption)) | omega)))) | apply wpc_ret) | (apply g_wpe; first | apply wpe_then_ret | apply wpe_block_ret | apply wpe_back_ret | apply wpe_scope_ret))
    rw [heq]
    refine wpe_end (.inl rfl) (by exact .cell 3 rfl rfl rfl rfl (.tmp rfl .nil)) [.blk g (.cells #[.string s, .int .i64 i, .int .i64 w] 45 (0, 0))] (List.Sublist.cons _ (List.Sublist.cons _ (List.Sublist.cons _ (List.Sublist.cons _ (List.Sublist.refl _))))) hg1 ⟨_, rfl, Tr.rep_leaf _ _ _ _, _, rfl, fun h => absurd h c0⟩
  rw [if_neg (fun h => h c0)] at heq
  rw [tkV, if_pos c0]
  have hr := nextI_range c0
  by_cases c1 : (nextI s i).k = 5
  case pos =>
    rw [if_pos c1] at heq
    repeat' (first | apply wpc_seq | apply wpe_seq | apply wpl_nil | apply wpc_region | (apply g_any; first | (apply gmv; refine smv rfl rfl ?_) | (apply gas; refine sas rfl rfl ?_) | (apply gld; refine sld rfl (by exact rfl) (by exact rfl) rfl ?_) | (apply gfa; refine sfa rfl rfl ?_) | (apply gex; refine sex rfl rfl ?_) | (apply gst; refine sst rfl rfl (by exact rfl) (by exact rfl) (by exact rfl) (by exact rfl) ?_) | (apply gbn; first | refine sbn rfl rfl ?_) | (apply gnc; refine snc rfl rfl ?_) | (apply gal; refine sal rfl (fun _ => ?_))) | (apply g_wpc; first | apply wpc_block | (apply g_cond; first | (refine cdD rfl (fun hb => ?_) (fun hb => ?_) <;> (try (exfalso; first | (with_reducible exact absurd (by assumption) hb) | (with_reducible exact absurd hb (by assumption)) | omega))))))
    refine scq 4 rfl rfl (p_take s i g _ _ (by omega)) rfl rfl (fun r Lq hX => ?_)
    obtain ⟨rfl, rfl⟩ := hX
    refine wnL rfl ?_
    repeat' (first | apply wpc_seq | apply wpe_seq | apply wpl_nil | apply wpc_region | (apply g_any; first | (apply gas; refine sas rfl rfl ?_) | (apply gld; refine sld rfl (by exact rfl) (by exact rfl) rfl ?_) | (apply gst; refine sst rfl rfl (by exact rfl) (by exact rfl) (by exact rfl) (by exact rfl) ?_)) | (apply g_wpc; first | apply wpc_exit | apply wpc_ret) | (apply g_wpe; first | apply wpe_then_exit | apply wpe_block_eq | (apply g_exit; refine wpe_block_ne rfl ?_) | apply wpe_back_exit | apply wpe_scope_ret))
    rw [heq]
    rename_i gt _
    refine wpe_freeze [.blk gt (.cells #[.int .i64 (nextI s i).k, .int .i64 (nextI s i).n, .string (nextI s i).t, .int .i64 (skI s i), .int .i64 (nextI s i).e] 51 (0, 0)), .blk g4 (.cells #[.int .i64 5, .int .i64 0, .int .i64 0, .string ⟨#[]⟩, .slice A xss.length c, .slice none 0 0] 26 (0, 0))] [.blk g2 (.cells #[.int .i64 5, .int .i64 0, .int .i64 0, .string ⟨#[]⟩, .slice A xss.length c, .slice none 0 0] 26 (0, 0)), .blk g (.cells #[.string s, .int .i64 (toI s i), .int .i64 w] 45 (0, 0))] rfl (by simp [idsOf, Ent.ids]) (fun H2 hg2 hc => ?_)
    refine wpe_end (.inl rfl) (by exact .cell 2 rfl rfl rfl rfl (.tmp rfl .nil)) [.blk g (.cells #[.string s, .int .i64 (toI s i), .int .i64 w] 45 (0, 0))] (List.Sublist.cons _ (List.Sublist.cons _ (List.Sublist.cons _ (List.Sublist.refl _)))) (hg1.tr hg2) ⟨_, rfl, Tr.rep_list (Tr.repL_mono hg2.le hrep) hc, _, rfl, fun _ => if_pos c0⟩
  rw [if_neg c1] at heq
  repeat' (first | apply wpc_seq | apply wpe_seq | apply wpl_nil | apply wpc_region | (apply g_any; first | (apply gmv; refine smv rfl rfl ?_) | (apply gas; refine sas rfl rfl ?_) | (apply gld; refine sld rfl (by exact rfl) (by exact rfl) rfl ?_) | (apply gfa; refine sfa rfl rfl ?_) | (apply gex; refine sex rfl rfl ?_) | (apply gst; refine sst rfl rfl (by exact rfl) (by exact rfl) (by exact rfl) (by exact rfl) ?_) | (apply gbn; first | refine sbn rfl rfl ?_) | (apply gal; refine sal rfl (fun _ => ?_))) | (apply g_wpc; first | apply wpc_block | (apply g_cond; first | (refine cdD rfl (fun hb => ?_) (fun hb => ?_) <;> (try (exfalso; first | (with_reducible exact absurd (by assumption) hb) | (with_reducible exact absurd hb (by assumption)) | omega)))) | apply wpc_skip) | (apply g_wpe; first | apply wpe_block))
  refine scs 4 rfl rfl (hR m (by omega) i w g H1 hw0 hw1 (by omega) (by omega)) rfl rfl (fun r H2 Lq hg2 hX => ?_)
  obtain ⟨cs, rfl, hrep2, a', rfl, hend⟩ := hX
  obtain ⟨k1, n1, g1, s1, A1, m1, c1', B1, m2, c2, rfl⟩ := Tr.cells hrep2
  refine wnL rfl ?_
  by_cases c2 : (rdN s m i w).2.2 = 0
  case neg =>
    rw [if_pos c2] at heq
    repeat' (first | apply wpc_seq | apply wpe_seq | apply wpl_nil | apply wpc_region | (apply g_any; first | (apply gmv; refine smv rfl rfl ?_) | (apply gas; refine sas rfl rfl ?_) | (apply gex; refine sex rfl rfl ?_) | (apply gst; refine sst rfl rfl (by exact rfl) (by exact rfl) (by exact rfl) (by exact rfl) ?_) | (apply gbn; first | refine sbn rfl rfl ?_) | (apply gcl; first | refine scl rfl (p_none _ _) rfl ?_) | (apply gal; refine sal rfl (fun _ => ?_))) | (apply g_wpc; first | (apply g_cond; first | (refine cdD rfl (fun hb => ?_) (fun hb => ?_) <;> (try (exfalso; first | (with_reducible exact absurd (by assumption) hb) | (with_reducible exact absurd hb (by assumption)) | omega)))) | apply wpc_ret) | (apply g_wpe; first | apply wpe_then_ret | apply wpe_block_ret | apply wpe_back_ret | apply wpe_scope_ret))
    rw [heq]
    exact wpe_end (.inl rfl) (by exact .cell 4 rfl rfl rfl rfl (.tmp rfl .nil)) [.blk g (.cells #[.string s, .int .i64 a', .int .i64 w] 45 (0, 0))] (List.Sublist.cons _ (List.Sublist.cons _ (List.Sublist.cons _ (List.Sublist.cons _ (List.Sublist.cons _ (List.Sublist.refl _)))))) (hg1.tr hg2) ⟨_, rfl, Tr.rep_leaf _ _ _ _, _, rfl, fun h => absurd h c2⟩
  rw [if_neg (fun h => h c2)] at heq
  have hrg := ((rd_range s m).1 i w hi1 c2 (by omega)).resolve_right (by omega)
  obtain rfl := hend c2
  repeat' (first | apply wpc_seq | apply wpe_seq | apply wpl_nil | apply wpc_region | (apply g_any; first | (refine sb1 rfl rfl rfl rfl rfl rfl rfl (fun _ => ?_)) | (refine sap rfl rfl rfl rfl rfl rfl rfl rfl (by omega) rfl (fun _ _ => ?_); refine wnL rfl ?_) | (apply gmv; refine smv rfl rfl ?_) | (apply gas; refine sas rfl rfl ?_) | (apply gld; refine sld rfl (by exact rfl) (by exact rfl) rfl ?_) | (apply gfa; refine sfa rfl rfl ?_) | (apply gex; refine sex rfl rfl ?_) | (apply gst; refine sst rfl rfl (by exact rfl) (by exact rfl) (by exact rfl) (by exact rfl) ?_) | (apply gbn; first | refine sbn rfl rfl ?_) | (apply gal; refine sal rfl (fun _ => ?_))) | (apply g_wpc; first | (apply g_cond; first | (refine cdD rfl (fun hb => ?_) (fun hb => ?_) <;> (try (exfalso; first | (with_reducible exact absurd (by assumption) hb) | (with_reducible exact absurd hb (by assumption)) | omega)))) | apply wpc_skip) | (apply g_wpe; first | apply wpe_block))
  rename_i A2 cc2
  exact wpe_back ((rdN s m i w).2.1, m, ts ++ [(rdN s m i w).1], xss ++ [_], A2, cc2, H2) ⟨by dsimp only; omega, by dsimp only; omega, by dsimp only; omega, by dsimp only; omega, hg1.tr hg2, Tr.repL_snoc (Tr.repL_mono hg2.le hrep) hrep2, by simp only [List.length_append, List.length_singleton]; omega, heq⟩ (by dsimp only; omega) ⟨rfl, rfl, rfl, trivial⟩ rfl (by simp only [List.length_append, List.length_singleton]; exact (by repeat' (first | exact List.Sublist.slnil | apply List.Sublist.cons_cons | apply List.Sublist.cons)))
end Go.Proofs.Ytgjhbambdnpcmaa
set_option linter.unusedVariables false
set_option linter.unusedSimpArgs false
namespace Go.Proofs.Ytgjhbambdnpcmaa
open Go Go.Eng
def kyI (s : ByteArray) (a : Int) (ks : List ByteArray) : ByteArray × Bool × Int :=
  if ¬ (nextI s a).err = 0 then (⟨#[]⟩, false, (nextI s a).err)
  else if (nextI s a).k = 0 then (⟨#[]⟩, false, 5)
  else if (nextI s a).k = 7 then (⟨#[]⟩, false, 0)
  else if ¬ (nextI s a).k = 2 then (⟨#[]⟩, false, 4)
  else if (ks.any fun q => decide ((nextI s a).t = q)) = true then (⟨#[]⟩, false, 11)
  else ((nextI s a).t, true, 0)
theorem p_key (s : ByteArray) (a : Int) (ks : List ByteArray) (g gm : Nat) (V : Value) (H : GH) (hs : s.size ≤ 140737488351232) : CtL Try.prog 43 [.pointer (some ⟨g, 0, none⟩), .map (some gm)] H [.blk gm (mapO (onesM ks)), .blk g (.cells #[.string s, .int .i64 a, V] 45 (0, 0))]
    (fun r L' => r = .tuple #[.string (kyI s a ks).1, .bool (kyI s a ks).2.1, .int .i64 (kyI s a ks).2.2] ∧ L' = [.blk gm (mapO (onesM (if (kyI s a ks).2.1 = true then ks ++ [(kyI s a ks).1] else ks))), .blk g (.cells #[.string s, .int .i64 (toI s a), V] 45 (0, 0))]) := by
  refine fn_intro Try.func43 rfl rfl (fun w => ?_)
  repeat' (first | apply wpc_seq | apply wpe_seq | apply wpl_nil | apply wpc_region | (apply g_any; first | (apply gmv; refine smv rfl rfl ?_) | (apply gas; refine sas rfl rfl ?_) | (apply gfa; refine sfa rfl rfl ?_) | (apply gnc; refine snc rfl rfl ?_)))
  refine scq 1 rfl rfl (p_take s a g V _ hs) rfl rfl (fun r Lq hX => ?_)
  obtain ⟨rfl, rfl⟩ := hX
  refine wnL rfl ?_
  by_cases c0 : (nextI s a).err = 0
  case neg =>
    rw [tkV, if_neg c0, show kyI s a ks = _ from if_pos c0]
    repeat' (first | apply wpc_seq | apply wpe_seq | apply wpl_nil | apply wpc_region | (apply g_any; first | (apply gmv; refine smv rfl rfl ?_) | (apply gas; refine sas rfl rfl ?_) | (apply gex; refine sex rfl rfl ?_) | (apply gst; refine sst rfl rfl (by exact rfl) (by exact rfl) (by exact rfl) (by exact rfl) ?_) | (apply gbn; first | refine sbn rfl rfl ?_) | (apply gal; refine sal rfl (fun _ => ?_))) | (apply g_wpc; first | apply wpc_block | (apply g_cond; first | (refine cdD rfl (fun hb => ?_) (fun hb => ?_) <;> (try (exfalso; first | (with_reducible exact absurd (by assumption) hb) | (with_reducible exact absurd hb (by assumption)) | omega)))) | apply wpc_ret) | (apply g_wpe; first | apply wpe_then_ret | apply wpe_block_ret))
    exact wpe_end (.inl rfl) (by exact .tmp rfl (.tmp rfl (.tmp rfl .nil))) _ (List.Sublist.cons _ (List.Sublist.refl _)) (Grow.refl _ _) ⟨rfl, rfl⟩
  rw [tkV, if_pos c0]
  have e0 : kyI s a ks = _ := if_neg (fun h => h c0)
  by_cases c1 : (nextI s a).k = 0
  case pos =>
    rw [e0, if_pos c1]
    repeat' (first | apply wpc_seq | apply wpe_seq | apply wpl_nil | apply wpc_region | (apply g_any; first | (apply gmv; refine smv rfl rfl ?_) | (apply gas; refine sas rfl rfl ?_) | (apply gld; refine sld rfl (by exact rfl) (by exact rfl) rfl ?_) | (apply gfa; refine sfa rfl rfl ?_) | (apply gex; refine sex rfl rfl ?_) | (apply gst; refine sst rfl rfl (by exact rfl) (by exact rfl) (by exact rfl) (by exact rfl) ?_) | (apply gbn; first | refine sbn rfl rfl ?_) | (apply gal; refine sal rfl (fun _ => ?_))) | (apply g_wpc; first | apply wpc_block | (apply g_cond; first | (refine cdD rfl (fun hb => ?_) (fun hb => ?_) <;> (try (exfalso; first | (with_reducible exact absurd (by assumption) hb) | (with_reducible exact absurd hb (by assumption)) | omega)))) | apply wpc_ret) | (apply g_wpe; first | apply wpe_then_ret | apply wpe_block_ret))
    exact wpe_end (.inl rfl) (by exact .tmp rfl (.tmp rfl (.tmp rfl .nil))) _ (List.Sublist.cons _ (List.Sublist.refl _)) (Grow.refl _ _) ⟨rfl, rfl⟩
  by_cases c2 : (nextI s a).k = 7
  case pos =>
    rw [e0, if_neg c1, if_pos c2]
    repeat' (first | apply wpc_seq | apply wpe_seq | apply wpl_nil | apply wpc_region | (apply g_any; first | (apply gmv; refine smv rfl rfl ?_) | (apply gas; refine sas rfl rfl ?_) | (apply gld; refine sld rfl (by exact rfl) (by exact rfl) rfl ?_) | (apply gfa; refine sfa rfl rfl ?_) | (apply gex; refine sex rfl rfl ?_) | (apply gst; refine sst rfl rfl (by exact rfl) (by exact rfl) (by exact rfl) (by exact rfl) ?_) | (apply gbn; first | refine sbn rfl rfl ?_) | (apply gal; refine sal rfl (fun _ => ?_))) | (apply g_wpc; first | apply wpc_block | (apply g_cond; first | (refine cdD rfl (fun hb => ?_) (fun hb => ?_) <;> (try (exfalso; first | (with_reducible exact absurd (by assumption) hb) | (with_reducible exact absurd hb (by assumption)) | omega)))) | apply wpc_ret) | (apply g_wpe; first | apply wpe_then_ret | apply wpe_block_ret))
    exact wpe_end (.inl rfl) (by exact .tmp rfl (.tmp rfl (.tmp rfl .nil))) _ (List.Sublist.cons _ (List.Sublist.refl _)) (Grow.refl _ _) ⟨rfl, rfl⟩
  by_cases c3 : (nextI s a).k = 2
  case neg =>
    rw [e0, if_neg c1, if_neg c2, if_pos c3]
    repeat' (first | apply wpc_seq | apply wpe_seq | apply wpl_nil | apply wpc_region | (apply g_any; first | (apply gmv; refine smv rfl rfl ?_) | (apply gas; refine sas rfl rfl ?_) | (apply gld; refine sld rfl (by exact rfl) (by exact rfl) rfl ?_) | (apply gfa; refine sfa rfl rfl ?_) | (apply gex; refine sex rfl rfl ?_) | (apply gst; refine sst rfl rfl (by exact rfl) (by exact rfl) (by exact rfl) (by exact rfl) ?_) | (apply gbn; first | refine sbn rfl rfl ?_) | (apply gal; refine sal rfl (fun _ => ?_))) | (apply g_wpc; first | apply wpc_block | (apply g_cond; first | (refine cdD rfl (fun hb => ?_) (fun hb => ?_) <;> (try (exfalso; first | (with_reducible exact absurd (by assumption) hb) | (with_reducible exact absurd hb (by assumption)) | omega)))) | apply wpc_ret) | (apply g_wpe; first | apply wpe_then_ret | apply wpe_block_ret))
    exact wpe_end (.inl rfl) (by exact .tmp rfl (.tmp rfl (.tmp rfl .nil))) _ (List.Sublist.cons _ (List.Sublist.refl _)) (Grow.refl _ _) ⟨rfl, rfl⟩
  by_cases c4 : (ks.any fun q => decide ((nextI s a).t = q)) = true
  case pos =>
    have hf := onesM_find ks (nextI s a).t
    rw [if_pos c4] at hf
    rw [e0, if_neg c1, if_neg c2, if_neg (fun h => h c3), if_pos c4]
    repeat' (first | apply wpc_seq | apply wpe_seq | apply wpl_nil | apply wpc_region | (apply g_any; first | (refine slu rfl rfl hf rfl ?_) | (apply gmv; refine smv rfl rfl ?_) | (apply gas; refine sas rfl rfl ?_) | (apply gld; refine sld rfl (by exact rfl) (by exact rfl) rfl ?_) | (apply gfa; refine sfa rfl rfl ?_) | (apply gex; refine sex rfl rfl ?_) | (apply gst; refine sst rfl rfl (by exact rfl) (by exact rfl) (by exact rfl) (by exact rfl) ?_) | (apply gbn; first | refine sbn rfl rfl ?_) | (apply gal; refine sal rfl (fun _ => ?_))) | (apply g_wpc; first | apply wpc_block | (apply g_cond; first | (refine cdD rfl (fun hb => ?_) (fun hb => ?_) <;> (try (exfalso; first | (with_reducible exact absurd (by assumption) hb) | (with_reducible exact absurd hb (by assumption)) | omega)))) | apply wpc_ret) | (apply g_wpe; first | apply wpe_then_ret | apply wpe_block_ret))
    exact wpe_end (.inl rfl) (by exact .tmp rfl (.tmp rfl (.tmp rfl .nil))) _ (List.Sublist.cons _ (List.Sublist.refl _)) (Grow.refl _ _) ⟨rfl, rfl⟩
  have hf := onesM_find ks (nextI s a).t
  rw [if_neg c4] at hf
  rw [e0, if_neg c1, if_neg c2, if_neg (fun h => h c3), if_neg c4]
  repeat' (first | apply wpc_seq | apply wpe_seq | apply wpl_nil | apply wpc_region | (apply g_any; first | (refine slu rfl rfl hf rfl ?_) | (refine smp rfl rfl rfl hf ?_; refine wnL rfl ?_) | (apply gmv; refine smv rfl rfl ?_) | (apply gas; refine sas rfl rfl ?_) | (apply gld; refine sld rfl (by exact rfl) (by exact rfl) rfl ?_) | (apply gfa; refine sfa rfl rfl ?_) | (apply gex; refine sex rfl rfl ?_) | (apply gst; refine sst rfl rfl (by exact rfl) (by exact rfl) (by exact rfl) (by exact rfl) ?_) | (apply gbn; first | (apply gad; refine sad rfl rfl (by omega) (by omega) rfl ?_) | refine sbn rfl rfl ?_) | (apply gal; refine sal rfl (fun _ => ?_))) | (apply g_wpc; first | apply wpc_block | (apply g_cond; first | (refine cdD rfl (fun hb => ?_) (fun hb => ?_) <;> (try (exfalso; first | (with_reducible exact absurd (by assumption) hb) | (with_reducible exact absurd hb (by assumption)) | omega)))) | apply wpc_skip | apply wpc_ret) | (apply g_wpe; first | apply wpe_block))
  refine wpe_end (.inl rfl) (by exact .tmp rfl (.tmp rfl (.tmp rfl .nil))) _ (List.Sublist.cons _ (List.Sublist.refl _)) (Grow.refl _ _) ⟨rfl, ?_⟩
  rw [if_pos rfl, ← onesM_snoc]; rfl
end Go.Proofs.Ytgjhbambdnpcmaa
