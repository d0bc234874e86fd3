/- Proved on the way: The parser: dictionaries' loops. The parser: values. -/
import Derived.Test.YtgjhbambdnpcmaaPrB
set_option linter.unusedVariables false
set_option linter.unusedSimpArgs false
namespace Go.Proofs.Ytgjhbambdnpcmaa
open Go Go.Eng
theorem dc_step (s : ByteArray) (m : Nat) (i w : Int) (d : List (ByteArray × Tr)) :
    (¬ (kyI s i (d.map (·.1))).2.2 = 0 ∧ (kyI s i (d.map (·.1))).2.1 = false ∧ dcN s (m + 1) i w d = failP (kyI s i (d.map (·.1))).2.2) ∨
    ((kyI s i (d.map (·.1))) = (⟨#[]⟩, false, 0) ∧ (nextI s i).err = 0 ∧ dcN s (m + 1) i w d = (.mk 6 0 0 ⟨#[]⟩ [] d, (nextI s i).e, 0)) ∨
    ((kyI s i (d.map (·.1))) = ((nextI s i).t, true, 0) ∧ (nextI s i).err = 0 ∧ (nextI s i).k = 2 ∧ dcN s (m + 1) i w d = (if ¬ (rdN s m (nextI s i).e w).2.2 = 0 then failP (rdN s m (nextI s i).e w).2.2
    else dcN s m (rdN s m (nextI s i).e w).2.1 w (d ++ [((nextI s i).t, (rdN s m (nextI s i).e w).1)]))) := by
  have ha : ((d.map (·.1)).any fun q => decide ((nextI s i).t = q)) = (d.any fun p => decide ((nextI s i).t = p.1)) := by rw [List.any_map]; rfl
  rw [dcN]
  unfold kyI
  rw [ha]
  by_cases c0 : ¬ (nextI s i).err = 0
  · rw [if_pos c0, if_pos c0]; exact .inl ⟨c0, rfl, rfl⟩
  rw [if_neg c0, if_neg c0]
  by_cases c1 : (nextI s i).k = 0
  · rw [if_pos c1, if_pos c1]; exact .inl ⟨by decide, rfl, rfl⟩
  rw [if_neg c1, if_neg c1]
  by_cases c2 : (nextI s i).k = 7
  · rw [if_pos c2, if_pos c2]; exact .inr (.inl ⟨rfl, by omega, rfl⟩)
  rw [if_neg c2, if_neg c2]
  by_cases c3 : ¬ (nextI s i).k = 2
  · rw [if_pos c3, if_pos c3]; exact .inl ⟨by decide, rfl, rfl⟩
  rw [if_neg c3, if_neg c3]
  by_cases c4 : (d.any fun p => decide ((nextI s i).t = p.1)) = true
  · rw [if_pos c4, if_pos c4]; exact .inl ⟨by decide, rfl, rfl⟩
  rw [if_neg c4, if_neg c4]
  exact .inr (.inr ⟨rfl, by omega, by omega, rfl⟩)
theorem p_dict (s : ByteArray) (n : Nat) (hs : s.size ≤ 67108864) (hR : ∀ m, m < n → RD s m) : DC s n := by
  intro a w g H hw0 hw1 ha0 ha1 hn
  refine fn_intro Try.func23 rfl rfl (fun W0 => ?_)
  repeat' (first | apply wpc_seq | apply wpe_seq | apply wpl_nil | apply wpc_region | (apply g_any; first | (refine smm rfl (fun _ => ?_)) | (apply gas; refine sas rfl rfl ?_) | (apply gst; refine sst rfl rfl (by exact rfl) (by exact rfl) (by exact rfl) (by exact rfl) ?_) | (apply gal; refine sal rfl (fun _ => ?_)) | (apply gbd; refine sbd rfl rfl rfl ?_)) | (apply g_wpc; first | apply wpc_block))
  rename_i g2 g4 gm
  refine wrC 40 7 ?_
  refine wrc [2, 0, 1] rfl ?_
  refine weC [.blk g4 (.cells #[.int .i64 6, .int .i64 0, .int .i64 0, .string ⟨#[]⟩, .slice none 0 0, .slice none ([] : List (List Value)).length 0] 26 (0, 0)), .row 40 7 none 0 [], .blk g2 (.cells #[.int .i64 0, .int .i64 0, .int .i64 0, .string ⟨#[]⟩, .slice none 0 0, .slice none 0 0] 26 (0, 0)), .blk gm (mapO (onesM [])), .blk g (.cells #[.string s, .int .i64 a, .int .i64 w] 45 (0, 0))] rfl ?_
  refine wpc_less (l' := [(0, .pointer (some ⟨g, 0, none⟩)), (2, .pointer (some ⟨g2, 0, none⟩)), (4, .pointer (some ⟨g4, 0, none⟩)), (5, .map (some gm))]) ⟨rfl, rfl, rfl, rfl, trivial⟩ (List.Sublist.refl _) ?_
  refine wpc_loop (ι := Int × Nat × List (ByteArray × Tr) × List (List Value) × Option Addr × Nat × GH) (fun x => 0 ≤ x.1 ∧ x.1 ≤ s.size ∧ 2 * (s.size - x.1) + 2 ≤ x.2.1 ∧ x.2.1 ≤ n ∧ Grow W0 H x.2.2.2.2.2.2 ∧ Tr.repD x.2.2.2.2.2.2 x.2.2.1 x.2.2.2.1 ∧ (x.2.2.2.1.length : Int) ≤ x.1 ∧ dcN s n a w [] = dcN s x.2.1 x.1 w x.2.2.1) (fun x => x.2.1)
    (fun x => [(0, .pointer (some ⟨g, 0, none⟩)), (2, .pointer (some ⟨g2, 0, none⟩)), (4, .pointer (some ⟨g4, 0, none⟩)), (5, .map (some gm))]) (fun x => x.2.2.2.2.2.2)
    (fun x => [.blk g4 (.cells #[.int .i64 6, .int .i64 0, .int .i64 0, .string ⟨#[]⟩, .slice none 0 0, .slice x.2.2.2.2.1 x.2.2.2.1.length x.2.2.2.2.2.1] 26 (0, 0)), .row 40 7 x.2.2.2.2.1 x.2.2.2.2.2.1 x.2.2.2.1, .blk g2 (.cells #[.int .i64 0, .int .i64 0, .int .i64 0, .string ⟨#[]⟩, .slice none 0 0, .slice none 0 0] 26 (0, 0)), .blk gm (mapO (onesM (x.2.2.1.map (·.1)))), .blk g (.cells #[.string s, .int .i64 x.1, .int .i64 w] 45 (0, 0))]) ?_
    (a, n, [], [], none, 0, H) ⟨ha0, ha1, by dsimp only; omega, Nat.le_refl _, Grow.refl _ _, by simp [Tr.repD], by simp; omega, rfl⟩
  rintro ⟨i, m, ts, xss, A, c, H1⟩ ⟨hi0, hi1, hm0, hm1, hg1, hrep, hlen, heq⟩
  dsimp only at hi0 hi1 hm0 hm1 hg1 hrep hlen heq ⊢
  obtain ⟨m, rfl⟩ : ∃ k, m = k + 1 := ⟨m - 1, by omega⟩
  repeat' (first | apply wpc_seq | apply wpc_region | (apply g_any; first | (apply gmv; refine smv rfl rfl ?_)) | (apply g_wpc; first | apply wpc_block))
  refine scq 3 rfl rfl (p_key s i (ts.map (·.1)) g gm _ _ (by omega)) rfl rfl (fun r Lq hX => ?_)
  obtain ⟨rfl, rfl⟩ := hX
  refine wnL rfl ?_
  rcases dc_step s m i w ts with ⟨c0, c1, e⟩ | ⟨c1, c0, e⟩ | ⟨c1, c0, c2, e⟩
  · -- an error
    rw [e] at heq
    rw [c1, if_neg (by decide)]
    repeat' (first | apply wpc_seq | apply wpe_seq | apply wpl_nil | apply wpc_region | (apply g_any; first | (apply gmv; refine smv rfl rfl ?_) | (apply gas; refine sas rfl rfl ?_) | (apply gex; refine sex rfl rfl ?_) | (apply gst; refine sst rfl rfl (by exact rfl) (by exact rfl) (by exact rfl) (by exact rfl) ?_) | (apply gbn; first | refine sbn rfl rfl ?_) | (apply gcl; first | refine scl rfl (p_none _ _) rfl ?_)) | (apply g_wpc; first | (apply g_cond; first | (refine cdD rfl (fun hb => ?_) (fun hb => ?_) <;> (try (exfalso; first | (with_reducible exact absurd (by assumption) hb) | (with_reducible exact absurd hb (by assumption)) | omega)))) | apply wpc_ret) | (apply g_wpe; first | apply wpe_then_ret | apply wpe_block_ret | apply wpe_back_ret))
    rw [heq]
    exact wpe_end (.inl rfl) (by exact .cell 2 rfl rfl rfl rfl (.tmp rfl .nil)) [.blk g (.cells #[.string s, .int .i64 (toI s i), .int .i64 w] 45 (0, 0))] (List.Sublist.cons _ (List.Sublist.cons _ (List.Sublist.cons _ (List.Sublist.cons _ (List.Sublist.refl _))))) hg1 ⟨_, rfl, Tr.rep_leaf _ _ _ _, _, rfl, fun h => absurd h c0⟩
  · -- the end
    rw [e] at heq
    rw [show (kyI s i (ts.map (·.1))).1 = ⟨#[]⟩ by rw [c1], show (kyI s i (ts.map (·.1))).2.1 = false by rw [c1], show (kyI s i (ts.map (·.1))).2.2 = 0 by rw [c1], if_neg (by decide)]
    repeat' (first | apply wpc_seq | apply wpe_seq | apply wpl_nil | apply wpc_region | (apply g_any; first | (apply gmv; refine smv rfl rfl ?_) | (apply gas; refine sas rfl rfl ?_) | (apply gld; refine sld rfl (by exact rfl) (by exact rfl) rfl ?_) | (apply gex; refine sex rfl rfl ?_) | (apply gst; refine sst rfl rfl (by exact rfl) (by exact rfl) (by exact rfl) (by exact rfl) ?_) | (apply gbn; first | refine sbn rfl rfl ?_) | (apply gun; refine sun rfl rfl ?_)) | (apply g_wpc; first | (apply g_cond; first | refine cdT rfl ?_ | (refine cdD rfl (fun hb => ?_) (fun hb => ?_) <;> (try (exfalso; first | (with_reducible exact absurd (by assumption) hb) | (with_reducible exact absurd hb (by assumption)) | omega)))) | apply wpc_skip | apply wpc_ret) | (apply g_wpe; first | apply wpe_then_ret | apply wpe_block_ret | apply wpe_back_ret))
    rw [heq]
    refine wpe_freeze [.blk g4 (.cells #[.int .i64 6, .int .i64 0, .int .i64 0, .string ⟨#[]⟩, .slice none 0 0, .slice A xss.length c] 26 (0, 0))] [.blk g2 (.cells #[.int .i64 6, .int .i64 0, .int .i64 0, .string ⟨#[]⟩, .slice none 0 0, .slice A xss.length c] 26 (0, 0)), .blk gm (mapO (onesM (ts.map (·.1)))), .blk g (.cells #[.string s, .int .i64 (toI s i), .int .i64 w] 45 (0, 0))] rfl ?_ (fun H2 hg2 hc => ?_)
    · simp [idsOf, Ent.ids]
    exact wpe_end (.inl rfl) (by exact .cell 1 rfl rfl rfl rfl (.tmp rfl .nil)) [.blk g (.cells #[.string s, .int .i64 (toI s i), .int .i64 w] 45 (0, 0))] (List.Sublist.cons _ (List.Sublist.cons _ (List.Sublist.cons _ (List.Sublist.refl _)))) (hg1.tr hg2) ⟨_, rfl, Tr.rep_dict (Tr.repD_mono hg2.le hrep) hc, _, rfl, fun _ => if_pos c0⟩
  have hr := nextI_range c0
  rw [e] at heq
  rw [show (kyI s i (ts.map (·.1))).1 = (nextI s i).t by rw [c1], show (kyI s i (ts.map (·.1))).2.1 = true by rw [c1], show (kyI s i (ts.map (·.1))).2.2 = 0 by rw [c1], if_pos rfl, show toI s i = (nextI s i).e from if_pos c0]
  repeat' (first | apply wpc_seq | apply wpe_seq | apply wpl_nil | apply wpc_region | (apply g_any; first | (apply gmv; refine smv rfl rfl ?_) | (apply gas; refine sas rfl rfl ?_) | (apply gex; refine sex rfl rfl ?_) | (apply gbn; first | refine sbn rfl rfl ?_) | (apply gun; refine sun rfl rfl ?_)) | (apply g_wpc; first | (apply g_cond; first | refine cdF rfl ?_ | (refine cdD rfl (fun hb => ?_) (fun hb => ?_) <;> (try (exfalso; first | (with_reducible exact absurd (by assumption) hb) | (with_reducible exact absurd hb (by assumption)) | omega)))) | apply wpc_skip))
  refine scs 4 rfl rfl (hR m (by omega) (nextI s i).e w g H1 hw0 hw1 (by omega) (by omega)) rfl rfl (fun r H2 Lq hg2 hX => ?_)
  obtain ⟨cs, rfl, hrep2, a', rfl, hend⟩ := hX
  obtain ⟨k1, n1, g1, s1, A1, m1, c1', B1, m2, c2', rfl⟩ := Tr.cells hrep2
  refine wnL rfl ?_
  by_cases c3 : (rdN s m (nextI s i).e w).2.2 = 0
  case neg =>
    rw [if_pos c3] at heq
    repeat' (first | apply wpc_seq | apply wpe_seq | apply wpl_nil | apply wpc_region | (apply g_any; first | (apply gmv; refine smv rfl rfl ?_) | (apply gas; refine sas rfl rfl ?_) | (apply gex; refine sex rfl rfl ?_) | (apply gst; refine sst rfl rfl (by exact rfl) (by exact rfl) (by exact rfl) (by exact rfl) ?_) | (apply gbn; first | refine sbn rfl rfl ?_) | (apply gcl; first | refine scl rfl (p_none _ _) rfl ?_) | (apply gal; refine sal rfl (fun _ => ?_))) | (apply g_wpc; first | (apply g_cond; first | (refine cdD rfl (fun hb => ?_) (fun hb => ?_) <;> (try (exfalso; first | (with_reducible exact absurd (by assumption) hb) | (with_reducible exact absurd hb (by assumption)) | omega)))) | apply wpc_ret) | (apply g_wpe; first | apply wpe_then_ret | apply wpe_block_ret | apply wpe_back_ret))
    rw [heq]
    exact wpe_end (.inl rfl) (by exact .cell 3 rfl rfl rfl rfl (.tmp rfl .nil)) [.blk g (.cells #[.string s, .int .i64 a', .int .i64 w] 45 (0, 0))] (List.Sublist.cons _ (List.Sublist.cons _ (List.Sublist.cons _ (List.Sublist.cons _ (List.Sublist.cons _ (List.Sublist.refl _)))))) (hg1.tr hg2) ⟨_, rfl, Tr.rep_leaf _ _ _ _, _, rfl, fun h => absurd h c3⟩
  rw [if_neg (fun h => h c3)] at heq
  have hrg := ((rd_range s m).1 (nextI s i).e w (by omega) c3 (by omega)).resolve_right (by omega)
  obtain rfl := hend c3
  repeat' (first | apply wpc_seq | apply wpe_seq | apply wpl_nil | apply wpc_region | (apply g_any; first | (refine sb1 rfl rfl rfl rfl rfl rfl rfl (fun _ => ?_)) | (refine sap rfl rfl rfl rfl rfl rfl rfl rfl (by omega) rfl (fun _ _ => ?_); refine wnL rfl ?_) | (apply gmv; refine smv rfl rfl ?_) | (apply gas; refine sas rfl rfl ?_) | (apply gld; refine sld rfl (by exact rfl) (by exact rfl) rfl ?_) | (apply gfa; refine sfa rfl rfl ?_) | (apply gex; refine sex rfl rfl ?_) | (apply gst; refine sst rfl rfl (by exact rfl) (by exact rfl) (by exact rfl) (by exact rfl) ?_) | (apply gbn; first | refine sbn rfl rfl ?_) | (apply gal; refine sal rfl (fun _ => ?_)) | (apply gbd; refine sbd rfl rfl rfl ?_)) | (apply g_wpc; first | (apply g_cond; first | (refine cdD rfl (fun hb => ?_) (fun hb => ?_) <;> (try (exfalso; first | (with_reducible exact absurd (by assumption) hb) | (with_reducible exact absurd hb (by assumption)) | omega)))) | apply wpc_skip) | (apply g_wpe; first | apply wpe_block))
  rename_i A2 cc2
  exact wpe_back ((rdN s m (nextI s i).e w).2.1, m, ts ++ [((nextI s i).t, (rdN s m (nextI s i).e w).1)], xss ++ [_], A2, cc2, H2) ⟨by dsimp only; omega, by dsimp only; omega, by dsimp only; omega, by dsimp only; omega, hg1.tr hg2, Tr.repD_snoc (Tr.repD_mono hg2.le hrep) hrep2, by simp only [List.length_append, List.length_singleton]; omega, heq⟩ (by dsimp only; omega) ⟨rfl, rfl, rfl, rfl, trivial⟩ rfl (by simp only [List.length_append, List.length_singleton, List.map_append, List.map_cons, List.map_nil]; exact (by repeat' (first | exact List.Sublist.slnil | apply List.Sublist.cons_cons | apply List.Sublist.cons)))
end Go.Proofs.Ytgjhbambdnpcmaa
set_option linter.unusedVariables false
set_option linter.unusedSimpArgs false
namespace Go.Proofs.Ytgjhbambdnpcmaa
open Go Go.Eng
theorem p_inside (s : ByteArray) (f : Nat) [HasBody Try.prog f] (a w : Int) (g : Nat) (H : GH) (res : PR) (hw0 : 0 ≤ w) (hw : w < 64)
    (hf : Ct Try.prog f [.pointer (some ⟨g, 0, none⟩)] H [.blk g (.cells #[.string s, .int .i64 a, .int .i64 (w + 1)] 45 (0, 0))] (OutP s g (w + 1) res)) :
    Ct Try.prog 21 [.pointer (some ⟨g, 0, none⟩), .func (.func f) #[.pointer (some ⟨g, 0, none⟩)] #[]] H [.blk g (.cells #[.string s, .int .i64 a, .int .i64 w] 45 (0, 0))] (OutP s g w res) := by
  refine fn_intro Try.func21 rfl rfl (fun W0 => ?_)
  repeat' (first | apply wpc_seq | apply wpe_seq | apply wpl_nil | apply wpc_region | (apply g_any; first | (apply gmv; refine smv rfl rfl ?_) | (apply gas; refine sas rfl rfl ?_) | (apply gld; refine sld rfl (by exact rfl) (by exact rfl) rfl ?_) | (apply gfa; refine sfa rfl rfl ?_) | (apply gst; refine sst rfl rfl (by exact rfl) (by exact rfl) (by exact rfl) (by exact rfl) ?_) | (apply gbn; first | (apply gad; refine sad rfl rfl (by omega) (by omega) rfl ?_) | refine sbn rfl rfl ?_) | (apply gnc; refine snc rfl rfl ?_) | (apply gal; refine sal rfl (fun _ => ?_))) | (apply g_wpc; first | (apply g_cond; first | (refine cdD rfl (fun hb => ?_) (fun hb => ?_) <;> (try (exfalso; first | (with_reducible exact absurd (by assumption) hb) | (with_reducible exact absurd hb (by assumption)) | omega)))) | apply wpc_skip))
  refine scs 1 rfl rfl hf rfl rfl (fun r H2 Lq hg2 hX => ?_)
  obtain ⟨cs, rfl, hrep2, a', rfl, hend⟩ := hX
  obtain ⟨k1, n1, g1, s1, A1, m1, c1', B1, m2, c2', rfl⟩ := Tr.cells hrep2
  refine wnL rfl ?_
  repeat' (first | apply wpc_seq | apply wpe_seq | apply wpl_nil | apply wpc_region | (apply g_any; first | (apply gmv; refine smv rfl rfl ?_) | (apply gas; refine sas rfl rfl ?_) | (apply gld; refine sld rfl (by exact rfl) (by exact rfl) rfl ?_) | (apply gfa; refine sfa rfl rfl ?_) | (apply gex; refine sex rfl rfl ?_) | (apply gst; refine sst rfl rfl (by exact rfl) (by exact rfl) (by exact rfl) (by exact rfl) ?_) | (apply gbn; first | (apply gsb; refine ssb rfl rfl (by omega) (by omega) rfl ?_)) | (apply gnc; refine snc rfl rfl ?_) | (apply gal; refine sal rfl (fun _ => ?_))) | (apply g_wpc; first | apply wpc_ret))
  rw [show w + 1 - 1 = w by omega]
  exact wpe_end (.inl rfl) (by exact .cell 1 rfl rfl rfl rfl (.tmp rfl .nil)) [.blk g (.cells #[.string s, .int .i64 a', .int .i64 w] 45 (0, 0))] (List.Sublist.cons _ (List.Sublist.cons _ (List.Sublist.refl _))) hg2 ⟨_, rfl, hrep2, _, rfl, hend⟩
theorem p_deep (s : ByteArray) (V : Value) (a w : Int) (g : Nat) (H : GH) (hw : ¬ w < 64) :
    Ct Try.prog 21 [.pointer (some ⟨g, 0, none⟩), V] H [.blk g (.cells #[.string s, .int .i64 a, .int .i64 w] 45 (0, 0))] (OutP s g w (failP 9)) := by
  refine fn_intro Try.func21 rfl rfl (fun W0 => ?_)
  repeat' (first | apply wpc_seq | apply wpe_seq | apply wpl_nil | apply wpc_region | (apply g_any; first | (apply gmv; refine smv rfl rfl ?_) | (apply gas; refine sas rfl rfl ?_) | (apply gld; refine sld rfl (by exact rfl) (by exact rfl) rfl ?_) | (apply gfa; refine sfa rfl rfl ?_) | (apply gex; refine sex rfl rfl ?_) | (apply gst; refine sst rfl rfl (by exact rfl) (by exact rfl) (by exact rfl) (by exact rfl) ?_) | (apply gbn; first | refine sbn rfl rfl ?_) | (apply gcl; first | refine scl rfl (p_none _ _) rfl ?_) | (apply gnc; refine snc rfl rfl ?_) | (apply gal; refine sal rfl (fun _ => ?_))) | (apply g_wpc; first | (apply g_cond; first | (refine cdD rfl (fun hb => ?_) (fun hb => ?_) <;> (try (exfalso; first | (with_reducible exact absurd (by assumption) hb) | (with_reducible exact absurd hb (by assumption)) | omega)))) | apply wpc_ret) | (apply g_wpe; first | apply wpe_then_ret))
  exact wpe_end (.inl rfl) (by exact .cell 0 rfl rfl rfl rfl (.tmp rfl .nil)) [.blk g (.cells #[.string s, .int .i64 a, .int .i64 w] 45 (0, 0))] (List.Sublist.cons _ (List.Sublist.refl _)) (Grow.refl _ _) ⟨_, rfl, Tr.rep_leaf _ _ _ _, _, rfl, fun h => absurd h (by decide)⟩
theorem topV_out {s : ByteArray} {g : Nat} {w a' : Int} {H : GH} {k n g' : Int} {t : ByteArray} {e err : Int} (h : err = 0 → a' = e) :
    OutP s g w (.mk k n g' t [] [], e, err) (topV (.mk k n g' t [] [], e, err)) H [.blk g (.cells #[.string s, .int .i64 a', .int .i64 w] 45 (0, 0))] := ⟨_, rfl, Tr.rep_leaf _ _ _ _, _, rfl, h⟩
theorem nu_leaf (s : ByteArray) (n a : Int) : ∃ k n' g' t e err, nuI s n a = (.mk k n' g' t [] [], e, err) := by
  unfold nuI
  cases lkI s a with
  | none => exact ⟨_, _, _, _, _, _, rfl⟩
  | some x =>
    dsimp only
    by_cases c : n < 1 ∨ 8388607 < n ∨ x.1 < 0 ∨ 65535 < x.1
    · rw [if_pos c]; exact ⟨_, _, _, _, _, _, rfl⟩
    · rw [if_neg c]; exact ⟨_, _, _, _, _, _, rfl⟩
theorem wo_leaf (t : ByteArray) (a : Int) : ∃ k n' g' t' e err, woI t a = (.mk k n' g' t' [] [], e, err) := by
  unfold woI
  (repeat' split) <;> exact ⟨_, _, _, _, _, _, rfl⟩
theorem next_beyond {s : ByteArray} {a : Int} (h : s.size ≤ a) : nextI s a = ⟨0, 0, ⟨#[]⟩, s.size, 0⟩ := by
  have : skI s a = s.size := by unfold skI; rw [show ((s.size : Int) - max 0 a).toNat = 0 by omega, skN]
  rw [nextI, if_pos this]
theorem p_value (s : ByteArray) (n : Nat) (hs : s.size ≤ 67108864) (hL : LS s n) (hD : DC s n) : RD s (n + 1) := by
  intro a w g H hw0 hw1 hn _
  refine fn_intro Try.func11 rfl rfl (fun W0 => ?_)
  rw [rdN]
  repeat' (first | apply wpc_seq | apply wpe_seq | apply wpl_nil | apply wpc_region | (apply g_any; first | (apply gmv; refine smv rfl rfl ?_) | (apply gas; refine sas rfl rfl ?_) | (apply gfa; refine sfa rfl rfl ?_) | (apply gnc; refine snc rfl rfl ?_) | (apply gal; refine sal rfl (fun _ => ?_))))
  refine scq 1 rfl rfl (p_take s a g _ _ (by omega)) rfl rfl (fun r Lq hX => ?_)
  obtain ⟨rfl, rfl⟩ := hX
  refine wnL rfl ?_
  by_cases c0 : (nextI s a).err = 0
  case neg =>
    rw [if_pos c0, tkV, if_neg c0]
    repeat' (first | apply wpc_seq | apply wpe_seq | apply wpl_nil | apply wpc_region | (apply g_any; first | (apply gmv; refine smv rfl rfl ?_) | (apply gas; refine sas rfl rfl ?_) | (apply gex; refine sex rfl rfl ?_) | (apply gst; refine sst rfl rfl (by exact rfl) (by exact rfl) (by exact rfl) (by exact rfl) ?_) | (apply gbn; first | refine sbn rfl rfl ?_) | (apply gcl; first | refine scl rfl (p_none _ _) rfl ?_) | (apply gal; refine sal rfl (fun _ => ?_))) | (apply g_wpc; first | (apply g_cond; first | (refine cdD rfl (fun hb => ?_) (fun hb => ?_) <;> (try (exfalso; first | (with_reducible exact absurd (by assumption) hb) | (with_reducible exact absurd hb (by assumption)) | omega)))) | apply wpc_ret) | (apply g_wpe; first | apply wpe_then_ret))
    exact wpe_end (.inl rfl) (by exact .cell 1 rfl rfl rfl rfl (.tmp rfl .nil)) _ (List.Sublist.cons _ (List.Sublist.cons _ (List.Sublist.refl _))) (Grow.refl _ _) ⟨_, rfl, Tr.rep_leaf _ _ _ _, _, rfl, fun h => absurd h c0⟩
  have hr := nextI_range c0
  rw [if_neg (fun h => h c0), tkV, if_pos c0, show toI s a = (nextI s a).e from if_pos c0]
  by_cases c1 : (nextI s a).k = 0
  case pos =>
    rw [if_pos c1]
    repeat' (first | apply wpc_seq | apply wpe_seq | apply wpl_nil | apply wpc_region | (apply g_any; first | (apply gmv; refine smv rfl rfl ?_) | (apply gas; refine sas rfl rfl ?_) | (apply gld; refine sld rfl (by exact rfl) (by exact rfl) rfl ?_) | (apply gfa; refine sfa rfl rfl ?_) | (apply gex; refine sex rfl rfl ?_) | (apply gst; refine sst rfl rfl (by exact rfl) (by exact rfl) (by exact rfl) (by exact rfl) ?_) | (apply gbn; first | refine sbn rfl rfl ?_) | (apply gcl; first | refine scl rfl (p_none _ _) rfl ?_) | (apply gal; refine sal rfl (fun _ => ?_))) | (apply g_wpc; first | apply wpc_block | (apply g_cond; first | (refine cdD rfl (fun hb => ?_) (fun hb => ?_) <;> (try (exfalso; first | (with_reducible exact absurd (by assumption) hb) | (with_reducible exact absurd hb (by assumption)) | omega)))) | apply wpc_skip | apply wpc_ret) | (apply g_wpe; first | apply wpe_then_ret | apply wpe_block_ret))
    exact wpe_end (.inl rfl) (by exact .cell 1 rfl rfl rfl rfl (.tmp rfl .nil)) _ (List.Sublist.cons _ (List.Sublist.cons _ (List.Sublist.refl _))) (Grow.refl _ _) ⟨_, rfl, Tr.rep_leaf _ _ _ _, _, rfl, fun h => absurd h (by decide)⟩
  have hin : a < s.size := by
    by_cases h : s.size ≤ a
    · rw [next_beyond h] at c1; exact absurd rfl c1
    · omega
  rw [if_neg c1]
  by_cases c2 : (nextI s a).k = 1
  case pos =>
    rw [if_pos c2]
    repeat' (first | apply wpc_seq | apply wpe_seq | apply wpl_nil | apply wpc_region | (apply g_any; first | (apply gmv; refine smv rfl rfl ?_) | (apply gas; refine sas rfl rfl ?_) | (apply gld; refine sld rfl (by exact rfl) (by exact rfl) rfl ?_) | (apply gfa; refine sfa rfl rfl ?_) | (apply gex; refine sex rfl rfl ?_) | (apply gst; refine sst rfl rfl (by exact rfl) (by exact rfl) (by exact rfl) (by exact rfl) ?_) | (apply gbn; first | refine sbn rfl rfl ?_) | (apply gal; refine sal rfl (fun _ => ?_))) | (apply g_wpc; first | apply wpc_block | (apply g_cond; first | (refine cdD rfl (fun hb => ?_) (fun hb => ?_) <;> (try (exfalso; first | (with_reducible exact absurd (by assumption) hb) | (with_reducible exact absurd hb (by assumption)) | omega)))) | apply wpc_skip))
    refine scq 2 rfl rfl (p_number s (nextI s a).n (nextI s a).e g _ _ (by omega)) rfl rfl (fun r Lq hX => ?_)
    obtain ⟨rfl, a', rfl, hend⟩ := hX
    obtain ⟨k', n', g', t', e', err', hnu⟩ := nu_leaf s (nextI s a).n (nextI s a).e
    rw [hnu] at hend ⊢
    refine wnL rfl ?_
    unfold topV
    repeat' (first | apply wpe_seq | apply wpl_nil | (apply g_any; first | (apply gas; refine sas rfl rfl ?_) | (apply gex; refine sex rfl rfl ?_) | (apply gst; refine sst rfl rfl (by exact rfl) (by exact rfl) (by exact rfl) (by exact rfl) ?_)) | (apply g_wpc; first | apply wpc_ret) | (apply g_wpe; first | apply wpe_then_ret | apply wpe_block_ret))
    exact wpe_end (.inl rfl) (by exact .cell 1 rfl rfl rfl rfl (.tmp rfl .nil)) _ (List.Sublist.cons _ (List.Sublist.cons _ (List.Sublist.refl _))) (Grow.refl _ _) (topV_out hend)
  rw [if_neg c2]
  by_cases c3 : (nextI s a).k = 2
  case pos =>
    rw [if_pos c3]
    repeat' (first | apply wpc_seq | apply wpe_seq | apply wpl_nil | apply wpc_region | (apply g_any; first | (apply gmv; refine smv rfl rfl ?_) | (apply gas; refine sas rfl rfl ?_) | (apply gld; refine sld rfl (by exact rfl) (by exact rfl) rfl ?_) | (apply gfa; refine sfa rfl rfl ?_) | (apply gex; refine sex rfl rfl ?_) | (apply gst; refine sst rfl rfl (by exact rfl) (by exact rfl) (by exact rfl) (by exact rfl) ?_) | (apply gbn; first | refine sbn rfl rfl ?_) | (apply gal; refine sal rfl (fun _ => ?_)) | (apply gbd; refine sbd rfl rfl rfl ?_)) | (apply g_wpc; first | apply wpc_block | (apply g_cond; first | (refine cdD rfl (fun hb => ?_) (fun hb => ?_) <;> (try (exfalso; first | (with_reducible exact absurd (by assumption) hb) | (with_reducible exact absurd hb (by assumption)) | omega)))) | apply wpc_skip | apply wpc_ret) | (apply g_wpe; first | apply wpe_then_ret | apply wpe_block_ret))
    exact wpe_end (.inl rfl) (by exact .cell 1 rfl rfl rfl rfl (.tmp rfl .nil)) _ (List.Sublist.cons _ (List.Sublist.cons _ (List.Sublist.refl _))) (Grow.refl _ _) (topV_out (fun _ => rfl))
  rw [if_neg c3]
  by_cases c4 : (nextI s a).k = 3
  case pos =>
    rw [if_pos c4]
    repeat' (first | apply wpc_seq | apply wpe_seq | apply wpl_nil | apply wpc_region | (apply g_any; first | (apply gmv; refine smv rfl rfl ?_) | (apply gas; refine sas rfl rfl ?_) | (apply gld; refine sld rfl (by exact rfl) (by exact rfl) rfl ?_) | (apply gfa; refine sfa rfl rfl ?_) | (apply gex; refine sex rfl rfl ?_) | (apply gst; refine sst rfl rfl (by exact rfl) (by exact rfl) (by exact rfl) (by exact rfl) ?_) | (apply gbn; first | refine sbn rfl rfl ?_) | (apply gal; refine sal rfl (fun _ => ?_)) | (apply gbd; refine sbd rfl rfl rfl ?_)) | (apply g_wpc; first | apply wpc_block | (apply g_cond; first | (refine cdD rfl (fun hb => ?_) (fun hb => ?_) <;> (try (exfalso; first | (with_reducible exact absurd (by assumption) hb) | (with_reducible exact absurd hb (by assumption)) | omega)))) | apply wpc_skip | apply wpc_ret) | (apply g_wpe; first | apply wpe_then_ret | apply wpe_block_ret))
    exact wpe_end (.inl rfl) (by exact .cell 1 rfl rfl rfl rfl (.tmp rfl .nil)) _ (List.Sublist.cons _ (List.Sublist.cons _ (List.Sublist.refl _))) (Grow.refl _ _) (topV_out (fun _ => rfl))
  rw [if_neg c4]
  by_cases c5 : (nextI s a).k = 8
  case pos =>
    rw [if_pos c5]
    obtain ⟨k', n', g', t', e', err', hnu⟩ := wo_leaf (nextI s a).t (nextI s a).e
    have hwo := p_word (nextI s a).t (nextI s a).e H
    have hre := woI_range (t := (nextI s a).t) (a := (nextI s a).e)
    rw [hnu] at hwo hre ⊢
    unfold topV at hwo
    dsimp only at hwo
    repeat' (first | apply wpc_seq | apply wpe_seq | apply wpl_nil | apply wpc_region | (apply g_any; first | (apply gmv; refine smv rfl rfl ?_) | (apply gas; refine sas rfl rfl ?_) | (apply gld; refine sld rfl (by exact rfl) (by exact rfl) rfl ?_) | (apply gfa; refine sfa rfl rfl ?_) | (apply gex; refine sex rfl rfl ?_) | (apply gst; refine sst rfl rfl (by exact rfl) (by exact rfl) (by exact rfl) (by exact rfl) ?_) | (apply gbn; first | refine sbn rfl rfl ?_) | (apply gcl; first | refine scl rfl (hwo) rfl ?_) | (apply gal; refine sal rfl (fun _ => ?_))) | (apply g_wpc; first | apply wpc_block | (apply g_cond; first | (refine cdD rfl (fun hb => ?_) (fun hb => ?_) <;> (try (exfalso; first | (with_reducible exact absurd (by assumption) hb) | (with_reducible exact absurd hb (by assumption)) | omega)))) | apply wpc_skip | apply wpc_ret) | (apply g_wpe; first | apply wpe_then_ret | apply wpe_block_ret))
    exact wpe_end (.inl rfl) (by exact .cell 1 rfl rfl rfl rfl (.tmp rfl .nil)) _ (List.Sublist.cons _ (List.Sublist.cons _ (List.Sublist.refl _))) (Grow.refl _ _) (topV_out (fun h => (hre h).symm))
  rw [if_neg c5]
  by_cases c6 : (nextI s a).k = 4
  case pos =>
    rw [if_pos c6]
    repeat' (first | apply wpc_seq | apply wpe_seq | apply wpl_nil | apply wpc_region | (apply g_any; first | (apply gmv; refine smv rfl rfl ?_) | (apply gas; refine sas rfl rfl ?_) | (apply gld; refine sld rfl (by exact rfl) (by exact rfl) rfl ?_) | (apply gfa; refine sfa rfl rfl ?_) | (apply gex; refine sex rfl rfl ?_) | (apply gst; refine sst rfl rfl (by exact rfl) (by exact rfl) (by exact rfl) (by exact rfl) ?_) | (apply gbn; first | refine sbn rfl rfl ?_) | (apply gal; refine sal rfl (fun _ => ?_)) | (apply gmf; refine smf rfl rfl rfl ?_)) | (apply g_wpc; first | apply wpc_block | (apply g_cond; first | (refine cdD rfl (fun hb => ?_) (fun hb => ?_) <;> (try (exfalso; first | (with_reducible exact absurd (by assumption) hb) | (with_reducible exact absurd hb (by assumption)) | omega)))) | apply wpc_skip))
    by_cases hw : w < 64
    · rw [if_neg (by omega)]
      refine scs 2 rfl rfl (p_inside s _ (nextI s a).e w g H _ hw0 hw (hL (nextI s a).e (w + 1) g H (by omega) (by omega) (by omega) (by omega) (by omega))) rfl rfl (fun r H2 Lq hg2 hX => ?_)
      obtain ⟨cs, rfl, hrep2, a', rfl, hend⟩ := hX
      obtain ⟨k1, n1, g1, s1, A1, m1, c1', B1, m2, c2', rfl⟩ := Tr.cells hrep2
      refine wnL rfl ?_
      repeat' (first | apply wpe_seq | apply wpl_nil | (apply g_any; first | (apply gas; refine sas rfl rfl ?_) | (apply gex; refine sex rfl rfl ?_) | (apply gst; refine sst rfl rfl (by exact rfl) (by exact rfl) (by exact rfl) (by exact rfl) ?_)) | (apply g_wpc; first | apply wpc_ret) | (apply g_wpe; first | apply wpe_then_ret | apply wpe_block_ret))
      exact wpe_end (.inl rfl) (by exact .cell 1 rfl rfl rfl rfl (.tmp rfl .nil)) _ (List.Sublist.cons _ (List.Sublist.cons _ (List.Sublist.refl _))) hg2 ⟨_, rfl, hrep2, _, rfl, hend⟩
    · rw [if_pos (by omega)]
      refine scs 2 rfl rfl (p_deep s _ (nextI s a).e w g H hw) rfl rfl (fun r H2 Lq hg2 hX => ?_)
      obtain ⟨cs, rfl, hrep2, a', rfl, hend⟩ := hX
      obtain ⟨k1, n1, g1, s1, A1, m1, c1', B1, m2, c2', rfl⟩ := Tr.cells hrep2
      refine wnL rfl ?_
      repeat' (first | apply wpe_seq | apply wpl_nil | (apply g_any; first | (apply gas; refine sas rfl rfl ?_) | (apply gex; refine sex rfl rfl ?_) | (apply gst; refine sst rfl rfl (by exact rfl) (by exact rfl) (by exact rfl) (by exact rfl) ?_)) | (apply g_wpc; first | apply wpc_ret) | (apply g_wpe; first | apply wpe_then_ret | apply wpe_block_ret))
      exact wpe_end (.inl rfl) (by exact .cell 1 rfl rfl rfl rfl (.tmp rfl .nil)) _ (List.Sublist.cons _ (List.Sublist.cons _ (List.Sublist.refl _))) hg2 ⟨_, rfl, hrep2, _, rfl, hend⟩
  rw [if_neg c6]
  by_cases c7 : (nextI s a).k = 6
  case pos =>
    rw [if_pos c7]
    repeat' (first | apply wpc_seq | apply wpe_seq | apply wpl_nil | apply wpc_region | (apply g_any; first | (apply gmv; refine smv rfl rfl ?_) | (apply gas; refine sas rfl rfl ?_) | (apply gld; refine sld rfl (by exact rfl) (by exact rfl) rfl ?_) | (apply gfa; refine sfa rfl rfl ?_) | (apply gex; refine sex rfl rfl ?_) | (apply gst; refine sst rfl rfl (by exact rfl) (by exact rfl) (by exact rfl) (by exact rfl) ?_) | (apply gbn; first | refine sbn rfl rfl ?_) | (apply gal; refine sal rfl (fun _ => ?_)) | (apply gmf; refine smf rfl rfl rfl ?_)) | (apply g_wpc; first | apply wpc_block | (apply g_cond; first | (refine cdD rfl (fun hb => ?_) (fun hb => ?_) <;> (try (exfalso; first | (with_reducible exact absurd (by assumption) hb) | (with_reducible exact absurd hb (by assumption)) | omega)))) | apply wpc_skip))
    by_cases hw : w < 64
    · rw [if_neg (by omega)]
      refine scs 2 rfl rfl (p_inside s _ (nextI s a).e w g H _ hw0 hw (hD (nextI s a).e (w + 1) g H (by omega) (by omega) (by omega) (by omega) (by omega))) rfl rfl (fun r H2 Lq hg2 hX => ?_)
      obtain ⟨cs, rfl, hrep2, a', rfl, hend⟩ := hX
      obtain ⟨k1, n1, g1, s1, A1, m1, c1', B1, m2, c2', rfl⟩ := Tr.cells hrep2
      refine wnL rfl ?_
      repeat' (first | apply wpe_seq | apply wpl_nil | (apply g_any; first | (apply gas; refine sas rfl rfl ?_) | (apply gex; refine sex rfl rfl ?_) | (apply gst; refine sst rfl rfl (by exact rfl) (by exact rfl) (by exact rfl) (by exact rfl) ?_)) | (apply g_wpc; first | apply wpc_ret) | (apply g_wpe; first | apply wpe_then_ret | apply wpe_block_ret))
      exact wpe_end (.inl rfl) (by exact .cell 1 rfl rfl rfl rfl (.tmp rfl .nil)) _ (List.Sublist.cons _ (List.Sublist.cons _ (List.Sublist.refl _))) hg2 ⟨_, rfl, hrep2, _, rfl, hend⟩
    · rw [if_pos (by omega)]
      refine scs 2 rfl rfl (p_deep s _ (nextI s a).e w g H hw) rfl rfl (fun r H2 Lq hg2 hX => ?_)
      obtain ⟨cs, rfl, hrep2, a', rfl, hend⟩ := hX
      obtain ⟨k1, n1, g1, s1, A1, m1, c1', B1, m2, c2', rfl⟩ := Tr.cells hrep2
      refine wnL rfl ?_
      repeat' (first | apply wpe_seq | apply wpl_nil | (apply g_any; first | (apply gas; refine sas rfl rfl ?_) | (apply gex; refine sex rfl rfl ?_) | (apply gst; refine sst rfl rfl (by exact rfl) (by exact rfl) (by exact rfl) (by exact rfl) ?_)) | (apply g_wpc; first | apply wpc_ret) | (apply g_wpe; first | apply wpe_then_ret | apply wpe_block_ret))
      exact wpe_end (.inl rfl) (by exact .cell 1 rfl rfl rfl rfl (.tmp rfl .nil)) _ (List.Sublist.cons _ (List.Sublist.cons _ (List.Sublist.refl _))) hg2 ⟨_, rfl, hrep2, _, rfl, hend⟩
  rw [if_neg c7]
  repeat' (first | apply wpc_seq | apply wpe_seq | apply wpl_nil | apply wpc_region | (apply g_any; first | (apply gmv; refine smv rfl rfl ?_) | (apply gas; refine sas rfl rfl ?_) | (apply gld; refine sld rfl (by exact rfl) (by exact rfl) rfl ?_) | (apply gfa; refine sfa rfl rfl ?_) | (apply gex; refine sex rfl rfl ?_) | (apply gst; refine sst rfl rfl (by exact rfl) (by exact rfl) (by exact rfl) (by exact rfl) ?_) | (apply gbn; first | refine sbn rfl rfl ?_) | (apply gcl; first | refine scl rfl (p_none _ _) rfl ?_) | (apply gal; refine sal rfl (fun _ => ?_))) | (apply g_wpc; first | apply wpc_block | (apply g_cond; first | (refine cdD rfl (fun hb => ?_) (fun hb => ?_) <;> (try (exfalso; first | (with_reducible exact absurd (by assumption) hb) | (with_reducible exact absurd hb (by assumption)) | omega)))) | apply wpc_skip | apply wpc_ret) | (apply g_wpe; first | apply wpe_block))
  exact wpe_end (.inl rfl) (by exact .cell 1 rfl rfl rfl rfl (.tmp rfl .nil)) _ (List.Sublist.cons _ (List.Sublist.cons _ (List.Sublist.refl _))) (Grow.refl _ _) ⟨_, rfl, Tr.rep_leaf _ _ _ _, _, rfl, fun h => absurd h (by decide)⟩
/-- The parser, whatever it reads. -/
theorem p_all (s : ByteArray) (hs : s.size ≤ 67108864) : ∀ n, RD s n := by
  intro n
  induction n using Nat.strongRecOn with
  | _ n ih =>
    cases n with
    | zero => intro a w g H _ _ _ h; omega
    | succ n => exact p_value s n hs (p_list s n hs fun m hm => ih m (by omega)) (p_dict s n hs fun m hm => ih m (by omega))
end Go.Proofs.Ytgjhbambdnpcmaa
