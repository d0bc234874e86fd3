/- Proved on the way: Contracts: words, tokens. Contracts: the scanner's words. Contracts: the scanner's tokens. -/
import Derived.Test.YtgjhbambdnpcmaaLxG
set_option linter.unusedVariables false
set_option linter.unusedSimpArgs false
namespace Go.Proofs.Ytgjhbambdnpcmaa
open Go Go.Eng
/-- A token: kind, number, text, and the error; where it ends. -/
structure Tk where
  k : Int
  n : Int
  t : ByteArray
  e : Int
  err : Int
def wdI (s : ByteArray) (a : Int) : Tk :=
  if (looseI (cut s a (a + spanI s 2 a))).2 = 0 then ⟨1, (looseI (cut s a (a + spanI s 2 a))).1, ⟨#[]⟩, a + spanI s 2 a, 0⟩
  else if (looseI (cut s a (a + spanI s 2 a))).2 = 3 then ⟨0, 0, ⟨#[]⟩, 0, 3⟩
  else if 127 < spanI s 2 a then ⟨0, 0, ⟨#[]⟩, 0, 8⟩
  else ⟨8, 0, cut s a (a + spanI s 2 a), a + spanI s 2 a, 0⟩
theorem wordR_fn (s : ByteArray) (a : Int) (H : GH) (hs : s.size ≤ 140737488351232) (h0 : 0 ≤ a) (h1 : a ≤ s.size) : CtV Try.prog 40 [.string s, .int .i64 a] H (if (wdI s a).err = 0 then .tuple #[.agg #[.int .i64 (wdI s a).k, .int .i64 (wdI s a).n, .string (wdI s a).t, .int .i64 a, .int .i64 (wdI s a).e], .int .i64 0] else .tuple #[.agg #[.int .i64 0, .int .i64 0, .string ⟨#[]⟩, .int .i64 0, .int .i64 0], .int .i64 (wdI s a).err]) := by
  refine fn_intro Try.func40 rfl rfl (fun w => ?_)
  have hsp := spanI_range (s := s) 2 h0 h1
  have hcz := cut_size (s := s) (i := a) (j := a + spanI s 2 a) h0 (by omega) (by omega)
  repeat' (first | apply wpc_seq | apply wpe_seq | apply wpl_nil | apply wpc_region | (apply g_any; first | (refine sh1 rfl rfl rfl rfl rfl rfl rfl (fun g H' hg hc => ?_)) | (apply gmv; refine smv rfl rfl ?_) | (apply gas; refine sas rfl rfl ?_) | (apply gal; refine sal rfl (fun _ => ?_))))
  repeat' (first | apply wpc_seq | apply wpe_seq | apply wpl_nil | apply wpc_region | (apply g_any; first | (apply gmv; refine smv rfl rfl ?_) | (apply gas; refine sas rfl rfl ?_) | (apply gex; refine sex rfl rfl ?_) | (apply gst; refine sst rfl rfl (by exact rfl) (by exact rfl) (by exact rfl) (by exact rfl) ?_) | (apply gbn; first | (apply gad; refine sad rfl rfl (by omega) (by omega) rfl ?_) | refine sbn rfl rfl ?_) | (apply gcl; first | refine scl rfl (spanR_fn _ _ _ _ hs _ _ hc) rfl ?_ | refine scl rfl (looseR_fn _ _ (by omega)) rfl ?_) | (apply gbd; refine sbd rfl rfl rfl ?_) | (apply gsl; first | refine scc rfl rfl rfl (by omega) (by omega) (by omega) rfl ?_)) | (apply g_wpc; first | (apply g_cond; first | (refine cdD rfl (fun hb => ?_) (fun hb => ?_) <;> (try (exfalso; first | (with_reducible exact absurd (by assumption) hb) | (with_reducible exact absurd hb (by assumption)) | omega)))) | apply wpc_skip | apply wpc_ret) | (apply g_wpe; first | apply wpe_then_ret))
  all_goals (refine wpe_forget hg.le ?_; refine end2 (by exact .cell 0 rfl rfl rfl rfl (.tmp rfl .nil)) ?_)
  · rw [show wdI s a = ⟨1, (looseI (cut s a (a + spanI s 2 a))).1, ⟨#[]⟩, a + spanI s 2 a, 0⟩ by rw [wdI, if_pos (by assumption)], if_pos rfl]; try rfl
  · rw [show wdI s a = ⟨0, 0, ⟨#[]⟩, 0, 3⟩ by rw [wdI, if_neg (by assumption), if_pos (by assumption)], if_neg (by decide)]; try rfl
  · rw [show wdI s a = ⟨0, 0, ⟨#[]⟩, 0, 8⟩ by rw [wdI, if_neg (by assumption), if_neg (by assumption), if_pos (by assumption)], if_neg (by decide)]; try rfl
  · rw [show wdI s a = ⟨8, 0, cut s a (a + spanI s 2 a), a + spanI s 2 a, 0⟩ by rw [wdI, if_neg (by assumption), if_neg (by assumption), if_neg (by assumption)], if_pos rfl]; try rfl
theorem signR_fn (k a : Int) (t : ByteArray) (e err : Int) (H : GH) : CtV Try.prog 36 [.int .i64 k, .int .i64 a, .string t, .int .i64 e, .int .i64 err] H (if err = 0 then .tuple #[.agg #[.int .i64 k, .int .i64 0, .string t, .int .i64 a, .int .i64 e], .int .i64 0] else .tuple #[.agg #[.int .i64 0, .int .i64 0, .string ⟨#[]⟩, .int .i64 0, .int .i64 0], .int .i64 err]) := by
  refine fn_intro Try.func36 rfl rfl (fun w => ?_)
  repeat' (first | apply wpc_seq | apply wpe_seq | apply wpl_nil | apply wpc_region | (apply g_any; first | (apply gmv; refine smv rfl rfl ?_) | (apply gas; refine sas rfl rfl ?_) | (apply gst; refine sst rfl rfl (by exact rfl) (by exact rfl) (by exact rfl) (by exact rfl) ?_) | (apply gbn; first | refine sbn rfl rfl ?_) | (apply gal; refine sal rfl (fun _ => ?_)) | (apply gbd; refine sbd rfl rfl rfl ?_)) | (apply g_wpc; first | (apply g_cond; first | (refine cdD rfl (fun hb => ?_) (fun hb => ?_) <;> (try (exfalso; first | (with_reducible exact absurd (by assumption) hb) | (with_reducible exact absurd hb (by assumption)) | omega)))) | apply wpc_skip | apply wpc_ret) | (apply g_wpe; first | apply wpe_then_ret))
  · refine end2 (by exact .cell 0 rfl rfl rfl rfl (.tmp rfl .nil)) ?_
    rw [if_neg (by assumption)]; try rfl
  · refine end2 (by exact .cell 0 rfl rfl rfl rfl (.tmp rfl .nil)) ?_
    rw [if_pos (by omega)]; try rfl
end Go.Proofs.Ytgjhbambdnpcmaa
set_option linter.unusedVariables false
set_option linter.unusedSimpArgs false
namespace Go.Proofs.Ytgjhbambdnpcmaa
open Go Go.Eng
/-- What a token comes to, and the error. -/
def tkV (t : Tk) (a e : Int) : Value := if t.err = 0 then .tuple #[.agg #[.int .i64 t.k, .int .i64 t.n, .string t.t, .int .i64 a, .int .i64 e], .int .i64 0] else .tuple #[.agg #[.int .i64 0, .int .i64 0, .string ⟨#[]⟩, .int .i64 0, .int .i64 0], .int .i64 t.err]
theorem tkV_ok {t : Tk} {k n : Int} {u : ByteArray} {e : Int} (h : t = ⟨k, n, u, e, 0⟩) (a e' : Int) : tkV t a e' = .tuple #[.agg #[.int .i64 k, .int .i64 n, .string u, .int .i64 a, .int .i64 e'], .int .i64 0] := by rw [h]; exact if_pos rfl
theorem tkV_bad {t : Tk} {k n : Int} {u : ByteArray} {e err : Int} (h : t = ⟨k, n, u, e, err⟩) (he : err ≠ 0) (a e' : Int) : tkV t a e' = .tuple #[.agg #[.int .i64 0, .int .i64 0, .string ⟨#[]⟩, .int .i64 0, .int .i64 0], .int .i64 err] := by rw [h]; exact if_neg he
theorem wordS_fn (s : ByteArray) (i0 : Int) (g : Nat) (V : Value) (H : GH) (hs : s.size ≤ 140737488351232) (h0 : 0 ≤ i0) (h1 : i0 ≤ s.size) : CtL Try.prog 59 [.pointer (some ⟨g, 0, none⟩)] H [.blk g (.cells #[.string s, .int .i64 i0, V] 70 (0, 0))]
    (fun r L' => r = tkV (wdI s i0) 0 0 ∧ ((wdI s i0).err = 0 → L' = [.blk g (.cells #[.string s, .int .i64 (wdI s i0).e, V] 70 (0, 0))])) := by
  refine fn_intro Try.func59 rfl rfl (fun w => ?_)
  have hsp := spanI_range (s := s) 2 h0 h1
  have hcz := cut_size (s := s) (i := i0) (j := i0 + spanI s 2 i0) h0 (by omega) (by omega)
  repeat' (first | apply wpc_seq | apply wpe_seq | apply wpl_nil | apply wpc_region | (apply g_any; first | (apply gas; refine sas rfl rfl ?_) | (apply gal; refine sal rfl (fun _ => ?_))))
  refine wpc_held [.blk g (.cells #[.string s, .int .i64 i0, V] 70 (0, 0))] 24 mixed ?_
  refine wph_takes [0, 1, 2, 3, 4, 5, 6, 7, 8, 9, 10, 11, 12, 13, 14, 15, 16, 17, 18, 19] (fuel := 5) (listed' := #[true, true, true, true, true, true, true, true, true, true, true, true, true, true, true, true, true, true, true, true, false, false, false, false, false]) (by kernel_rfl) rfl (by kernel_rfl) (HLe.refl _) (by repeat' (first | exact List.Sublist.slnil | apply List.Sublist.cons_cons | apply List.Sublist.cons)) ?_
  repeat' (first | (apply gt_any; first | (apply hmv; refine tmv rfl rfl ?_) | (apply hld; refine tld rfl (by exact rfl) (by exact rfl) rfl ?_) | (apply hfa; refine tfa rfl rfl ?_) | (apply hnc; refine tnc rfl rfl ?_)))
  refine wpt_nil ?_
  refine wph_one 20 (listed' := #[true, true, true, true, true, true, true, true, true, true, true, true, true, true, true, true, true, true, true, true, true, false, false, false, false]) (by kernel_rfl) rfl (by kernel_rfl) ?_   -- [token.go:201] t27   := Op.buildSlice 96 1 [(tuple 0 c:2)]   :ty96
  repeat' (first | apply wpl_nil | (apply g_any; first | (refine sh1 rfl rfl rfl rfl rfl rfl rfl (fun gk H' hg hc => ?_))))
  refine wpe_hold (hg.le) (by repeat' (first | exact List.Sublist.slnil | apply List.Sublist.cons_cons | apply List.Sublist.cons)) ?_
  refine wph_one 21 (listed' := #[true, true, true, true, true, true, true, true, true, true, true, true, true, true, true, true, true, true, true, true, true, true, false, false, false]) (by kernel_rfl) rfl (by kernel_rfl) ?_   -- [token.go:201] t28   := Op.call {callee=(Callee.value f52), args=[t22, t26, t27], argTypes
  repeat' (first | apply wpl_nil | (apply g_any; first | (apply gcl; first | refine scl rfl (span_fn _ _ _ _ hs (by omega) (by omega) _ _ hc) rfl ?_)))
  refine wpe_hold (hg.le) (by repeat' (first | exact List.Sublist.slnil | apply List.Sublist.cons_cons | apply List.Sublist.cons)) ?_
  refine wph_takes [22, 23] (fuel := 1) (listed' := #[true, true, true, true, true, true, true, true, true, true, true, true, true, true, true, true, true, true, true, true, true, true, true, true, false]) (by kernel_rfl) rfl (by kernel_rfl) (hg.le) (by repeat' (first | exact List.Sublist.slnil | apply List.Sublist.cons_cons | apply List.Sublist.cons)) ?_
  repeat' (first | (apply gt_any; first | (apply hbn; first | (apply had; refine tad rfl rfl (by omega) (by omega) rfl ?_)) | (apply hsl; first | refine tcc rfl rfl rfl (by omega) (by omega) (by omega) rfl ?_)))
  refine wpt_nil ?_
  refine wph_after [24] (fuel := 0) (listed' := #[true, true, true, true, true, true, true, true, true, true, true, true, true, true, true, true, true, true, true, true, true, true, true, true, true]) (by kernel_rfl) rfl (by kernel_rfl) ?_
  repeat' (first | (apply gt_any; first | (apply has; refine tas rfl rfl ?_)))
  refine wpt_nil ?_
  refine wph_done (by kernel_rfl) ?_

  repeat' (first | apply wpc_seq | apply wpe_seq | apply wpl_nil | apply wpc_region | (apply g_any; first | (apply gmv; refine smv rfl rfl ?_) | (apply gas; refine sas rfl rfl ?_) | (apply gld; refine sld rfl (by exact rfl) (by exact rfl) rfl ?_) | (apply gfa; refine sfa rfl rfl ?_) | (apply gex; refine sex rfl rfl ?_) | (apply gst; refine sst rfl rfl (by exact rfl) (by exact rfl) (by exact rfl) (by exact rfl) ?_) | (apply gbn; first | (apply gad; refine sad rfl rfl (by omega) (by omega) rfl ?_) | refine sbn rfl rfl ?_) | (apply gln; first | refine sls rfl rfl ?_) | (apply gcl; first | refine scl rfl (loose_fn _ _ (by omega)) rfl ?_ | refine scl rfl (bad_fn _ _) rfl ?_) | (apply gnc; refine snc rfl rfl ?_) | (apply gbd; refine sbd rfl rfl rfl ?_)) | (apply g_wpc; first | apply wpc_block | (apply g_cond; first | (refine cdD rfl (fun hb => ?_) (fun hb => ?_) <;> (try (exfalso; first | (with_reducible exact absurd (by assumption) hb) | (with_reducible exact absurd hb (by assumption)) | omega)))) | apply wpc_skip | apply wpc_ret) | (apply g_wpe; first | apply wpe_block | apply wpe_then_ret | apply wpe_block_ret))
  all_goals (refine wpe_forget hg.le ?_; refine wpe_end (.inl rfl) (by exact .cell 0 rfl rfl rfl rfl (.tmp rfl .nil)) [.blk g (.cells #[.string s, .int .i64 (i0 + (cut s i0 (i0 + spanI s 2 i0)).size), V] 70 (0, 0))] (List.Sublist.cons _ (List.Sublist.refl _)) (Grow.refl _ _) ?_)
  all_goals rw [hcz, show i0 + (i0 + spanI s 2 i0 - i0) = i0 + spanI s 2 i0 by omega]
  · have h : wdI s i0 = ⟨1, (looseI (cut s i0 (i0 + spanI s 2 i0))).1, ⟨#[]⟩, i0 + spanI s 2 i0, 0⟩ := by rw [wdI, if_pos (by assumption)]
    rw [tkV_ok h, h]; exact ⟨rfl, fun _ => rfl⟩
  · have h : wdI s i0 = ⟨0, 0, ⟨#[]⟩, 0, 3⟩ := by rw [wdI, if_neg (by assumption), if_pos (by assumption)]
    rw [tkV_bad h (by decide), h]; exact ⟨by rw [← (show (looseI (cut s i0 (i0 + spanI s 2 i0))).2 = 3 from hb)]; rfl, fun h => absurd h (by decide)⟩
  · have h : wdI s i0 = ⟨0, 0, ⟨#[]⟩, 0, 8⟩ := by rw [wdI, if_neg (by assumption), if_neg (by assumption), if_pos (by omega)]
    rw [tkV_bad h (by decide), h]; exact ⟨rfl, fun h => absurd h (by decide)⟩
  · have h : wdI s i0 = ⟨8, 0, cut s i0 (i0 + spanI s 2 i0), i0 + spanI s 2 i0, 0⟩ := by rw [wdI, if_neg (by assumption), if_neg (by assumption), if_neg (by omega)]
    rw [tkV_ok h, h]; exact ⟨rfl, fun _ => rfl⟩
end Go.Proofs.Ytgjhbambdnpcmaa
set_option linter.unusedVariables false
set_option linter.unusedSimpArgs false
namespace Go.Proofs.Ytgjhbambdnpcmaa
open Go Go.Eng
def tk3 (k : Int) (x : List Int × Int × Int) : Tk := if x.2.2 = 0 then ⟨k, 0, bstr x.1, x.2.1, 0⟩ else ⟨0, 0, ⟨#[]⟩, 0, x.2.2⟩
def tkI (s : ByteArray) (a : Int) : Tk :=
  if bt s a = 91 then ⟨4, 0, ⟨#[]⟩, a + 1, 0⟩
  else if bt s a = 93 then ⟨5, 0, ⟨#[]⟩, a + 1, 0⟩
  else if bt s a = 60 ∧ a + 1 < s.size ∧ bt s (a + 1) = 60 then ⟨6, 0, ⟨#[]⟩, a + 2, 0⟩
  else if bt s a = 62 ∧ a + 1 < s.size ∧ bt s (a + 1) = 62 then ⟨7, 0, ⟨#[]⟩, a + 2, 0⟩
  else if bt s a = 47 then tk3 2 (nmI s (a + 1))
  else if bt s a = 40 then tk3 3 (txI s (a + 1))
  else if bt s a = 60 then tk3 3 (hxI s (a + 1))
  else if kindI (bt s a) = 1 then ⟨0, 0, ⟨#[]⟩, 0, 4⟩
  else wdI s a
def nextI (s : ByteArray) (a : Int) : Tk := if skI s a = s.size then ⟨0, 0, ⟨#[]⟩, s.size, 0⟩ else tkI s (skI s a)
theorem token_fn (s : ByteArray) (i0 : Int) (g : Nat) (H : GH) (hs : s.size ≤ 140737488351232) (h0 : 0 ≤ i0) (h1 : i0 < s.size) (h37 : bt s i0 ≠ 37) : CtL Try.prog 32 [.pointer (some ⟨g, 0, none⟩)] H [.blk g (.cells #[.string s, .int .i64 i0, .slice none 0 0] 70 (0, 0)), .row 5 1 none 0 (bys [])]
    (fun r L' => r = tkV (tkI s i0) 0 0 ∧ ((tkI s i0).err = 0 → ∃ V, L' = [.blk g (.cells #[.string s, .int .i64 (tkI s i0).e, V] 70 (0, 0))])) := by
  refine fn_intro Try.func32 rfl rfl (fun w => ?_)
  repeat' (first | apply wpc_seq | apply wpe_seq | apply wpl_nil | apply wpc_region | (apply g_any; first | (apply gas; refine sas rfl rfl ?_) | (apply gal; refine sal rfl (fun _ => ?_))))
  rename_i gr
  repeat' (first | apply wpc_seq | apply wpe_seq | apply wpl_nil | apply wpc_region | (apply g_any; first | (apply gmv; refine smv rfl rfl ?_) | (apply gas; refine sas rfl rfl ?_) | (apply gex; refine sex rfl rfl ?_) | (apply gst; refine sst rfl rfl (by exact rfl) (by exact rfl) (by exact rfl) (by exact rfl) ?_) | (apply gbn; first | refine sbn rfl rfl ?_) | (apply gcl; first | refine scl rfl (bad_fn _ _) rfl ?_)) | (apply g_wpc; first | apply wpc_block | (apply g_cond; first | refine cdT rfl ?_ | (refine cdD rfl (fun hb => ?_) (fun hb => ?_) <;> (try (exfalso; first | (with_reducible exact absurd (by assumption) hb) | (with_reducible exact absurd hb (by assumption)) | omega)))) | apply wpc_skip | apply wpc_ret | (apply g_draw; refine wpc_quiet mixed (by kernel_rfl) ?_)) | (apply g_wpe; first | apply wpe_block | apply wpe_then_ret | apply wpe_block_ret) | apply wpq_nil | (apply gq_any; first | (apply kmv; refine qmv rfl rfl ?_) | (apply kld; refine qld rfl (by exact rfl) (by exact rfl) rfl ?_) | (apply kfa; refine qfa rfl rfl ?_) | (apply knc; refine qnc rfl rfl ?_) | (apply kix; refine qix rfl rfl (by omega) (by omega) rfl ?_)))
  · skip
    have h : tkI s i0 = ⟨4, 0, ⟨#[]⟩, i0 + 1, 0⟩ := by unfold tkI; rw [if_pos (by omega)]
    refine scq 1 rfl rfl (sign_fn 4 1 s i0 g _ _ hs (by omega) (by omega) (by omega) (by omega)) rfl rfl (fun r Lq hX => ?_)
    obtain ⟨rfl, rfl⟩ := hX
    refine wnL rfl ?_
    repeat' (first | apply wpe_seq | apply wpl_nil | (apply g_any; first | (apply gas; refine sas rfl rfl ?_) | (apply gex; refine sex rfl rfl ?_) | (apply gst; refine sst rfl rfl (by exact rfl) (by exact rfl) (by exact rfl) (by exact rfl) ?_)) | (apply g_wpc; first | apply wpc_ret) | (apply g_wpe; first | apply wpe_then_ret | apply wpe_block_ret))
    refine wpe_end (.inl rfl) (by exact .cell 0 rfl rfl rfl rfl (.tmp rfl .nil)) [.blk g (.cells #[.string s, .int .i64 (i0 + 1), .slice none 0 0] 70 (0, 0))] (List.Sublist.cons _ (List.Sublist.cons_cons _ (List.nil_sublist _))) (Grow.refl _ _) ?_
    rw [tkV_ok h, h]; exact ⟨rfl, fun _ => ⟨_, rfl⟩⟩
  · skip
    have h : tkI s i0 = ⟨5, 0, ⟨#[]⟩, i0 + 1, 0⟩ := by unfold tkI; rw [if_neg (by omega), if_pos (by omega)]
    refine scq 1 rfl rfl (sign_fn 5 1 s i0 g _ _ hs (by omega) (by omega) (by omega) (by omega)) rfl rfl (fun r Lq hX => ?_)
    obtain ⟨rfl, rfl⟩ := hX
    refine wnL rfl ?_
    repeat' (first | apply wpe_seq | apply wpl_nil | (apply g_any; first | (apply gas; refine sas rfl rfl ?_) | (apply gex; refine sex rfl rfl ?_) | (apply gst; refine sst rfl rfl (by exact rfl) (by exact rfl) (by exact rfl) (by exact rfl) ?_)) | (apply g_wpc; first | apply wpc_ret) | (apply g_wpe; first | apply wpe_then_ret | apply wpe_block_ret))
    refine wpe_end (.inl rfl) (by exact .cell 0 rfl rfl rfl rfl (.tmp rfl .nil)) [.blk g (.cells #[.string s, .int .i64 (i0 + 1), .slice none 0 0] 70 (0, 0))] (List.Sublist.cons _ (List.Sublist.cons_cons _ (List.nil_sublist _))) (Grow.refl _ _) ?_
    rw [tkV_ok h, h]; exact ⟨rfl, fun _ => ⟨_, rfl⟩⟩
  · skip
    have h : tkI s i0 = tk3 2 (nmI s (i0 + 1)) := by unfold tkI; rw [if_neg (by omega), if_neg (by omega), if_neg (by omega), if_neg (by omega), if_pos (by omega)]
    refine scq 1 rfl rfl (name_fn s i0 g _ hs (by omega) (by omega)) rfl rfl (fun r Lq hX => ?_)
    rw [h, tk3]
    by_cases he : (nmI s (i0 + 1)).2.2 = 0
    · rw [if_pos he] at hX ⊢
      obtain ⟨V, rfl, rfl⟩ := hX
      refine wnL rfl ?_
      repeat' (first | apply wpe_seq | apply wpl_nil | (apply g_any; first | (apply gas; refine sas rfl rfl ?_) | (apply gex; refine sex rfl rfl ?_) | (apply gst; refine sst rfl rfl (by exact rfl) (by exact rfl) (by exact rfl) (by exact rfl) ?_)) | (apply g_wpc; first | apply wpc_ret) | (apply g_wpe; first | apply wpe_then_ret | apply wpe_block_ret))
      refine wpe_end (.inl rfl) (by exact .cell 0 rfl rfl rfl rfl (.tmp rfl .nil)) _ (List.Sublist.cons _ (List.Sublist.refl _)) (Grow.refl _ _) ?_
      rw [tkV_ok rfl]; exact ⟨rfl, fun _ => ⟨_, rfl⟩⟩
    · rw [if_neg he] at hX ⊢
      subst hX
      refine wpl_drop [.blk gr (.cells #[.int .i64 0, .int .i64 0, .string ⟨#[]⟩, .int .i64 0, .int .i64 0] 51 (0, 0))] (List.Sublist.cons_cons _ (List.nil_sublist _)) ?_
      repeat' (first | apply wpe_seq | apply wpl_nil | (apply g_any; first | (apply gas; refine sas rfl rfl ?_) | (apply gex; refine sex rfl rfl ?_) | (apply gst; refine sst rfl rfl (by exact rfl) (by exact rfl) (by exact rfl) (by exact rfl) ?_)) | (apply g_wpc; first | apply wpc_ret) | (apply g_wpe; first | apply wpe_then_ret | apply wpe_block_ret))
      refine wpe_end (.inl rfl) (by exact .cell 0 rfl rfl rfl rfl (.tmp rfl .nil)) [] (List.nil_sublist _) (Grow.refl _ _) ?_
      rw [tkV_bad rfl he]; exact ⟨rfl, fun h => absurd h he⟩
  · skip
    have h : tkI s i0 = tk3 3 (txI s (i0 + 1)) := by unfold tkI; rw [if_neg (by omega), if_neg (by omega), if_neg (by omega), if_neg (by omega), if_neg (by omega), if_pos (by omega)]
    refine scq 1 rfl rfl (text_fn s i0 g _ hs (by omega) (by omega)) rfl rfl (fun r Lq hX => ?_)
    rw [h, tk3]
    by_cases he : (txI s (i0 + 1)).2.2 = 0
    · rw [if_pos he] at hX ⊢
      obtain ⟨V, rfl, rfl⟩ := hX
      refine wnL rfl ?_
      repeat' (first | apply wpe_seq | apply wpl_nil | (apply g_any; first | (apply gas; refine sas rfl rfl ?_) | (apply gex; refine sex rfl rfl ?_) | (apply gst; refine sst rfl rfl (by exact rfl) (by exact rfl) (by exact rfl) (by exact rfl) ?_)) | (apply g_wpc; first | apply wpc_ret) | (apply g_wpe; first | apply wpe_then_ret | apply wpe_block_ret))
      refine wpe_end (.inl rfl) (by exact .cell 0 rfl rfl rfl rfl (.tmp rfl .nil)) _ (List.Sublist.cons _ (List.Sublist.refl _)) (Grow.refl _ _) ?_
      rw [tkV_ok rfl]; exact ⟨rfl, fun _ => ⟨_, rfl⟩⟩
    · rw [if_neg he] at hX ⊢
      subst hX
      refine wpl_drop [.blk gr (.cells #[.int .i64 0, .int .i64 0, .string ⟨#[]⟩, .int .i64 0, .int .i64 0] 51 (0, 0))] (List.Sublist.cons_cons _ (List.nil_sublist _)) ?_
      repeat' (first | apply wpe_seq | apply wpl_nil | (apply g_any; first | (apply gas; refine sas rfl rfl ?_) | (apply gex; refine sex rfl rfl ?_) | (apply gst; refine sst rfl rfl (by exact rfl) (by exact rfl) (by exact rfl) (by exact rfl) ?_)) | (apply g_wpc; first | apply wpc_ret) | (apply g_wpe; first | apply wpe_then_ret | apply wpe_block_ret))
      refine wpe_end (.inl rfl) (by exact .cell 0 rfl rfl rfl rfl (.tmp rfl .nil)) [] (List.nil_sublist _) (Grow.refl _ _) ?_
      rw [tkV_bad rfl he]; exact ⟨rfl, fun h => absurd h he⟩
  · skip
    refine scq 1 rfl rfl (twice_fn s i0 g _ _ hs (by omega) (by omega)) rfl rfl (fun r Lq hX => ?_)
    obtain ⟨rfl, rfl⟩ := hX
    refine wnL rfl ?_
    repeat' (first | apply wpc_seq | apply wpe_seq | apply wpl_nil | apply wpc_region | (apply g_any; first | (apply gmv; refine smv rfl rfl ?_)) | (apply g_wpc; first | (apply g_cond; first | (refine cdD rfl (fun hb => ?_) (fun hb => ?_) <;> (try (exfalso; first | (with_reducible exact absurd (by assumption) hb) | (with_reducible exact absurd hb (by assumption)) | omega)))) | apply wpc_skip))
    · skip
      have h : tkI s i0 = ⟨6, 0, ⟨#[]⟩, i0 + 2, 0⟩ := by unfold tkI; rw [if_neg (by omega), if_neg (by omega), if_pos (by omega)]
      refine scq 1 rfl rfl (sign_fn 6 2 s i0 g _ _ hs (by omega) (by omega) (by omega) (by omega)) rfl rfl (fun r Lq hX => ?_)
      obtain ⟨rfl, rfl⟩ := hX
      refine wnL rfl ?_
      repeat' (first | apply wpe_seq | apply wpl_nil | (apply g_any; first | (apply gas; refine sas rfl rfl ?_) | (apply gex; refine sex rfl rfl ?_) | (apply gst; refine sst rfl rfl (by exact rfl) (by exact rfl) (by exact rfl) (by exact rfl) ?_)) | (apply g_wpc; first | apply wpc_ret) | (apply g_wpe; first | apply wpe_then_ret | apply wpe_block_ret))
      refine wpe_end (.inl rfl) (by exact .cell 0 rfl rfl rfl rfl (.tmp rfl .nil)) [.blk g (.cells #[.string s, .int .i64 (i0 + 2), .slice none 0 0] 70 (0, 0))] (List.Sublist.cons _ (List.Sublist.cons_cons _ (List.nil_sublist _))) (Grow.refl _ _) ?_
      rw [tkV_ok h, h]; exact ⟨rfl, fun _ => ⟨_, rfl⟩⟩
    · skip
      have h : tkI s i0 = tk3 3 (hxI s (i0 + 1)) := by unfold tkI; rw [if_neg (by omega), if_neg (by omega), if_neg (by omega), if_neg (by omega), if_neg (by omega), if_neg (by omega), if_pos (by omega)]
      refine scq 1 rfl rfl (hexS_fn s i0 g _ hs (by omega) (by omega)) rfl rfl (fun r Lq hX => ?_)
      rw [h, tk3]
      by_cases he : (hxI s (i0 + 1)).2.2 = 0
      · rw [if_pos he] at hX ⊢
        obtain ⟨V, rfl, rfl⟩ := hX
        refine wnL rfl ?_
        repeat' (first | apply wpe_seq | apply wpl_nil | (apply g_any; first | (apply gas; refine sas rfl rfl ?_) | (apply gex; refine sex rfl rfl ?_) | (apply gst; refine sst rfl rfl (by exact rfl) (by exact rfl) (by exact rfl) (by exact rfl) ?_)) | (apply g_wpc; first | apply wpc_ret) | (apply g_wpe; first | apply wpe_then_ret | apply wpe_block_ret))
        refine wpe_end (.inl rfl) (by exact .cell 0 rfl rfl rfl rfl (.tmp rfl .nil)) _ (List.Sublist.cons _ (List.Sublist.refl _)) (Grow.refl _ _) ?_
        rw [tkV_ok rfl]; exact ⟨rfl, fun _ => ⟨_, rfl⟩⟩
      · rw [if_neg he] at hX ⊢
        subst hX
        refine wpl_drop [.blk gr (.cells #[.int .i64 0, .int .i64 0, .string ⟨#[]⟩, .int .i64 0, .int .i64 0] 51 (0, 0))] (List.Sublist.cons_cons _ (List.nil_sublist _)) ?_
        repeat' (first | apply wpe_seq | apply wpl_nil | (apply g_any; first | (apply gas; refine sas rfl rfl ?_) | (apply gex; refine sex rfl rfl ?_) | (apply gst; refine sst rfl rfl (by exact rfl) (by exact rfl) (by exact rfl) (by exact rfl) ?_)) | (apply g_wpc; first | apply wpc_ret) | (apply g_wpe; first | apply wpe_then_ret | apply wpe_block_ret))
        refine wpe_end (.inl rfl) (by exact .cell 0 rfl rfl rfl rfl (.tmp rfl .nil)) [] (List.nil_sublist _) (Grow.refl _ _) ?_
        rw [tkV_bad rfl he]; exact ⟨rfl, fun h => absurd h he⟩
  · skip
    refine scq 1 rfl rfl (twice_fn s i0 g _ _ hs (by omega) (by omega)) rfl rfl (fun r Lq hX => ?_)
    obtain ⟨rfl, rfl⟩ := hX
    refine wnL rfl ?_
    repeat' (first | apply wpc_seq | apply wpe_seq | apply wpl_nil | apply wpc_region | (apply g_any; first | (apply gmv; refine smv rfl rfl ?_) | (apply gas; refine sas rfl rfl ?_) | (apply gex; refine sex rfl rfl ?_) | (apply gst; refine sst rfl rfl (by exact rfl) (by exact rfl) (by exact rfl) (by exact rfl) ?_) | (apply gcl; first | refine scl rfl (bad_fn _ _) rfl ?_)) | (apply g_wpc; first | (apply g_cond; first | (refine cdD rfl (fun hb => ?_) (fun hb => ?_) <;> (try (exfalso; first | (with_reducible exact absurd (by assumption) hb) | (with_reducible exact absurd hb (by assumption)) | omega)))) | apply wpc_skip | apply wpc_ret) | (apply g_wpe; first | apply wpe_then_ret | apply wpe_block_ret))
    · skip
      have h : tkI s i0 = ⟨7, 0, ⟨#[]⟩, i0 + 2, 0⟩ := by unfold tkI; rw [if_neg (by omega), if_neg (by omega), if_neg (by omega), if_pos (by omega)]
      refine scq 1 rfl rfl (sign_fn 7 2 s i0 g _ _ hs (by omega) (by omega) (by omega) (by omega)) rfl rfl (fun r Lq hX => ?_)
      obtain ⟨rfl, rfl⟩ := hX
      refine wnL rfl ?_
      repeat' (first | apply wpe_seq | apply wpl_nil | (apply g_any; first | (apply gas; refine sas rfl rfl ?_) | (apply gex; refine sex rfl rfl ?_) | (apply gst; refine sst rfl rfl (by exact rfl) (by exact rfl) (by exact rfl) (by exact rfl) ?_)) | (apply g_wpc; first | apply wpc_ret) | (apply g_wpe; first | apply wpe_then_ret | apply wpe_block_ret))
      refine wpe_end (.inl rfl) (by exact .cell 0 rfl rfl rfl rfl (.tmp rfl .nil)) [.blk g (.cells #[.string s, .int .i64 (i0 + 2), .slice none 0 0] 70 (0, 0))] (List.Sublist.cons _ (List.Sublist.cons_cons _ (List.nil_sublist _))) (Grow.refl _ _) ?_
      rw [tkV_ok h, h]; exact ⟨rfl, fun _ => ⟨_, rfl⟩⟩
    · have h : tkI s i0 = ⟨0, 0, ⟨#[]⟩, 0, 4⟩ := by unfold tkI; rw [if_neg (by omega), if_neg (by omega), if_neg (by omega), if_neg (by omega), if_neg (by omega), if_neg (by omega), if_neg (by omega), if_pos (by rw [show bt s i0 = 62 by assumption]; decide)]
      refine wpe_end (.inl rfl) (by exact .cell 0 rfl rfl rfl rfl (.tmp rfl .nil)) [] (List.nil_sublist _) (Grow.refl _ _) ?_
      rw [tkV_bad h (by decide), h]; exact ⟨rfl, fun h => absurd h (by decide)⟩
  · have h : tkI s i0 = ⟨0, 0, ⟨#[]⟩, 0, 4⟩ := by unfold tkI; rw [if_neg (by omega), if_neg (by omega), if_neg (by omega), if_neg (by omega), if_neg (by omega), if_neg (by omega), if_neg (by omega), if_pos (by rw [show bt s i0 = 41 by assumption]; decide)]
    refine wpe_end (.inl rfl) (by exact .cell 0 rfl rfl rfl rfl (.tmp rfl .nil)) [] (List.nil_sublist _) (Grow.refl _ _) ?_
    rw [tkV_bad h (by decide), h]; exact ⟨rfl, fun h => absurd h (by decide)⟩
  · have h : tkI s i0 = ⟨0, 0, ⟨#[]⟩, 0, 4⟩ := by unfold tkI; rw [if_neg (by omega), if_neg (by omega), if_neg (by omega), if_neg (by omega), if_neg (by omega), if_neg (by omega), if_neg (by omega), if_pos (by rw [show bt s i0 = 123 by assumption]; decide)]
    refine wpe_end (.inl rfl) (by exact .cell 0 rfl rfl rfl rfl (.tmp rfl .nil)) [] (List.nil_sublist _) (Grow.refl _ _) ?_
    rw [tkV_bad h (by decide), h]; exact ⟨rfl, fun h => absurd h (by decide)⟩
  · have h : tkI s i0 = ⟨0, 0, ⟨#[]⟩, 0, 4⟩ := by unfold tkI; rw [if_neg (by omega), if_neg (by omega), if_neg (by omega), if_neg (by omega), if_neg (by omega), if_neg (by omega), if_neg (by omega), if_pos (by rw [show bt s i0 = 125 by assumption]; decide)]
    refine wpe_end (.inl rfl) (by exact .cell 0 rfl rfl rfl rfl (.tmp rfl .nil)) [] (List.nil_sublist _) (Grow.refl _ _) ?_
    rw [tkV_bad h (by decide), h]; exact ⟨rfl, fun h => absurd h (by decide)⟩
  · skip
    have hk : ¬ kindI (bt s i0) = 1 := by
      unfold kindI; (repeat' split) <;> omega
    have h : tkI s i0 = wdI s i0 := by unfold tkI; rw [if_neg (by omega), if_neg (by omega), if_neg (by omega), if_neg (by omega), if_neg (by omega), if_neg (by omega), if_neg (by omega), if_neg (by omega)]
    refine scq 1 rfl rfl (wordS_fn s i0 g _ _ hs (by omega) (by omega)) rfl rfl (fun r Lq hX => ?_)
    rw [h]
    obtain ⟨hr, hX⟩ := hX
    by_cases he : (wdI s i0).err = 0
    · obtain rfl := hX he
      rw [tkV, if_pos he] at hr
      subst hr
      refine wnL rfl ?_
      repeat' (first | apply wpe_seq | apply wpl_nil | (apply g_any; first | (apply gas; refine sas rfl rfl ?_) | (apply gex; refine sex rfl rfl ?_) | (apply gst; refine sst rfl rfl (by exact rfl) (by exact rfl) (by exact rfl) (by exact rfl) ?_)) | (apply g_wpc; first | apply wpc_ret))
      refine wpe_end (.inl rfl) (by exact .cell 0 rfl rfl rfl rfl (.tmp rfl .nil)) [.blk g (.cells #[.string s, .int .i64 (wdI s i0).e, .slice none 0 0] 70 (0, 0))] (List.Sublist.cons _ (List.Sublist.cons_cons _ (List.nil_sublist _))) (Grow.refl _ _) ?_
      rw [tkV, if_pos he]; exact ⟨rfl, fun _ => ⟨_, rfl⟩⟩
    · rw [tkV, if_neg he] at hr
      subst hr
      refine wpl_drop [.blk gr (.cells #[.int .i64 0, .int .i64 0, .string ⟨#[]⟩, .int .i64 0, .int .i64 0] 51 (0, 0))] (List.Sublist.cons_cons _ (List.nil_sublist _)) ?_
      repeat' (first | apply wpe_seq | apply wpl_nil | (apply g_any; first | (apply gas; refine sas rfl rfl ?_) | (apply gex; refine sex rfl rfl ?_) | (apply gst; refine sst rfl rfl (by exact rfl) (by exact rfl) (by exact rfl) (by exact rfl) ?_)) | (apply g_wpc; first | apply wpc_ret))
      refine wpe_end (.inl rfl) (by exact .cell 0 rfl rfl rfl rfl (.tmp rfl .nil)) [] (List.nil_sublist _) (Grow.refl _ _) ?_
      rw [tkV, if_neg he]; exact ⟨rfl, fun h => absurd h he⟩
end Go.Proofs.Ytgjhbambdnpcmaa
