/- Proved on the way: Contracts: what a backslash and the bytes behind it mean. Contracts: texts in brackets. Contracts: the scanner's escapes. -/
import Derived.Test.YtgjhbambdnpcmaaLxD
set_option linter.unusedVariables false
set_option linter.unusedSimpArgs false
namespace Go.Proofs.Ytgjhbambdnpcmaa
open Go Go.Eng
theorem bstr_size (xs : List Int) : (bstr xs).size = xs.length := strOfNums_size xs
theorem bstr_append (xs ys : List Int) : bstr xs ++ bstr ys = bstr (xs ++ ys) := by
  apply ByteArray.ext
  rw [ByteArray.data_append]
  apply Array.ext'
  simp [bstr, strOfNums]
theorem cut_one {s : ByteArray} {i : Int} (h0 : 0 ≤ i) (h1 : i < s.size) : cut s i (i + 1) = bstr [bt s i] := by
  have hsz := cut_size (s := s) (i := i) (j := i + 1) h0 (by omega) (by omega)
  have e0 := bt_cut (s := s) (i := i) (j := i + 1) (k := 0) h0 (by omega) (by omega) (by omega)
  rw [Int.add_zero] at e0
  have hb := bt_range s i
  refine bytes_ext (by rw [bstr_size]; show _ = 1; omega) fun k hk0 hk1 => ?_
  obtain rfl : k = 0 := by omega
  rw [e0]
  show bt s i = ((UInt8.ofNat (bt s i).toNat).toNat : Int)
  rw [UInt8.toNat_ofNat']
  omega
def ltI (c : Int) : Int := if c = 110 then 10 else if c = 114 then 13 else if c = 116 then 9 else if c = 98 then 8 else if c = 102 then 12 else c
def octN (s : ByteArray) : Nat → Int → Int → Int × Int
  | 0, a, v => (v, a)
  | n + 1, a, v => if a < s.size ∧ 48 ≤ bt s a ∧ bt s a ≤ 55 then octN s n (a + 1) (8 * v + (bt s a - 48)) else (v, a)
def mnI (s : ByteArray) (a : Int) : List Int × Int := if s.size ≤ a then ([], -1) else if 0 < endsI s a then ([], a + endsI s a) else if 48 ≤ bt s a ∧ bt s a ≤ 55 then ([(octN s 3 a 0).1 % 256], (octN s 3 a 0).2) else ([ltI (bt s a)], a + 1)
theorem octN_range (s : ByteArray) : ∀ (n : Nat) (a v : Int), 0 ≤ v → 0 ≤ (octN s n a v).1 ∧ a ≤ (octN s n a v).2 ∧ (a ≤ s.size → (octN s n a v).2 ≤ s.size)
  | 0, a, v, h => by simp only [octN]; omega
  | n + 1, a, v, h => by
    by_cases hc : a < s.size ∧ 48 ≤ bt s a ∧ bt s a ≤ 55
    · rw [octN, if_pos hc]
      have := octN_range s n (a + 1) (8 * v + (bt s a - 48)) (by omega)
      omega
    · rw [octN, if_neg hc]
      simp only; omega
theorem meant_fn (s : ByteArray) (a : Int) (H : GH) (hs : s.size ≤ 140737488351232) (h0 : 0 ≤ a) (h1 : a ≤ s.size) : CtV Try.prog 62 [.string s, .int .i64 a] H (.tuple #[.string (bstr (mnI s a).1), .int .i64 (mnI s a).2]) := by
  refine fn_intro Try.func62 rfl rfl (fun w => ?_)
  have her : ∀ x, endsI s x ≤ 2 ∧ (0 < endsI s x → x + endsI s x ≤ s.size) := by
    intro x
    unfold endsI
    (repeat' split) <;> omega
  have hea := her a
  have hbr := bt_range s a
  repeat' (first | apply wpc_seq | apply wpe_seq | apply wpl_nil | apply wpc_region | (apply g_any; first | (apply gmv; refine smv rfl rfl ?_) | (apply gas; refine sas rfl rfl ?_) | (apply gbn; first | (apply gad; refine sad rfl rfl (by omega) (by omega) rfl ?_) | refine sbn rfl rfl ?_) | (apply gln; first | refine sls rfl rfl ?_) | (apply gcl; first | refine scl rfl (endsR_fn _ _ _ hs) rfl ?_)) | (apply g_wpc; first | apply wpc_block | (apply g_cond; first | (refine cdD rfl (fun hb => ?_) (fun hb => ?_) <;> (try (exfalso; first | (with_reducible exact absurd (by assumption) hb) | (with_reducible exact absurd hb (by assumption)) | omega)))) | apply wpc_skip | apply wpc_ret) | (apply g_wpe; first | apply wpe_then_ret))
  · refine end2 (by exact .tmp rfl (.tmp rfl .nil)) ?_
    rw [show mnI s a = ([], -1) by rw [mnI, if_pos hb]]; rfl
  · refine end2 (by exact .tmp rfl (.tmp rfl .nil)) ?_
    rw [show mnI s a = ([], a + endsI s a) by rw [mnI, if_neg (by omega), if_pos hb]]; rfl
  have tab : ∀ j : Fin 5, ltI (bt ⟨#[110, 114, 116, 98, 102]⟩ (j.val : Int)) = bt ⟨#[10, 13, 9, 8, 12]⟩ (j.val : Int) ∧ ¬ (48 ≤ bt ⟨#[110, 114, 116, 98, 102]⟩ (j.val : Int) ∧ bt ⟨#[110, 114, 116, 98, 102]⟩ (j.val : Int) ≤ 55) := by decide
  have tabI : ∀ j : Int, 0 ≤ j → j < 5 → ltI (bt ⟨#[110, 114, 116, 98, 102]⟩ j) = bt ⟨#[10, 13, 9, 8, 12]⟩ j ∧ ¬ (48 ≤ bt ⟨#[110, 114, 116, 98, 102]⟩ j ∧ bt ⟨#[110, 114, 116, 98, 102]⟩ j ≤ 55) := by
    intro j h0 h1
    have := tab ⟨j.toNat, by omega⟩
    simpa only [Int.toNat_of_nonneg h0] using this
  have sz1 : (⟨#[110, 114, 116, 98, 102]⟩ : ByteArray).size = 5 := rfl
  have sz2 : (⟨#[10, 13, 9, 8, 12]⟩ : ByteArray).size = 5 := rfl
  refine wpc_less (l' := [(9, .int .i64 0), (7, .string ⟨#[110, 114, 116, 98, 102]⟩), (8, .string ⟨#[10, 13, 9, 8, 12]⟩), (0, .string s), (1, .int .i64 a)]) ⟨rfl, rfl, rfl, rfl, rfl, trivial⟩ (List.Sublist.refl _) ?_
  refine wpc_loop (ι := Int) (fun i => 0 ≤ i ∧ i ≤ 5 ∧ ∀ j, 0 ≤ j → j < i → ¬ bt s a = bt ⟨#[110, 114, 116, 98, 102]⟩ j) (fun i => (5 - i).toNat)
    (fun i => [(9, .int .i64 i), (7, .string ⟨#[110, 114, 116, 98, 102]⟩), (8, .string ⟨#[10, 13, 9, 8, 12]⟩), (0, .string s), (1, .int .i64 a)]) (fun _ => H) (fun _ => []) ?_ 0 ⟨by omega, by omega, fun j h0 h1 => by omega⟩
  rintro i ⟨hi0, hi1, hi2⟩
  repeat' (first | apply wpc_seq | apply wpe_seq | apply wpl_nil | apply wpc_region | (apply g_any; first | (apply gmv; refine smv rfl rfl ?_) | (apply gas; refine sas rfl rfl ?_) | (apply gbn; first | (apply gad; refine sad rfl rfl (by omega) (by omega) rfl ?_) | refine sbn rfl rfl ?_) | (apply gln; first | refine sls rfl rfl ?_) | (apply gsl; first | refine scc rfl rfl rfl (by omega) (by omega) (by omega) rfl ?_)) | (apply g_wpc; first | apply wpc_block | (apply g_cond; first | (refine cdD rfl (fun hb => ?_) (fun hb => ?_) <;> (try (exfalso; first | (with_reducible exact absurd (by assumption) hb) | (with_reducible exact absurd hb (by assumption)) | omega)))) | apply wpc_skip | apply wpc_exit | apply wpc_ret | (apply g_draw; refine wpc_quiet mixed (by kernel_rfl) ?_)) | (apply g_wpe; first | apply wpe_block | apply wpe_then_exit | apply wpe_block_eq | apply wpe_then_ret | apply wpe_block_ret | apply wpe_back_exit | apply wpe_back_ret) | apply wpq_nil | (apply gq_any; first | (apply kmv; refine qmv rfl rfl ?_) | (apply kbn; first | refine qbn rfl rfl ?_) | (apply kix; refine qix rfl rfl (by omega) (by omega) rfl ?_)))
  · -- one of the letters
    obtain ⟨t1, t2⟩ := tabI i hi0 (by omega)
    rw [← hb] at t1 t2
    refine end2 (by exact .tmp rfl (.tmp rfl .nil)) ?_
    rw [show mnI s a = ([ltI (bt s a)], a + 1) by rw [mnI, if_neg (by omega), if_neg (by omega), if_neg t2], t1, ← cut_one (by omega) (by omega)]
  · refine wpe_back (i + 1) ⟨by omega, by omega, fun j h0 h1 => ?_⟩ (by omega) ⟨rfl, rfl, rfl, rfl, rfl, trivial⟩ rfl (List.Sublist.refl _)
    by_cases e : j = i
    · subst e; exact hb
    · exact hi2 j h0 (by omega)
  have hlt : ltI (bt s a) = bt s a := by
    have e0 := hi2 0 (by omega) (by omega)
    have e1 := hi2 1 (by omega) (by omega)
    have e2 := hi2 2 (by omega) (by omega)
    have e3 := hi2 3 (by omega) (by omega)
    have e4 := hi2 4 (by omega) (by omega)
    have f0 : bt ⟨#[110, 114, 116, 98, 102]⟩ 0 = 110 := by decide
    have f1 : bt ⟨#[110, 114, 116, 98, 102]⟩ 1 = 114 := by decide
    have f2 : bt ⟨#[110, 114, 116, 98, 102]⟩ 2 = 116 := by decide
    have f3 : bt ⟨#[110, 114, 116, 98, 102]⟩ 3 = 98 := by decide
    have f4 : bt ⟨#[110, 114, 116, 98, 102]⟩ 4 = 102 := by decide
    unfold ltI
    rw [if_neg (by omega), if_neg (by omega), if_neg (by omega), if_neg (by omega), if_neg (by omega)]
  -- octal digits
  refine wpc_less (l' := [(10, .int .i64 0), (11, .int .i64 0), (0, .string s), (1, .int .i64 a)]) ⟨rfl, rfl, rfl, rfl, trivial⟩ (List.Sublist.refl _) ?_
  refine wpc_loop (ι := Int × Int) (fun x => 0 ≤ x.1 ∧ x.1 ≤ 3 ∧ 0 ≤ x.2 ∧ ((x.1 = 0 → x.2 = 0) ∧ (x.1 ≤ 1 → x.2 ≤ 7) ∧ (x.1 ≤ 2 → x.2 ≤ 63) ∧ x.2 ≤ 511) ∧ octN s 3 a 0 = octN s (3 - x.1).toNat (a + x.1) x.2 ∧ (0 < x.1 → 48 ≤ bt s a ∧ bt s a ≤ 55) ∧ a + x.1 ≤ s.size) (fun x => (3 - x.1).toNat)
    (fun x => [(10, .int .i64 x.2), (11, .int .i64 x.1), (0, .string s), (1, .int .i64 a)]) (fun _ => H) (fun _ => []) ?_ (0, 0) ⟨by simp, by simp, by simp, by simp, by simp, by simp, by simp; omega⟩
  rintro ⟨k, n⟩ ⟨hk0, hk1, hn0, hn1, ho, hd, hk2⟩
  dsimp only at hk0 hk1 hn0 hn1 ho hd hk2 ⊢
  have fin : ¬ (k < 3 ∧ a + k < s.size ∧ 48 ≤ bt s (a + k) ∧ bt s (a + k) ≤ 55) → octN s 3 a 0 = (n, a + k) := by
    intro h
    rw [ho]
    by_cases hk : k < 3
    · rw [show (3 - k).toNat = (3 - k).toNat - 1 + 1 by omega, octN, if_neg (by omega)]
    · rw [show (3 - k).toNat = 0 by omega, octN]
  repeat' (first | apply wpc_seq | apply wpe_seq | apply wpl_nil | apply wpc_region | (apply g_any; first | (refine sr1b rfl rfl rfl (fun _ => ?_)) | (refine scb_ rfl rfl rfl ?_) | (apply gmv; refine smv rfl rfl ?_) | (apply gas; refine sas rfl rfl ?_) | (apply gbn; first | (apply gad; refine sad rfl rfl (by omega) (by omega) rfl ?_) | (apply gsb; refine ssb rfl rfl (by omega) (by omega) rfl ?_) | (apply gmu; refine smu rfl rfl (by omega) (by omega) rfl ?_) | refine sbn rfl rfl ?_ | refine srm rfl rfl (by omega) (by omega) rfl ?_) | (apply gln; first | refine sls rfl rfl ?_) | (apply gpk; refine spk rfl rfl ?_) | (apply gix; refine six rfl rfl (by omega) (by omega) rfl ?_) | (apply gcv; first | refine sc6 rfl (by omega) (by omega) rfl ?_ | refine sc8 rfl (by omega) (by omega) rfl ?_) | (apply gsl; first | refine scc rfl rfl rfl (by omega) (by omega) (by omega) rfl ?_) | (apply g_guard; first | refine wpl_wanted (wants_tt rfl rfl rfl) ?_ | refine wpl_skip (wants_tf rfl rfl rfl) rfl ?_ | (refine gsD rfl rfl rfl (fun hb => ?_) (fun hb => ?_) <;> (try (exfalso; first | (with_reducible exact absurd (by assumption) hb) | (with_reducible exact absurd hb (by assumption)) | omega))))) | (apply g_wpc; first | apply wpc_block | (apply g_cond; first | refine cdF rfl ?_ | (refine cdD rfl (fun hb => ?_) (fun hb => ?_) <;> (try (exfalso; first | (with_reducible exact absurd (by assumption) hb) | (with_reducible exact absurd hb (by assumption)) | omega)))) | apply wpc_skip | apply wpc_exit | apply wpc_ret) | (apply g_wpe; first | apply wpe_block | apply wpe_then_exit | apply wpe_block_eq | apply wpe_then_ret | apply wpe_back_exit))
  · refine wpe_back (k + 1, 8 * n + bt s (a + k) - 48) ⟨by dsimp only; omega, by dsimp only; omega, by dsimp only; omega, by dsimp only; omega, ?_, fun _ => ?_, by dsimp only; omega⟩ (by dsimp only; omega) ⟨rfl, rfl, rfl, rfl, trivial⟩ rfl (List.Sublist.refl _)
    · dsimp only
      rw [ho, show (3 - k).toNat = (3 - (k + 1)).toNat + 1 by omega, octN, if_pos (by omega)]
      congr 1 <;> omega
    · by_cases h : 0 < k
      · exact hd h
      · obtain rfl : k = 0 := by omega
        rw [Int.add_zero] at *
        omega
  all_goals first
    | (refine end2 (by exact .tmp rfl (.tmp rfl .nil)) ?_
       rw [show mnI s a = ([n % 256], a + k) by rw [mnI, if_neg (by omega), if_neg (by omega), if_pos (hd (by omega)), fin (by omega)]]
       try rfl)
    | (obtain rfl : k = 0 := by omega
       rw [Int.add_zero] at *
       refine end2 (by exact .tmp rfl (.tmp rfl .nil)) ?_
       rw [show mnI s a = ([ltI (bt s a)], a + 1) by rw [mnI, if_neg (by omega), if_neg (by omega), if_neg (by omega)], hlt, ← cut_one (by omega) (by omega)]
       try rfl)
    | trace_state
end Go.Proofs.Ytgjhbambdnpcmaa
set_option linter.unusedVariables false
set_option linter.unusedSimpArgs false
namespace Go.Proofs.Ytgjhbambdnpcmaa
open Go Go.Eng
/-- One step of a text in brackets: what it adds, where it ends (below zero: the text ends), the depth behind it. -/
def stI (s : ByteArray) (a d : Int) : List Int × Int × Int :=
  if 0 < endsI s a then ([10], a + endsI s a, d)
  else if bt s a = 92 then ((mnI s (a + 1)).1, (mnI s (a + 1)).2, d)
  else if bt s a = 40 then ([40], a + 1, d + 1)
  else if bt s a = 41 then ([41], a + 1, d - 1)
  else ([bt s a], a + 1, d)
def txN (s : ByteArray) : Nat → Int → Int → List Int → List Int × Int × Int
  | 0, _, _, _ => ([], 0, 5)
  | n + 1, a, d, out => if a < s.size then
      (if (stI s a d).2.1 < 0 then ([], 0, 5)
      else if (stI s a d).2.2 = 0 then (out, (stI s a d).2.1, 0)
      else if 65535 < (out ++ (stI s a d).1).length then ([], 0, 8)
      else txN s n (stI s a d).2.1 (stI s a d).2.2 (out ++ (stI s a d).1))
    else ([], 0, 5)
def txI (s : ByteArray) (a : Int) : List Int × Int × Int := txN s (s.size - a).toNat a 1 []
theorem endsI_range (s : ByteArray) (x : Int) : 0 ≤ endsI s x ∧ endsI s x ≤ 2 ∧ (0 < endsI s x → x + endsI s x ≤ s.size) := by
  unfold endsI
  (repeat' split) <;> omega
theorem mnI_range {s : ByteArray} {a : Int} (h0 : 0 ≤ a) (h1 : a ≤ s.size) : (mnI s a).1.length ≤ 1 ∧ ((mnI s a).2 = -1 ∧ (mnI s a).1 = [] ∨ a < (mnI s a).2) ∧ (mnI s a).2 ≤ s.size := by
  have her := endsI_range s a
  by_cases c1 : s.size ≤ a
  · rw [mnI, if_pos c1]; exact ⟨by simp, .inl ⟨rfl, rfl⟩, by simp only; omega⟩
  by_cases c2 : 0 < endsI s a
  · rw [mnI, if_neg c1, if_pos c2]; exact ⟨by simp, .inr (by simp only; omega), by simp only; omega⟩
  by_cases c3 : 48 ≤ bt s a ∧ bt s a ≤ 55
  · rw [mnI, if_neg c1, if_neg c2, if_pos c3]
    have := octN_range s 3 a 0 (by omega)
    refine ⟨by simp, .inr ?_, this.2.2 h1⟩
    rw [octN, if_pos ⟨by omega, c3⟩]
    have := octN_range s 2 (a + 1) (8 * 0 + (bt s a - 48)) (by omega)
    simp only
    omega
  · rw [mnI, if_neg c1, if_neg c2, if_neg c3]; exact ⟨by simp, .inr (by simp only; omega), by simp only; omega⟩
theorem plainR_fn (s : ByteArray) (a : Int) (H : GH) (hs : s.size ≤ 140737488351232) (h0 : 0 ≤ a) (h1 : a ≤ s.size) : CtV Try.prog 37 [.string s, .int .i64 a] H (.tuple #[.string (bstr (txI s a).1), .int .i64 (txI s a).2.1, .int .i64 (txI s a).2.2]) := by
  refine fn_intro Try.func37 rfl rfl (fun w => ?_)
  repeat' (first | apply wpc_seq | apply wpe_seq | apply wpl_nil | apply wpc_region | (apply g_any; first | (apply gas; refine sas rfl rfl ?_)) | (apply g_wpc; first | apply wpc_block))
  refine wpc_less (l' := [(1, .int .i64 a), (7, .string (bstr [])), (8, .int .i64 1), (0, .string s)]) ⟨rfl, rfl, rfl, rfl, trivial⟩ (List.Sublist.refl _) ?_
  refine wpc_loop (ι := Int × List Int × Int) (fun x => 0 ≤ x.1 ∧ x.1 ≤ s.size ∧ x.2.1.length ≤ 65535 ∧ 1 ≤ x.2.2 ∧ x.2.2 ≤ x.1 + 1 ∧ ∃ n : Nat, s.size - x.1 ≤ (n : Int) ∧ txI s a = txN s n x.1 x.2.2 x.2.1) (fun x => (s.size - x.1).toNat)
    (fun x => [(1, .int .i64 x.1), (7, .string (bstr x.2.1)), (8, .int .i64 x.2.2), (0, .string s)]) (fun _ => H) (fun x => []) ?_ (a, [], 1) ⟨h0, h1, by simp, by simp, by simp; omega, (s.size - a).toNat, by simp; omega, rfl⟩
  rintro ⟨i, out, d⟩ ⟨hi0, hi1, ho, hd0, hd1, n, hn, hx⟩
  dsimp only at hi0 hi1 ho hd0 hd1 hn hx ⊢
  by_cases hin : i < s.size
  case neg =>
    have hx' : txI s a = ([], 0, 5) := by
      cases n with
      | zero => rw [hx, txN]
      | succ n => rw [hx, txN, if_neg hin]
    repeat' (first | apply wpc_seq | apply wpe_seq | apply wpl_nil | apply wpc_region | (apply g_any; first | (apply gmv; refine smv rfl rfl ?_) | (apply gas; refine sas rfl rfl ?_) | (apply gbn; first | refine sbn rfl rfl ?_) | (apply gln; first | refine sls rfl rfl ?_)) | (apply g_wpc; first | (apply g_cond; first | (refine cdD rfl (fun hb => ?_) (fun hb => ?_) <;> (try (exfalso; first | (with_reducible exact absurd (by assumption) hb) | (with_reducible exact absurd hb (by assumption)) | omega)))) | apply wpc_exit | apply wpc_ret) | (apply g_wpe; first | apply wpe_then_exit | apply wpe_block_eq | apply wpe_back_exit))
    refine end3 (by exact .tmp rfl (.tmp rfl (.tmp rfl .nil))) ?_
    rw [hx']; rfl
  cases n with
  | zero => exfalso; omega
  | succ n =>
  rw [txN, if_pos hin] at hx
  have her := endsI_range s i
  have hmr := mnI_range (s := s) (a := i + 1) (by omega) (by omega)
  have hbr := bt_range s i
  have hz10 : (⟨#[10]⟩ : ByteArray) = bstr [10] := by decide
  have hbz := bstr_size out
  have hcz := cut_size (s := s) (i := i) (j := i + 1) hi0 (by omega) (by omega)
  have hbm := bstr_size (mnI s (i + 1)).1
  have hz1 : (⟨#[10]⟩ : ByteArray).size = 1 := rfl
  have stp : ∀ t a' d', stI s i d = (t, a', d') → txI s a = if a' < 0 then ([], 0, 5) else if d' = 0 then (out, a', 0) else if 65535 < (out ++ t).length then ([], 0, 8) else txN s n a' d' (out ++ t) := by
    intro t a' d' h
    rw [hx, h]
  have c10 : bstr out ++ ⟨#[10]⟩ = bstr (out ++ [10]) := by rw [hz10, bstr_append]
  have c1 : bstr out ++ cut s i (i + 1) = bstr (out ++ [bt s i]) := by rw [cut_one hi0 hin, bstr_append]
  have cm : bstr out ++ bstr (mnI s (i + 1)).1 = bstr (out ++ (mnI s (i + 1)).1) := bstr_append _ _
  repeat' (first | apply wpc_seq | apply wpe_seq | apply wpl_nil | apply wpc_region | (apply g_any; first | (apply gmv; refine smv rfl rfl ?_) | (apply gas; refine sas rfl rfl ?_) | (apply gex; refine sex rfl rfl ?_) | (apply gbn; first | (apply gad; refine sad rfl rfl (by omega) (by omega) rfl ?_) | (apply gsb; refine ssb rfl rfl (by omega) (by omega) rfl ?_) | refine sbn rfl rfl ?_ | refine sct rfl rfl (by omega) rfl ?_) | (apply gln; first | refine sls rfl rfl ?_) | (apply gcl; first | refine scl rfl (endsR_fn _ _ _ hs) rfl ?_ | refine scl rfl (meant_fn _ _ _ hs (by omega) (by omega)) rfl ?_) | (apply gix; refine six rfl rfl (by omega) (by omega) rfl ?_) | (apply gsl; first | refine scc rfl rfl rfl (by omega) (by omega) (by omega) rfl ?_)) | (apply g_wpc; first | apply wpc_block | (apply g_cond; first | (refine cdD rfl (fun hb => ?_) (fun hb => ?_) <;> (try (exfalso; first | (with_reducible exact absurd (by assumption) hb) | (with_reducible exact absurd hb (by assumption)) | omega)))) | apply wpc_skip | apply wpc_ret) | (apply g_wpe; first | apply wpe_block | apply wpe_then_ret | apply wpe_block_ret | apply wpe_back_ret))
  · have := stp [10] (i + endsI s i) d (by rw [stI, if_pos (by omega)])
    rw [c10, bstr_size] at hb
    rw [if_neg (by omega), if_neg (by omega), if_pos (by omega)] at this
    refine end3 (by exact .tmp rfl (.tmp rfl (.tmp rfl .nil))) ?_
    rw [this]; try rfl
  · have := stp ([10]) (i + endsI s i) (d) (by rw [stI, if_pos (by omega)])
    rw [c10, bstr_size] at hb
    rw [if_neg (by omega), if_neg (by omega), if_neg (by omega)] at this
    exact wpe_back (i + endsI s i, out ++ ([10]), d) ⟨by dsimp only; omega, by dsimp only; omega, by dsimp only; omega, by dsimp only; omega, by dsimp only; omega, n, by dsimp only; omega, this⟩ (by dsimp only; omega) ⟨rfl, congrArg (fun x => some (Value.string x)) c10, rfl, rfl, trivial⟩ rfl (List.Sublist.refl _)
  · have := stp _ _ _ (by rw [stI, if_neg (by omega), if_pos (by omega)])
    rw [if_pos (by omega)] at this
    refine end3 (by exact .tmp rfl (.tmp rfl (.tmp rfl .nil))) ?_
    rw [this]; try rfl
  · have := stp (mnI s (i + 1)).1 (mnI s (i + 1)).2 d (by rw [stI, if_neg (by omega), if_pos (by omega)])
    rw [cm, bstr_size] at hb
    rw [if_neg (by omega), if_neg (by omega), if_pos (by omega)] at this
    refine end3 (by exact .tmp rfl (.tmp rfl (.tmp rfl .nil))) ?_
    rw [this]; try rfl
  · have := stp ((mnI s (i + 1)).1) ((mnI s (i + 1)).2) (d) (by rw [stI, if_neg (by omega), if_pos (by omega)])
    rw [cm, bstr_size] at hb
    rw [if_neg (by omega), if_neg (by omega), if_neg (by omega)] at this
    exact wpe_back ((mnI s (i + 1)).2, out ++ ((mnI s (i + 1)).1), d) ⟨by dsimp only; omega, by dsimp only; omega, by dsimp only; omega, by dsimp only; omega, by dsimp only; omega, n, by dsimp only; omega, this⟩ (by dsimp only; omega) ⟨rfl, congrArg (fun x => some (Value.string x)) cm, rfl, rfl, trivial⟩ rfl (List.Sublist.refl _)
  · have := stp [bt s i] (i + 1) (d + 1) (by rw [stI, if_neg (by omega), if_neg (by omega), if_pos (by omega), ‹bt s i = 40›])
    rw [c1, bstr_size] at hb
    rw [if_neg (by omega), if_neg (by omega), if_pos (by omega)] at this
    refine end3 (by exact .tmp rfl (.tmp rfl (.tmp rfl .nil))) ?_
    rw [this]; try rfl
  · have := stp ([bt s i]) (i + 1) (d + 1) (by rw [stI, if_neg (by omega), if_neg (by omega), if_pos (by omega), ‹bt s i = 40›])
    rw [c1, bstr_size] at hb
    rw [if_neg (by omega), if_neg (by omega), if_neg (by omega)] at this
    exact wpe_back (i + 1, out ++ ([bt s i]), d + 1) ⟨by dsimp only; omega, by dsimp only; omega, by dsimp only; omega, by dsimp only; omega, by dsimp only; omega, n, by dsimp only; omega, this⟩ (by dsimp only; omega) ⟨rfl, congrArg (fun x => some (Value.string x)) c1, rfl, rfl, trivial⟩ rfl (List.Sublist.refl _)
  · have := stp [41] (i + 1) (d - 1) (by rw [stI, if_neg (by omega), if_neg (by omega), if_neg (by omega), if_pos (by omega)])
    rw [if_neg (by omega), if_pos (by omega)] at this
    refine end3 (by exact .tmp rfl (.tmp rfl (.tmp rfl .nil))) ?_
    rw [this]; try rfl
  · have := stp [bt s i] (i + 1) (d - 1) (by rw [stI, if_neg (by omega), if_neg (by omega), if_neg (by omega), if_pos (by omega), ‹bt s i = 41›])
    rw [c1, bstr_size] at hb
    rw [if_neg (by omega), if_neg (by omega), if_pos (by omega)] at this
    refine end3 (by exact .tmp rfl (.tmp rfl (.tmp rfl .nil))) ?_
    rw [this]; try rfl
  · have := stp ([bt s i]) (i + 1) (d - 1) (by rw [stI, if_neg (by omega), if_neg (by omega), if_neg (by omega), if_pos (by omega), ‹bt s i = 41›])
    rw [c1, bstr_size] at hb
    rw [if_neg (by omega), if_neg (by omega), if_neg (by omega)] at this
    exact wpe_back (i + 1, out ++ ([bt s i]), d - 1) ⟨by dsimp only; omega, by dsimp only; omega, by dsimp only; omega, by dsimp only; omega, by dsimp only; omega, n, by dsimp only; omega, this⟩ (by dsimp only; omega) ⟨rfl, congrArg (fun x => some (Value.string x)) c1, rfl, rfl, trivial⟩ rfl (List.Sublist.refl _)
  · have := stp [bt s i] (i + 1) (d) (by rw [stI, if_neg (by omega), if_neg (by omega), if_neg (by omega), if_neg (by omega)])
    rw [c1, bstr_size] at hb
    rw [if_neg (by omega), if_neg (by omega), if_pos (by omega)] at this
    refine end3 (by exact .tmp rfl (.tmp rfl (.tmp rfl .nil))) ?_
    rw [this]; try rfl
  · have := stp ([bt s i]) (i + 1) (d) (by rw [stI, if_neg (by omega), if_neg (by omega), if_neg (by omega), if_neg (by omega)])
    rw [c1, bstr_size] at hb
    rw [if_neg (by omega), if_neg (by omega), if_neg (by omega)] at this
    exact wpe_back (i + 1, out ++ ([bt s i]), d) ⟨by dsimp only; omega, by dsimp only; omega, by dsimp only; omega, by dsimp only; omega, by dsimp only; omega, n, by dsimp only; omega, this⟩ (by dsimp only; omega) ⟨rfl, congrArg (fun x => some (Value.string x)) c1, rfl, rfl, trivial⟩ rfl (List.Sublist.refl _)
end Go.Proofs.Ytgjhbambdnpcmaa
set_option linter.unusedVariables false
set_option linter.unusedSimpArgs false
namespace Go.Proofs.Ytgjhbambdnpcmaa
open Go Go.Eng
theorem lor_oct {a b : Int} (h0 : 0 ≤ a) (h1 : a ≤ 63) (h2 : 0 ≤ b) (h3 : b ≤ 7) : lor .i64 (IntKind.i64.wrap (a * 8)) b = 8 * a + b := by
  have key : ∀ x : Fin 64, ∀ y : Fin 8, lor .i64 (IntKind.i64.wrap ((x.val : Int) * 8)) y.val = 8 * x.val + y.val := by decide +kernel
  obtain ⟨n, rfl⟩ := Int.eq_ofNat_of_zero_le h0
  obtain ⟨m, rfl⟩ := Int.eq_ofNat_of_zero_le h2
  exact key ⟨n, by omega⟩ ⟨m, by omega⟩
theorem octal_fn (s : ByteArray) (i : Int) (g : Nat) (V : Value) (H : GH) (hs : s.size ≤ 140737488351232) (h0 : 0 ≤ i) (h1 : i ≤ s.size) : CtL Try.prog 80 [.pointer (some ⟨g, 0, none⟩)] H [.blk g (.cells #[.string s, .int .i64 i, V] 70 (0, 0))]
    (fun r L' => L' = [.blk g (.cells #[.string s, .int .i64 (octN s 3 i 0).2, V] 70 (0, 0))] ∧ r = .int .u8 ((octN s 3 i 0).1 % 256)) := by
  refine fn_intro Try.func80 rfl rfl (fun w => ?_)
  repeat' (first | apply wpc_seq | apply wpe_seq | apply wpl_nil | apply wpc_region | (apply g_any; first | (apply gmv; refine smv rfl rfl ?_) | (apply gas; refine sas rfl rfl ?_)) | (apply g_wpc; first | apply wpc_block))
  refine wpc_less (l' := [(6, .int .i64 0), (3, .int .i64 0), (0, .pointer (some ⟨g, 0, none⟩))]) ⟨rfl, rfl, rfl, trivial⟩ (List.Sublist.refl _) ?_
  refine wpc_loop (ι := Int × Int × Int) (fun x => 0 ≤ x.1 ∧ x.1 ≤ 3 ∧ 0 ≤ x.2.1 ∧ ((x.1 = 0 → x.2.1 = 0) ∧ (x.1 ≤ 1 → x.2.1 ≤ 7) ∧ (x.1 ≤ 2 → x.2.1 ≤ 63) ∧ x.2.1 ≤ 511) ∧ octN s 3 i 0 = octN s (3 - x.1).toNat x.2.2 x.2.1 ∧ 0 ≤ x.2.2 ∧ x.2.2 ≤ s.size) (fun x => (3 - x.1).toNat)
    (fun x => [(6, .int .i64 x.1), (3, .int .i64 x.2.1), (0, .pointer (some ⟨g, 0, none⟩))]) (fun _ => H) (fun x => [.blk g (.cells #[.string s, .int .i64 x.2.2, V] 70 (0, 0))]) ?_ (0, 0, i) ⟨by simp, by simp, by simp, by simp, by simp, h0, h1⟩
  rintro ⟨k, n, a⟩ ⟨hk0, hk1, hn0, hn1, ho, ha0, ha1⟩
  dsimp only at hk0 hk1 hn0 hn1 ho ha0 ha1 ⊢
  have fin : ¬ (k < 3 ∧ a < s.size ∧ 48 ≤ bt s a ∧ bt s a ≤ 55) → octN s 3 i 0 = (n, a) := by
    intro h
    rw [ho]
    by_cases hk : k < 3
    · rw [show (3 - k).toNat = (3 - k).toNat - 1 + 1 by omega, octN, if_neg (by omega)]
    · rw [show (3 - k).toNat = 0 by omega, octN]
  have hbr := bt_range s a
  repeat' (first | apply wpc_seq | apply wpe_seq | apply wpl_nil | apply wpc_region | (apply g_any; first | (apply gmv; refine smv rfl rfl ?_) | (apply gas; refine sas rfl rfl ?_) | (apply gbn; first | refine sbn rfl rfl ?_) | (apply gcv; first | refine scv rfl rfl ?_)) | (apply g_wpc; first | apply wpc_block | (apply g_cond; first | (refine cdD rfl (fun hb => ?_) (fun hb => ?_) <;> (try (exfalso; first | (with_reducible exact absurd (by assumption) hb) | (with_reducible exact absurd hb (by assumption)) | omega)))) | apply wpc_skip | apply wpc_exit | apply wpc_ret) | (apply g_wpe; first | apply wpe_then_exit | apply wpe_block_eq | apply wpe_back_exit))
  · refine scq 0 rfl rfl (more_fn s a g _ _ hs ha0 ha1) rfl rfl (fun r Lq hX => ?_)
    obtain ⟨rfl, rfl⟩ := hX
    refine wnL rfl ?_
    by_cases hin : a < (s.size : Int)
    · rw [if_pos hin]
      have hw8 : 48 ≤ bt s a → IntKind.u8.wrap (bt s a - 48) = bt s a - 48 := fun h => wrap8_in (by omega) (by omega)
      repeat' (first | apply wpc_seq | apply wpe_seq | apply wpl_nil | apply wpc_region | (apply g_any; first | (apply gmv; refine smv rfl rfl ?_) | (apply gas; refine sas rfl rfl ?_) | (apply gld; refine sld rfl (by exact rfl) (by exact rfl) rfl ?_) | (apply gfa; refine sfa rfl rfl ?_) | (apply gex; refine sex rfl rfl ?_) | (apply gst; refine sst rfl rfl (by exact rfl) (by exact rfl) (by exact rfl) (by exact rfl) ?_) | (apply gbn; first | (apply gad; refine sad rfl rfl (by omega) (by omega) rfl ?_) | refine sbn rfl rfl ?_ | refine ssh rfl rfl rfl ?_ | refine sor rfl rfl rfl ?_) | (apply gpk; refine spk rfl rfl ?_) | (apply gnc; refine snc rfl rfl ?_) | (apply gun; refine sun rfl rfl ?_) | (apply gcv; first | refine sc6 rfl (by omega) (by omega) rfl ?_ | refine sc8 rfl (by omega) (by omega) rfl ?_) | (apply g_guard; first | refine wpl_wanted (wants_ff rfl rfl rfl) ?_ | refine wpl_skip (wants_ft rfl rfl rfl) rfl ?_ | (refine gsD rfl rfl rfl (fun hb => ?_) (fun hb => ?_) <;> (try (exfalso; first | (with_reducible exact absurd (by assumption) hb) | (with_reducible exact absurd hb (by assumption)) | omega))))) | (apply g_wpc; first | (apply g_cond; first | refine cdT rfl ?_ | (refine cdD rfl (fun hb => ?_) (fun hb => ?_) <;> (try (exfalso; first | (with_reducible exact absurd (by assumption) hb) | (with_reducible exact absurd hb (by assumption)) | omega)))) | apply wpc_skip | apply wpc_exit | apply wpc_ret) | (apply g_wpe; first | apply wpe_block | apply wpe_then_exit | apply wpe_block_eq | (apply g_exit; refine wpe_block_ne rfl ?_) | apply wpe_back_exit))
      · refine wpe_end (.inl rfl) (by exact .tmp rfl .nil) _ (List.Sublist.refl _) (Grow.refl _ _) ⟨by rw [fin (by omega)], by rw [fin (by omega)]; first | (rw [← w8]; rfl) | (refine int_eq ?_; dsimp only; omega)⟩
      · refine wpe_end (.inl rfl) (by exact .tmp rfl .nil) _ (List.Sublist.refl _) (Grow.refl _ _) ⟨by rw [fin (by omega)], by rw [fin (by omega)]; first | (rw [← w8]; rfl) | (refine int_eq ?_; dsimp only; omega)⟩
      · have e : lor .i64 (IntKind.i64.wrap (n * 8)) (IntKind.u8.wrap (bt s a - 48)) = 8 * n + (bt s a - 48) := by
          rw [hw8 (by omega), lor_oct (by omega) (by omega) (by omega) (by omega)]
        refine wpe_back (k + 1, 8 * n + (bt s a - 48), a + 1) ⟨by dsimp only; omega, by dsimp only; omega, by dsimp only; omega, by dsimp only; omega, ?_, by dsimp only; omega, by dsimp only; omega⟩ (by dsimp only; omega) ⟨rfl, congrArg (fun x => some (Value.int .i64 x)) e, rfl, trivial⟩ rfl (List.Sublist.refl _)
        dsimp only
        rw [ho, show (3 - k).toNat = (3 - (k + 1)).toNat + 1 by omega, octN, if_pos (by omega)]
    · rw [if_neg hin]
      repeat' (first | apply wpc_seq | apply wpe_seq | apply wpl_nil | apply wpc_region | (apply g_any; first | (apply gmv; refine smv rfl rfl ?_) | (apply gas; refine sas rfl rfl ?_) | (apply gex; refine sex rfl rfl ?_) | (apply gpk; refine spk rfl rfl ?_) | (apply gun; refine sun rfl rfl ?_) | (apply gcv; first | refine sc8 rfl (by omega) (by omega) rfl ?_) | (apply g_guard; first | refine wpl_skip (wants_ft rfl rfl rfl) rfl ?_)) | (apply g_wpc; first | (apply g_cond; first | refine cdT rfl ?_) | apply wpc_exit | apply wpc_ret) | (apply g_wpe; first | apply wpe_then_exit | apply wpe_block_eq | (apply g_exit; refine wpe_block_ne rfl ?_) | apply wpe_back_exit))
      refine wpe_end (.inl rfl) (by exact .tmp rfl .nil) _ (List.Sublist.refl _) (Grow.refl _ _) ⟨by rw [fin (by omega)], by rw [fin (by omega)]; first | (rw [← w8]; rfl) | (refine int_eq ?_; dsimp only; omega)⟩
  · refine wpe_end (.inl rfl) (by exact .tmp rfl .nil) _ (List.Sublist.refl _) (Grow.refl _ _) ⟨by rw [fin (by omega)], by rw [fin (by omega)]; first | (rw [← w8]; rfl) | (refine int_eq ?_; dsimp only; omega)⟩
theorem escape_fn (s : ByteArray) (i : Int) (g : Nat) (out : List Int) (A : Option Addr) (c : Nat) (H : GH) (hs : s.size ≤ 140737488351232) (h0 : 0 ≤ i) (h1 : i ≤ s.size) (ho : out.length ≤ 65536) : CtL Try.prog 73 [.pointer (some ⟨g, 0, none⟩)] H [.blk g (.cells #[.string s, .int .i64 i, .slice A out.length c] 70 (0, 0)), .row 5 1 A c (bys out)]
    (fun r L' => if (mnI s i).2 < 0 then r = .bool false else r = .bool true ∧ ∃ A' c', L' = [.blk g (.cells #[.string s, .int .i64 (mnI s i).2, .slice A' (out ++ (mnI s i).1).length c'] 70 (0, 0)), .row 5 1 A' c' (bys (out ++ (mnI s i).1))]) := by
  refine fn_intro Try.func73 rfl rfl (fun w => ?_)
  have her := endsI_range s i
  have hbr := bt_range s i
  repeat' (first | apply wpc_seq | apply wpe_seq | apply wpl_nil | apply wpc_region | (apply g_any; first | (apply gmv; refine smv rfl rfl ?_) | (apply gas; refine sas rfl rfl ?_)))
  refine scq 0 rfl rfl (more_fn s i g _ _ hs h0 h1) rfl rfl (fun r Lq hX => ?_)
  obtain ⟨rfl, rfl⟩ := hX
  refine wnL rfl ?_
  by_cases hin : i < (s.size : Int)
  case neg =>
    rw [if_neg hin]
    repeat' (first | apply wpc_seq | apply wpe_seq | apply wpl_nil | apply wpc_region | (apply g_any; first | (apply gmv; refine smv rfl rfl ?_) | (apply gas; refine sas rfl rfl ?_) | (apply gex; refine sex rfl rfl ?_) | (apply gun; refine sun rfl rfl ?_)) | (apply g_wpc; first | (apply g_cond; first | refine cdT rfl ?_) | apply wpc_ret) | (apply g_wpe; first | apply wpe_then_ret))
    refine wpe_end (.inl rfl) (by exact .tmp rfl .nil) [] (List.nil_sublist _) (Grow.refl _ _) ?_
    rw [show mnI s i = ([], -1) by rw [mnI, if_pos (by omega)]]
    rfl
  rw [if_pos hin]
  repeat' (first | apply wpc_seq | apply wpe_seq | apply wpl_nil | apply wpc_region | (apply g_any; first | (apply gmv; refine smv rfl rfl ?_) | (apply gas; refine sas rfl rfl ?_) | (apply gex; refine sex rfl rfl ?_) | (apply gun; refine sun rfl rfl ?_)) | (apply g_wpc; first | (apply g_cond; first | refine cdF rfl ?_) | apply wpc_skip))
  refine wpc_quiet mixed (by kernel_rfl) ?_
  repeat' (first | apply wpc_seq | apply wpe_seq | apply wpl_nil | apply wpc_region | (apply g_any; first | (apply gmv; refine smv rfl rfl ?_) | (apply gas; refine sas rfl rfl ?_) | (apply gld; refine sld rfl (by exact rfl) (by exact rfl) rfl ?_) | (apply gfa; refine sfa rfl rfl ?_) | (apply gst; refine sst rfl rfl (by exact rfl) (by exact rfl) (by exact rfl) (by exact rfl) ?_) | (apply gbn; first | (apply gad; refine sad rfl rfl (by omega) (by omega) rfl ?_) | refine sbn rfl rfl ?_) | (apply gpk; refine spk rfl rfl ?_) | (apply gnc; refine snc rfl rfl ?_) | (apply g_guard; first | refine wpl_wanted (wants_tt rfl rfl rfl) ?_ | refine wpl_skip (wants_tf rfl rfl rfl) rfl ?_ | (refine gsD rfl rfl rfl (fun hb => ?_) (fun hb => ?_) <;> (try (exfalso; first | (with_reducible exact absurd (by assumption) hb) | (with_reducible exact absurd hb (by assumption)) | omega))))) | (apply g_wpc; first | apply wpc_block | (apply g_cond; first | refine cdF rfl ?_ | (refine cdD rfl (fun hb => ?_) (fun hb => ?_) <;> (try (exfalso; first | (with_reducible exact absurd (by assumption) hb) | (with_reducible exact absurd hb (by assumption)) | omega)))) | apply wpc_skip | apply wpc_ret) | (apply g_wpe; first | apply wpe_block | apply wpe_then_ret) | apply wpq_nil | (apply gq_any; first | (apply kmv; refine qmv rfl rfl ?_) | (apply kas; refine qas rfl rfl ?_) | (apply kld; refine qld rfl (by exact rfl) (by exact rfl) rfl ?_) | (apply kfa; refine qfa rfl rfl ?_) | (apply kcl; first | refine qcl rfl (ends_fn _ _ _ hs) rfl ?_) | (apply knc; refine qnc rfl rfl ?_)))
  · have hm : mnI s i = ([], i + endsI s i) := by rw [mnI, if_neg (by omega), if_pos hb]
    refine wpe_end (.inl rfl) (by exact .tmp rfl .nil) _ (List.Sublist.refl _) (Grow.refl _ _) ?_
    dsimp only
    rw [hm, if_neg (by omega)]
    exact ⟨rfl, A, c, by rw [List.append_nil]⟩
  · -- octal digits
    have hm : mnI s i = ([(octN s 3 i 0).1 % 256], (octN s 3 i 0).2) := by rw [mnI, if_neg (by omega), if_neg (by omega), if_pos (by omega)]
    have hor := octN_range s 3 i 0 (by omega)
    refine wpc_held [] 12 mixed ?_
    refine wph_takes [0, 1, 2, 3, 5] (fuel := 7) (listed' := #[true, true, true, true, false, true, false, false, false, false, false, false]) (by kernel_rfl) rfl (by kernel_rfl) (HLe.refl _) (by repeat' (first | exact List.Sublist.slnil | apply List.Sublist.cons_cons | apply List.Sublist.cons)) ?_
    repeat' (first | (apply gt_any; first | (apply hmv; refine tmv rfl rfl ?_) | (apply hfa; refine tfa rfl rfl ?_) | (apply hnc; refine tnc rfl rfl ?_)))
    refine wpt_nil ?_
    refine wph_two 4 6 (li := #[true, true, true, true, true, true, false, false, false, false, false, false]) (lj := #[true, true, true, true, false, true, true, false, false, false, false, false]) (by kernel_rfl) rfl rfl (by kernel_rfl) (by kernel_rfl) ?_ ?_
    · -- [token.go:111] t42   := Op.load 68 t41   :ty68
      repeat' (first | apply wpl_nil | (apply g_any; first | (apply gld; refine sld rfl (by exact rfl) (by exact rfl) rfl ?_)))
      refine wpe_hold (HLe.refl _) (by repeat' (first | exact List.Sublist.slnil | apply List.Sublist.cons_cons | apply List.Sublist.cons)) ?_
      refine wph_one 6 (listed' := #[true, true, true, true, true, true, true, false, false, false, false, false]) (by kernel_rfl) rfl (by kernel_rfl) ?_   -- [token.go:111] t44   := Op.call {callee=(Callee.value f80), args=[t43], argTypes=[67]}   :
      refine scq 0 rfl rfl (octal_fn s i g _ _ hs h0 h1) rfl rfl (fun r Lq hX => ?_)
      obtain ⟨rfl, rfl⟩ := hX
      refine wnL rfl ?_
      repeat' (first | apply wpl_nil)
      refine wpe_hold (HLe.refl _) (by repeat' (first | exact List.Sublist.slnil | apply List.Sublist.cons_cons | apply List.Sublist.cons)) ?_
      refine wph_one 7 (listed' := #[true, true, true, true, true, true, true, true, false, false, false, false]) (by kernel_rfl) rfl (by kernel_rfl) ?_   -- [token.go:111] t45   := Op.buildSlice 68 1 [(tuple 0 t44)]   :ty68
      repeat' (first | apply wpl_nil | (apply g_any; first | (refine sb1 rfl rfl rfl rfl rfl rfl rfl (fun _ => ?_))))
      refine wpe_hold (HLe.refl _) (by repeat' (first | exact List.Sublist.slnil | apply List.Sublist.cons_cons | apply List.Sublist.cons)) ?_
      refine wph_one 8 (listed' := #[true, true, true, true, true, true, true, true, true, false, false, false]) (by kernel_rfl) rfl (by kernel_rfl) ?_   -- [token.go:111] t46   := Op.call {callee=(Callee.builtin Builtin.append), args=[t42, t45], 
      repeat' (first | apply wpl_nil | (apply g_any; first | (refine sapb rfl rfl (by omega) rfl rfl (by omega) rfl (fun _ _ => ?_); refine wnL rfl ?_)))
      refine wpe_hold (HLe.refl _) (by repeat' (first | exact List.Sublist.slnil | apply List.Sublist.cons_cons | apply List.Sublist.cons)) ?_
      refine wph_takes [9, 10] (fuel := 1) (listed' := #[true, true, true, true, true, true, true, true, true, true, true, false]) (by kernel_rfl) rfl (by kernel_rfl) (HLe.refl _) (by repeat' (first | exact List.Sublist.slnil | apply List.Sublist.cons_cons | apply List.Sublist.cons)) ?_
      repeat' (first | (apply gt_any; first | (apply hfa; refine tfa rfl rfl ?_) | (apply hnc; refine tnc rfl rfl ?_)))
      refine wpt_nil ?_
      refine wph_one 11 (listed' := #[true, true, true, true, true, true, true, true, true, true, true, true]) (by kernel_rfl) rfl (by kernel_rfl) ?_   -- [token.go:111] -     := Op.store 68 t48 t46
      repeat' (first | apply wpl_nil | (apply g_any; first | (apply gst; refine sst rfl rfl (by exact rfl) (by exact rfl) (by exact rfl) (by exact rfl) ?_)))
      refine wpe_hold (HLe.refl _) (by repeat' (first | exact List.Sublist.slnil | apply List.Sublist.cons_cons | apply List.Sublist.cons)) ?_
      refine wph_done (by kernel_rfl) ?_
      repeat' (first | apply wpc_seq | apply wpe_seq | apply wpl_nil | apply wpc_region | (apply g_any; first | (apply gas; refine sas rfl rfl ?_)) | (apply g_wpc; first | apply wpc_ret) | (apply g_wpe; first | apply wpe_then_ret))
      refine wpe_end (.inl rfl) (by exact .tmp rfl .nil) _ (List.Sublist.cons _ (List.Sublist.refl _)) (Grow.refl _ _) ?_
      dsimp only
      rw [hm, if_neg (by omega)]
      exact ⟨rfl, _, _, rfl⟩
    · -- [token.go:111] t44   := Op.call {callee=(Callee.value f80), args=[t43], argTypes=[67]}   :
      refine scq 0 rfl rfl (octal_fn s i g _ _ hs h0 h1) rfl rfl (fun r Lq hX => ?_)
      obtain ⟨rfl, rfl⟩ := hX
      refine wnL rfl ?_
      repeat' (first | apply wpl_nil)
      refine wpe_hold (HLe.refl _) (by repeat' (first | exact List.Sublist.slnil | apply List.Sublist.cons_cons | apply List.Sublist.cons)) ?_
      refine wph_two 4 7 (li := #[true, true, true, true, true, true, true, false, false, false, false, false]) (lj := #[true, true, true, true, false, true, true, true, false, false, false, false]) (by kernel_rfl) rfl rfl (by kernel_rfl) (by kernel_rfl) ?_ ?_
      · -- [token.go:111] t42   := Op.load 68 t41   :ty68
        repeat' (first | apply wpl_nil | (apply g_any; first | (apply gld; refine sld rfl (by exact rfl) (by exact rfl) rfl ?_)))
        refine wpe_hold (HLe.refl _) (by repeat' (first | exact List.Sublist.slnil | apply List.Sublist.cons_cons | apply List.Sublist.cons)) ?_
        refine wph_one 7 (listed' := #[true, true, true, true, true, true, true, true, false, false, false, false]) (by kernel_rfl) rfl (by kernel_rfl) ?_   -- [token.go:111] t45   := Op.buildSlice 68 1 [(tuple 0 t44)]   :ty68
        repeat' (first | apply wpl_nil | (apply g_any; first | (refine sb1 rfl rfl rfl rfl rfl rfl rfl (fun _ => ?_))))
        refine wpe_hold (HLe.refl _) (by repeat' (first | exact List.Sublist.slnil | apply List.Sublist.cons_cons | apply List.Sublist.cons)) ?_
        refine wph_one 8 (listed' := #[true, true, true, true, true, true, true, true, true, false, false, false]) (by kernel_rfl) rfl (by kernel_rfl) ?_   -- [token.go:111] t46   := Op.call {callee=(Callee.builtin Builtin.append), args=[t42, t45], 
        repeat' (first | apply wpl_nil | (apply g_any; first | (refine sapb rfl rfl (by omega) rfl rfl (by omega) rfl (fun _ _ => ?_); refine wnL rfl ?_)))
        refine wpe_hold (HLe.refl _) (by repeat' (first | exact List.Sublist.slnil | apply List.Sublist.cons_cons | apply List.Sublist.cons)) ?_
        refine wph_takes [9, 10] (fuel := 1) (listed' := #[true, true, true, true, true, true, true, true, true, true, true, false]) (by kernel_rfl) rfl (by kernel_rfl) (HLe.refl _) (by repeat' (first | exact List.Sublist.slnil | apply List.Sublist.cons_cons | apply List.Sublist.cons)) ?_
        repeat' (first | (apply gt_any; first | (apply hfa; refine tfa rfl rfl ?_) | (apply hnc; refine tnc rfl rfl ?_)))
        refine wpt_nil ?_
        refine wph_one 11 (listed' := #[true, true, true, true, true, true, true, true, true, true, true, true]) (by kernel_rfl) rfl (by kernel_rfl) ?_   -- [token.go:111] -     := Op.store 68 t48 t46
        repeat' (first | apply wpl_nil | (apply g_any; first | (apply gst; refine sst rfl rfl (by exact rfl) (by exact rfl) (by exact rfl) (by exact rfl) ?_)))
        refine wpe_hold (HLe.refl _) (by repeat' (first | exact List.Sublist.slnil | apply List.Sublist.cons_cons | apply List.Sublist.cons)) ?_
        refine wph_done (by kernel_rfl) ?_
        repeat' (first | apply wpc_seq | apply wpe_seq | apply wpl_nil | apply wpc_region | (apply g_any; first | (apply gas; refine sas rfl rfl ?_)) | (apply g_wpc; first | apply wpc_ret) | (apply g_wpe; first | apply wpe_then_ret))
        refine wpe_end (.inl rfl) (by exact .tmp rfl .nil) _ (List.Sublist.cons _ (List.Sublist.refl _)) (Grow.refl _ _) ?_
        dsimp only
        rw [hm, if_neg (by omega)]
        exact ⟨rfl, _, _, rfl⟩
      · -- [token.go:111] t45   := Op.buildSlice 68 1 [(tuple 0 t44)]   :ty68
        repeat' (first | apply wpl_nil | (apply g_any; first | (refine sb1 rfl rfl rfl rfl rfl rfl rfl (fun _ => ?_))))
        refine wpe_hold (HLe.refl _) (by repeat' (first | exact List.Sublist.slnil | apply List.Sublist.cons_cons | apply List.Sublist.cons)) ?_
        refine wph_one 4 (listed' := #[true, true, true, true, true, true, true, true, false, false, false, false]) (by kernel_rfl) rfl (by kernel_rfl) ?_   -- [token.go:111] t42   := Op.load 68 t41   :ty68
        repeat' (first | apply wpl_nil | (apply g_any; first | (apply gld; refine sld rfl (by exact rfl) (by exact rfl) rfl ?_)))
        refine wpe_hold (HLe.refl _) (by repeat' (first | exact List.Sublist.slnil | apply List.Sublist.cons_cons | apply List.Sublist.cons)) ?_
        refine wph_one 8 (listed' := #[true, true, true, true, true, true, true, true, true, false, false, false]) (by kernel_rfl) rfl (by kernel_rfl) ?_   -- [token.go:111] t46   := Op.call {callee=(Callee.builtin Builtin.append), args=[t42, t45], 
        repeat' (first | apply wpl_nil | (apply g_any; first | (refine sapb rfl rfl (by omega) rfl rfl (by omega) rfl (fun _ _ => ?_); refine wnL rfl ?_)))
        refine wpe_hold (HLe.refl _) (by repeat' (first | exact List.Sublist.slnil | apply List.Sublist.cons_cons | apply List.Sublist.cons)) ?_
        refine wph_takes [9, 10] (fuel := 1) (listed' := #[true, true, true, true, true, true, true, true, true, true, true, false]) (by kernel_rfl) rfl (by kernel_rfl) (HLe.refl _) (by repeat' (first | exact List.Sublist.slnil | apply List.Sublist.cons_cons | apply List.Sublist.cons)) ?_
        repeat' (first | (apply gt_any; first | (apply hfa; refine tfa rfl rfl ?_) | (apply hnc; refine tnc rfl rfl ?_)))
        refine wpt_nil ?_
        refine wph_one 11 (listed' := #[true, true, true, true, true, true, true, true, true, true, true, true]) (by kernel_rfl) rfl (by kernel_rfl) ?_   -- [token.go:111] -     := Op.store 68 t48 t46
        repeat' (first | apply wpl_nil | (apply g_any; first | (apply gst; refine sst rfl rfl (by exact rfl) (by exact rfl) (by exact rfl) (by exact rfl) ?_)))
        refine wpe_hold (HLe.refl _) (by repeat' (first | exact List.Sublist.slnil | apply List.Sublist.cons_cons | apply List.Sublist.cons)) ?_
        refine wph_done (by kernel_rfl) ?_
        repeat' (first | apply wpc_seq | apply wpe_seq | apply wpl_nil | apply wpc_region | (apply g_any; first | (apply gas; refine sas rfl rfl ?_)) | (apply g_wpc; first | apply wpc_ret) | (apply g_wpe; first | apply wpe_then_ret))
        refine wpe_end (.inl rfl) (by exact .tmp rfl .nil) _ (List.Sublist.cons _ (List.Sublist.refl _)) (Grow.refl _ _) ?_
        dsimp only
        rw [hm, if_neg (by omega)]
        exact ⟨rfl, _, _, rfl⟩
  -- a letter
  all_goals
    have hm : mnI s i = ([ltI (bt s i)], i + 1) := by rw [mnI, if_neg (by omega), if_neg (by omega), if_neg (by omega)]
    repeat' (first | apply wpc_seq | apply wpe_seq | apply wpl_nil | apply wpc_region | (apply g_any; first | (refine sb1 rfl rfl rfl rfl rfl rfl rfl (fun _ => ?_)) | (refine sapb rfl rfl (by omega) rfl rfl (by omega) rfl (fun _ _ => ?_); refine wnL rfl ?_) | (apply gas; refine sas rfl rfl ?_) | (apply gfa; refine sfa rfl rfl ?_) | (apply gst; refine sst rfl rfl (by exact rfl) (by exact rfl) (by exact rfl) (by exact rfl) ?_) | (apply gnc; refine snc rfl rfl ?_)) | (apply g_wpc; first | apply wpc_ret))
    refine wpe_end (.inl rfl) (by exact .tmp rfl .nil) _ (List.Sublist.cons _ (List.Sublist.refl _)) (Grow.refl _ _) ?_
    dsimp only
    rw [hm, if_neg (by omega)]
    first
      | (rw [show ltI (bt s i) = 10 by unfold ltI; rw [if_pos (by omega)]]; exact ⟨rfl, _, _, rfl⟩)
      | (rw [show ltI (bt s i) = 13 by unfold ltI; rw [if_neg (by omega), if_pos (by omega)]]; exact ⟨rfl, _, _, rfl⟩)
      | (rw [show ltI (bt s i) = 9 by unfold ltI; rw [if_neg (by omega), if_neg (by omega), if_pos (by omega)]]; exact ⟨rfl, _, _, rfl⟩)
      | (rw [show ltI (bt s i) = 8 by unfold ltI; rw [if_neg (by omega), if_neg (by omega), if_neg (by omega), if_pos (by omega)]]; exact ⟨rfl, _, _, rfl⟩)
      | (rw [show ltI (bt s i) = 12 by unfold ltI; rw [if_neg (by omega), if_neg (by omega), if_neg (by omega), if_neg (by omega), if_pos (by omega)]]; exact ⟨rfl, _, _, rfl⟩)
      | (rw [show ltI (bt s i) = bt s i by unfold ltI; rw [if_neg (by omega), if_neg (by omega), if_neg (by omega), if_neg (by omega), if_neg (by omega)]]; exact ⟨rfl, _, _, rfl⟩)
end Go.Proofs.Ytgjhbambdnpcmaa
