/- Proved on the way: Contracts: bytes, kinds, ends of lines, spans (the program's octet, the reference's first layer). Contracts: bytes, kinds, ends of lines, spans: the reference's first layer. -/
import Derived.Test.YtgjhbambdnpcmaaGoD
import Derived.Test.YtgjhbambdnpcmaaGoC
set_option linter.unusedVariables false
set_option linter.unusedSimpArgs false
namespace Go.Proofs.Ytgjhbambdnpcmaa
open Go Go.Eng
theorem mixed : Try.prog.follows .mixedOrders = true := by kernel_rfl
/-! ### what the functions come to -/
def kindI (c : Int) : Int := if c = 0 ∨ c = 9 ∨ c = 10 ∨ c = 12 ∨ c = 13 ∨ c = 32 then 0 else if c = 40 ∨ c = 41 ∨ c = 60 ∨ c = 62 ∨ c = 91 ∨ c = 93 ∨ c = 123 ∨ c = 125 ∨ c = 47 ∨ c = 37 then 1 else 2
def hexI (c : Int) : Int := if 48 ≤ c ∧ c ≤ 57 then c - 48 else if 65 ≤ c ∧ c ≤ 70 then c - 55 else if 97 ≤ c ∧ c ≤ 102 then c - 87 else -1
def endsI (s : ByteArray) (i : Int) : Int := if 0 ≤ i ∧ i < s.size then (if bt s i = 10 then 1 else if bt s i = 13 then (if i + 1 < s.size ∧ bt s (i + 1) = 10 then 2 else 1) else 0) else 0
/-- How many bytes from a place on are of a kind. -/
def spanN (s : ByteArray) (k : Int) : Nat → Int → Int
  | 0, _ => 0
  | n + 1, i => if kindI (bt s i) = k then 1 + spanN s k n (i + 1) else 0
def spanI (s : ByteArray) (k i : Int) : Int := if 0 ≤ i ∧ i < s.size then spanN s k (s.size - i).toNat i else 0
theorem spanN_range (s : ByteArray) (k : Int) : ∀ (n : Nat) (i : Int), 0 ≤ spanN s k n i ∧ spanN s k n i ≤ n
  | 0, i => by simp [spanN]
  | n + 1, i => by
    have := spanN_range s k n (i + 1)
    simp only [spanN]
    split <;> omega
/-! ### the program -/
theorem kind_fn (c : Int) (H : GH) : CtV Try.prog 69 [.int .u8 c] H (.int .i64 (kindI c)) := by
  refine fn_intro Try.func69 rfl rfl (fun w => ?_)
  repeat' (first | apply wpc_seq | apply wpe_seq | apply wpl_nil | apply wpc_region | (apply g_any; first | (apply gmv; refine smv rfl rfl ?_) | (apply gas; refine sas rfl rfl ?_) | (apply gbn; first | refine sbn rfl rfl ?_)) | (apply g_wpc; first | apply wpc_block | (apply g_cond; first | refine cdT rfl ?_ | (refine cdD rfl (fun hb => ?_) (fun hb => ?_) <;> (try (exfalso; first | (with_reducible exact absurd (by assumption) hb) | (with_reducible exact absurd hb (by assumption)) | omega)))) | apply wpc_skip | apply wpc_ret) | (apply g_wpe; first | apply wpe_block | apply wpe_then_ret | apply wpe_block_ret))
  all_goals (refine end1 (by exact .tmp rfl .nil) ?_; simp [tupV, kindI, *])
theorem within_fn (s : ByteArray) (i : Int) (H : GH) : CtV Try.prog 68 [.string s, .int .i64 i] H (.bool (tst (decide (0 ≤ i ∧ i < s.size)))) := by
  refine fn_intro Try.func68 rfl rfl (fun w => ?_)
  repeat' (first | apply wpc_seq | apply wpe_seq | apply wpl_nil | apply wpc_region | (apply g_any; first | (apply gmv; refine smv rfl rfl ?_) | (apply gas; refine sas rfl rfl ?_) | (apply gbn; first | refine sbn rfl rfl ?_) | (apply gln; first | refine sls rfl rfl ?_) | (apply gpk; refine spk rfl rfl ?_) | (apply g_guard; first | refine wpl_wanted (wants_tt rfl rfl rfl) ?_ | refine wpl_skip (wants_tf rfl rfl rfl) rfl ?_ | (refine gsD rfl rfl rfl (fun hb => ?_) (fun hb => ?_) <;> (try (exfalso; first | (with_reducible exact absurd (by assumption) hb) | (with_reducible exact absurd hb (by assumption)) | omega))))) | (apply g_wpc; first | apply wpc_ret))
  all_goals (refine end1 (by exact .tmp rfl .nil) ?_; simp [tupV, tst_eq, *]; try omega)
theorem hex_fn (c : Int) (H : GH) (h0 : 0 ≤ c) (h1 : c ≤ 255) : CtV Try.prog 75 [.int .u8 c] H (.int .i64 (hexI c)) := by
  refine fn_intro Try.func75 rfl rfl (fun w => ?_)
  repeat' (first | apply wpc_seq | apply wpe_seq | apply wpl_nil | apply wpc_region | (apply g_any; first | (apply gmv; refine smv rfl rfl ?_) | (apply gas; refine sas rfl rfl ?_) | (apply gbn; first | refine sbn rfl rfl ?_) | (apply gpk; refine spk rfl rfl ?_) | (apply gcv; first | refine scv rfl rfl ?_) | (apply g_guard; first | refine wpl_wanted (wants_tt rfl rfl rfl) ?_ | refine wpl_skip (wants_tf rfl rfl rfl) rfl ?_ | (refine gsD rfl rfl rfl (fun hb => ?_) (fun hb => ?_) <;> (try (exfalso; first | (with_reducible exact absurd (by assumption) hb) | (with_reducible exact absurd hb (by assumption)) | omega))))) | (apply g_wpc; first | apply wpc_block | (apply g_cond; first | refine cdF rfl ?_ | (refine cdD rfl (fun hb => ?_) (fun hb => ?_) <;> (try (exfalso; first | (with_reducible exact absurd (by assumption) hb) | (with_reducible exact absurd hb (by assumption)) | omega)))) | apply wpc_skip | apply wpc_ret) | (apply g_wpe; first | apply wpe_block | apply wpe_then_ret | apply wpe_block_ret))
  all_goals (refine end1 (by exact .tmp rfl .nil) ?_)
  all_goals (simp only [tupV, hexI]; refine int_eq ?_; (try simp only [w64, w8]); (repeat' split) <;> omega)
theorem ends_fn (s : ByteArray) (i : Int) (H : GH) (hs : s.size ≤ 140737488351232) : CtV Try.prog 53 [.string s, .int .i64 i] H (.int .i64 (endsI s i)) := by
  refine fn_intro Try.func53 rfl rfl (fun w => ?_)
  repeat' (first | apply wpc_seq | apply wpe_seq | apply wpl_nil | apply wpc_region | (apply g_any; first | (apply gmv; refine smv rfl rfl ?_) | (apply gas; refine sas rfl rfl ?_) | (apply gbn; first | (apply gad; refine sad rfl rfl (by omega) (by omega) rfl ?_) | refine sbn rfl rfl ?_) | (apply gln; first | refine sls rfl rfl ?_) | (apply gcl; first | refine scl rfl (within_fn _ _ _) rfl ?_) | (apply gpk; refine spk rfl rfl ?_) | (apply gun; refine sun rfl rfl ?_) | (apply gix; refine six rfl rfl (by omega) (by omega) rfl ?_) | (apply g_guard; first | refine wpl_wanted (wants_tt rfl rfl rfl) ?_ | refine wpl_skip (wants_tf rfl rfl rfl) rfl ?_ | (refine gsD rfl rfl rfl (fun hb => ?_) (fun hb => ?_) <;> (try (exfalso; first | (with_reducible exact absurd (by assumption) hb) | (with_reducible exact absurd hb (by assumption)) | omega))))) | (apply g_wpc; first | apply wpc_block | (apply g_cond; first | refine cdF rfl ?_ | (refine cdD rfl (fun hb => ?_) (fun hb => ?_) <;> (try (exfalso; first | (with_reducible exact absurd (by assumption) hb) | (with_reducible exact absurd hb (by assumption)) | omega))) | (refine cdN rfl (fun hb => ?_) (fun hb => ?_) <;> (try (exfalso; first | (with_reducible exact absurd (by assumption) hb) | (with_reducible exact absurd hb (by assumption)) | omega)))) | apply wpc_skip | apply wpc_ret) | (apply g_wpe; first | apply wpe_block | apply wpe_then_ret | apply wpe_block_ret))
  all_goals (refine end1 (by exact .tmp rfl .nil) ?_; simp [tupV, tst_eq, endsI, *]; try omega)

/-- A slice of numbers that stays: its cells. -/
theorem span_fn (s : ByteArray) (k i : Int) (H : GH) (hs : s.size ≤ 140737488351232) (hi : i ≤ 9223372036854775807) (hi0 : -9223372036854775808 ≤ i) (g c : Nat) (hc : CellsAt H g 0 [.int .i64 k]) : CtV Try.prog 52 [.string s, .int .i64 i, .slice (some ⟨g, 0, none⟩) 1 c] H (.int .i64 (spanI s k i)) := by
  refine fn_intro Try.func52 rfl rfl (fun w => ?_)
  repeat' (first | apply wpc_seq | apply wpe_seq | apply wpl_nil | apply wpc_region | (apply g_any; first | (apply gmv; refine smv rfl rfl ?_) | (apply gas; refine sas rfl rfl ?_) | (apply gcl; first | refine scl rfl (within_fn _ _ _) rfl ?_) | (apply gun; refine sun rfl rfl ?_)) | (apply g_wpc; first | apply wpc_block | (apply g_cond; first | (refine cdN rfl (fun hb => ?_) (fun hb => ?_) <;> (try (exfalso; first | (with_reducible exact absurd (by assumption) hb) | (with_reducible exact absurd hb (by assumption)) | omega)))) | apply wpc_skip | apply wpc_ret | apply wpc_label | apply wpc_scope) | (apply g_wpe; first | apply wpe_then_ret | apply wpe_scope_ret))
  · refine end1 (by exact .tmp rfl .nil) ?_
    simp [tupV, spanI, hb]
  refine wpc_less (l' := [(7, .int .i64 0), (0, .string s), (1, .int .i64 i), (2, .slice (some ⟨g, 0, none⟩) 1 c)]) ⟨rfl, rfl, rfl, rfl, trivial⟩ (List.Sublist.refl _) ?_
  refine wpc_loop (ι := Int) (fun n => 0 ≤ n ∧ i + n ≤ s.size ∧ spanI s k i = n + spanN s k (s.size - i - n).toNat (i + n)) (fun n => (s.size - i - n).toNat)
    (fun n => [(7, .int .i64 n), (0, .string s), (1, .int .i64 i), (2, .slice (some ⟨g, 0, none⟩) 1 c)]) (fun _ => H) (fun _ => []) ?_ 0 ⟨by omega, by omega, by simp [spanI, hb]⟩
  rintro n ⟨hn0, hn1, hn2⟩
  repeat' (first | apply wpc_seq | apply wpe_seq | apply wpl_nil | apply wpc_region | (apply g_any; first | (apply gmv; refine smv rfl rfl ?_) | (apply gas; refine sas rfl rfl ?_) | (apply gbn; first | (apply gsb; refine ssb rfl rfl (by omega) (by omega) rfl ?_) | refine sbn rfl rfl ?_) | (apply gln; first | refine sls rfl rfl ?_ | refine slm rfl rfl ?_)) | (apply g_wpc; first | apply wpc_block | (apply g_cond; first | (refine cdD rfl (fun hb => ?_) (fun hb => ?_) <;> (try (exfalso; first | (with_reducible exact absurd (by assumption) hb) | (with_reducible exact absurd hb (by assumption)) | omega)))) | apply wpc_skip | apply wpc_exit | apply wpc_ret) | (apply g_wpe; first | apply wpe_then_exit | apply wpe_block_eq | apply wpe_back_exit | apply wpe_scope_ret))
  · -- the inner loop
    obtain ⟨m, hm⟩ : ∃ m, (s.size - i - n).toNat = m + 1 := ⟨(s.size - i - n).toNat - 1, by omega⟩
    refine wpc_less (l' := [(24, .int .i64 0), (22, .slice (some ⟨g, 0, none⟩) 1 c), (23, .int .i64 1), (7, .int .i64 n), (0, .string s), (1, .int .i64 i), (2, .slice (some ⟨g, 0, none⟩) 1 c)]) ⟨rfl, rfl, rfl, rfl, rfl, rfl, rfl, trivial⟩ (List.Sublist.refl _) ?_
    refine wpc_loop (ι := Int) (fun j => j = 0 ∨ j = 1 ∧ ¬ kindI (bt s (i + n)) = k) (fun j => (2 - j).toNat)
      (fun j => [(24, .int .i64 j), (22, .slice (some ⟨g, 0, none⟩) 1 c), (23, .int .i64 1), (7, .int .i64 n), (0, .string s), (1, .int .i64 i), (2, .slice (some ⟨g, 0, none⟩) 1 c)]) (fun _ => H) (fun _ => []) ?_ 0 (.inl rfl)
    rintro j (rfl | ⟨rfl, hk⟩)
    · repeat' (first | apply wpc_seq | apply wpe_seq | apply wpl_nil | apply wpc_region | (apply g_any; first | refine slh hc rfl rfl rfl rfl rfl ?_ | (apply gmv; refine smv rfl rfl ?_) | (apply gas; refine sas rfl rfl ?_) | (apply gbn; first | (apply gad; refine sad rfl rfl (by omega) (by omega) rfl ?_) | refine sbn rfl rfl ?_) | (apply gcl; first | refine scl rfl (kind_fn _ _) rfl ?_) | (apply gix; refine six rfl rfl (by omega) (by omega) rfl ?_) | (apply gia; refine sia rfl rfl (by omega) (by omega) rfl ?_)) | (apply g_wpc; first | apply wpc_block | (apply g_cond; first | (refine cdD rfl (fun hb => ?_) (fun hb => ?_) <;> (try (exfalso; first | (with_reducible exact absurd (by assumption) hb) | (with_reducible exact absurd hb (by assumption)) | omega)))) | apply wpc_skip | apply wpc_exit) | (apply g_wpe; first | apply wpe_block | apply wpe_then_exit | apply wpe_block_eq | (apply g_exit; refine wpe_block_ne rfl ?_) | apply wpe_back_exit))
      · -- of the kind
        refine wpe_back (n + 1) ⟨by omega, by omega, ?_⟩ (by omega) ⟨rfl, rfl, rfl, rfl, trivial⟩ rfl (List.Sublist.refl _)
        rw [hn2, hm, spanN, if_pos hb, show (s.size - i - (n + 1)).toNat = m by omega, show i + (n + 1) = i + n + 1 by omega]
        omega
      · refine wpe_back 1 (.inr ⟨rfl, hb⟩) (by omega) ⟨rfl, rfl, rfl, rfl, rfl, rfl, rfl, trivial⟩ rfl (List.Sublist.refl _)
    · repeat' (first | apply wpc_seq | apply wpe_seq | apply wpl_nil | apply wpc_region | (apply g_any; first | (apply gmv; refine smv rfl rfl ?_) | (apply gas; refine sas rfl rfl ?_) | (apply gbn; first | refine sbn rfl rfl ?_)) | (apply g_wpc; first | (apply g_cond; first | (refine cdD rfl (fun hb => ?_) (fun hb => ?_) <;> (try (exfalso; first | (with_reducible exact absurd (by assumption) hb) | (with_reducible exact absurd hb (by assumption)) | omega)))) | apply wpc_exit | apply wpc_ret) | (apply g_wpe; first | apply wpe_then_exit | apply wpe_block_eq | (apply g_exit; refine wpe_block_ne rfl ?_) | apply wpe_back_exit | apply wpe_scope_ret))
      refine end1 (by exact .tmp rfl .nil) ?_
      rw [hn2, hm, spanN, if_neg hk]
      simp [tupV]
  · refine end1 (by exact .tmp rfl .nil) ?_
    rw [hn2, show (s.size - i - n).toNat = 0 by omega]
    simp [tupV, spanN]
end Go.Proofs.Ytgjhbambdnpcmaa
set_option linter.unusedVariables false
set_option linter.unusedSimpArgs false
namespace Go.Proofs.Ytgjhbambdnpcmaa
open Go Go.Eng
def inL (l : List UInt8) (c : Int) : Bool := l.any fun b => (b.toNat : Int) == c
theorem in_fn (l : List UInt8) (c : Int) (H : GH) (hl : l.length ≤ 140737488351232) : CtV Try.prog 63 [.string ⟨l.toArray⟩, .int .u8 c] H (.bool (tst (decide (inL l c = true)))) := by
  refine fn_intro Try.func63 rfl rfl (fun w => ?_)
  repeat' (first | apply wpc_seq | apply wpe_seq | apply wpl_nil | apply wpc_region | (apply g_any; first | (apply gas; refine sas rfl rfl ?_)) | (apply g_wpc; first | apply wpc_block))
  refine wpc_less (l' := [(5, .int .i64 0), (0, .string ⟨l.toArray⟩), (1, .int .u8 c)]) ⟨rfl, rfl, rfl, trivial⟩ (List.Sublist.refl _) ?_
  have hsz : (⟨l.toArray⟩ : ByteArray).size = l.length := rfl
  refine wpc_loop (ι := Nat) (fun n => n ≤ l.length ∧ inL l c = inL (l.drop n) c) (fun n => l.length - n)
    (fun n => [(5, .int .i64 n), (0, .string ⟨l.toArray⟩), (1, .int .u8 c)]) (fun _ => H) (fun _ => []) ?_ 0 ⟨by omega, by simp⟩
  rintro n ⟨hn0, hn1⟩
  repeat' (first | apply wpc_seq | apply wpe_seq | apply wpl_nil | apply wpc_region | (apply g_any; first | (apply gmv; refine smv rfl rfl ?_) | (apply gas; refine sas rfl rfl ?_) | (apply gbn; first | (apply gad; refine sad rfl rfl (by omega) (by omega) rfl ?_) | refine sbn rfl rfl ?_) | (apply gln; first | refine sls rfl rfl ?_) | (apply gix; refine six rfl rfl (by omega) (by omega) rfl ?_)) | (apply g_wpc; first | apply wpc_block | (apply g_cond; first | (refine cdD rfl (fun hb => ?_) (fun hb => ?_) <;> (try (exfalso; first | (with_reducible exact absurd (by assumption) hb) | (with_reducible exact absurd hb (by assumption)) | omega)))) | apply wpc_skip | apply wpc_exit | apply wpc_ret) | (apply g_wpe; first | apply wpe_block | apply wpe_then_exit | apply wpe_block_eq | apply wpe_then_ret | apply wpe_block_ret | apply wpe_back_exit | apply wpe_back_ret))
  · refine end1 (by exact .tmp rfl .nil) ?_
    rename_i hlt
    have hlt' : n < l.length := by omega
    have : inL l c = true := by
      rw [hn1, List.drop_eq_getElem_cons hlt']
      rw [bt_mk] at hb
      simp only [Int.toNat_natCast, List.getElem?_eq_getElem hlt', Option.getD_some] at hb
      simp only [inL, List.any_cons, hb, beq_self_eq_true, Bool.true_or]
    simp [tupV, tst_eq, this]
  · rename_i hlt
    have hlt' : n < l.length := by omega
    refine wpe_back (n + 1) ⟨by omega, ?_⟩ (by omega) ⟨rfl, rfl, rfl, trivial⟩ rfl (List.Sublist.refl _)
    rw [hn1, List.drop_eq_getElem_cons hlt']
    rw [bt_mk] at hb
    simp only [Int.toNat_natCast, List.getElem?_eq_getElem hlt', Option.getD_some] at hb
    have hb' : (((l[n]'hlt').toNat : Int) == c) = false := by simpa using hb
    simp only [inL, List.any_cons, hb', Bool.false_or]
  · refine end1 (by exact .tmp rfl .nil) ?_
    have : inL l c = false := by
      rw [hn1, List.drop_eq_nil_of_le (by omega)]; rfl
    simp [tupV, tst_eq, this]
theorem kindR_fn (c : Int) (H : GH) : CtV Try.prog 39 [.int .u8 c] H (.int .i64 (kindI c)) := by
  refine fn_intro Try.func39 rfl rfl (fun w => ?_)
  repeat' (first | apply wpc_seq | apply wpe_seq | apply wpl_nil | apply wpc_region | (apply g_any; first | (apply gmv; refine smv rfl rfl ?_) | (apply gas; refine sas rfl rfl ?_) | (apply gcl; first | refine scl rfl (in_fn _ _ _ (by decide)) rfl ?_)) | (apply g_wpc; first | (apply g_cond; first | (refine cdD rfl (fun hb => ?_) (fun hb => ?_) <;> (try (exfalso; first | (with_reducible exact absurd (by assumption) hb) | (with_reducible exact absurd hb (by assumption)) | omega)))) | apply wpc_skip | apply wpc_ret) | (apply g_wpe; first | apply wpe_then_ret))
  all_goals (refine end1 (by exact .tmp rfl .nil) ?_)
  · simp [inL] at hb
    simp only [tupV, kindI]
    rw [if_pos (by omega)]
  · rename_i h1
    simp [inL] at hb h1
    simp only [tupV, kindI]
    rw [if_neg (by omega), if_pos (by omega)]
  · rename_i h1
    simp [inL] at hb h1
    simp only [tupV, kindI]
    rw [if_neg (by omega), if_neg (by omega)]
theorem hexTab : ∀ i : Fin 16, bt ⟨#[48, 49, 50, 51, 52, 53, 54, 55, 56, 57, 65, 66, 67, 68, 69, 70]⟩ (i.val : Int) = (if i.val < 10 then 48 + (i.val : Int) else 55 + i.val) ∧ bt ⟨#[48, 49, 50, 51, 52, 53, 54, 55, 56, 57, 97, 98, 99, 100, 101, 102]⟩ (i.val : Int) = (if i.val < 10 then 48 + (i.val : Int) else 87 + i.val) := by decide
theorem hexTab' {n : Int} (h0 : 0 ≤ n) (h1 : n < 16) : bt ⟨#[48, 49, 50, 51, 52, 53, 54, 55, 56, 57, 65, 66, 67, 68, 69, 70]⟩ n = (if n < 10 then 48 + n else 55 + n) ∧ bt ⟨#[48, 49, 50, 51, 52, 53, 54, 55, 56, 57, 97, 98, 99, 100, 101, 102]⟩ n = (if n < 10 then 48 + n else 87 + n) := by
  have := hexTab ⟨n.toNat, by omega⟩
  simp only [Int.toNat_of_nonneg h0] at this
  refine ⟨this.1.trans ?_, this.2.trans ?_⟩ <;> (split <;> split <;> omega)
theorem hexR_fn (c : Int) (H : GH) : CtV Try.prog 60 [.int .u8 c] H (.int .i64 (hexI c)) := by
  refine fn_intro Try.func60 rfl rfl (fun w => ?_)
  repeat' (first | apply wpc_seq | apply wpe_seq | apply wpl_nil | apply wpc_region | (apply g_any; first | (apply gas; refine sas rfl rfl ?_)) | (apply g_wpc; first | apply wpc_block))
  refine wpc_less (l' := [(5, .int .i64 0), (0, .int .u8 c), (3, .string ⟨#[48, 49, 50, 51, 52, 53, 54, 55, 56, 57, 65, 66, 67, 68, 69, 70]⟩), (4, .string ⟨#[48, 49, 50, 51, 52, 53, 54, 55, 56, 57, 97, 98, 99, 100, 101, 102]⟩)]) ⟨rfl, rfl, rfl, rfl, trivial⟩ (List.Sublist.refl _) ?_
  have hd : (⟨#[48, 49, 50, 51, 52, 53, 54, 55, 56, 57, 65, 66, 67, 68, 69, 70]⟩ : ByteArray).size = 16 := rfl
  have he : (⟨#[48, 49, 50, 51, 52, 53, 54, 55, 56, 57, 97, 98, 99, 100, 101, 102]⟩ : ByteArray).size = 16 := rfl
  refine wpc_loop (ι := Int) (fun n => 0 ≤ n ∧ n ≤ 16 ∧ ∀ j, 0 ≤ j → j < n → ¬ (bt ⟨#[48, 49, 50, 51, 52, 53, 54, 55, 56, 57, 65, 66, 67, 68, 69, 70]⟩ j = c ∨ bt ⟨#[48, 49, 50, 51, 52, 53, 54, 55, 56, 57, 97, 98, 99, 100, 101, 102]⟩ j = c)) (fun n => (16 - n).toNat)
    (fun n => [(5, .int .i64 n), (0, .int .u8 c), (3, .string ⟨#[48, 49, 50, 51, 52, 53, 54, 55, 56, 57, 65, 66, 67, 68, 69, 70]⟩), (4, .string ⟨#[48, 49, 50, 51, 52, 53, 54, 55, 56, 57, 97, 98, 99, 100, 101, 102]⟩)]) (fun _ => H) (fun _ => []) ?_ 0 ⟨by omega, by omega, fun j h0 h1 => by omega⟩
  rintro n ⟨hn0, hn1, hn2⟩
  have found : n < 16 → (bt ⟨#[48, 49, 50, 51, 52, 53, 54, 55, 56, 57, 65, 66, 67, 68, 69, 70]⟩ n = c ∨ bt ⟨#[48, 49, 50, 51, 52, 53, 54, 55, 56, 57, 97, 98, 99, 100, 101, 102]⟩ n = c) → hexI c = n := by
    intro h1 h
    obtain ⟨e1, e2⟩ := hexTab' hn0 h1
    rw [e1, e2] at h
    unfold hexI
    by_cases h10 : n < 10
    · simp only [h10, if_true] at h
      rw [if_pos (by omega)]; omega
    · simp only [h10, if_false] at h
      rw [if_neg (by omega)]
      rcases h with h | h
      · rw [if_pos (by omega)]; omega
      · rw [if_neg (by omega), if_pos (by omega)]; omega
  have go : ∀ (h : ¬ (bt ⟨#[48, 49, 50, 51, 52, 53, 54, 55, 56, 57, 65, 66, 67, 68, 69, 70]⟩ n = c ∨ bt ⟨#[48, 49, 50, 51, 52, 53, 54, 55, 56, 57, 97, 98, 99, 100, 101, 102]⟩ n = c)) j, 0 ≤ j → j < n + 1 → ¬ (bt ⟨#[48, 49, 50, 51, 52, 53, 54, 55, 56, 57, 65, 66, 67, 68, 69, 70]⟩ j = c ∨ bt ⟨#[48, 49, 50, 51, 52, 53, 54, 55, 56, 57, 97, 98, 99, 100, 101, 102]⟩ j = c) := by
    intro h j h0 h1
    by_cases e : j = n
    · subst e; exact h
    · exact hn2 j h0 (by omega)
  repeat' (first | apply wpc_seq | apply wpe_seq | apply wpl_nil | apply wpc_region | (apply g_any; first | (apply gmv; refine smv rfl rfl ?_) | (apply gas; refine sas rfl rfl ?_) | (apply gbn; first | (apply gad; refine sad rfl rfl (by omega) (by omega) rfl ?_) | refine sbn rfl rfl ?_) | (apply gpk; refine spk rfl rfl ?_) | (apply gix; refine six rfl rfl (by omega) (by omega) rfl ?_) | (apply g_guard; first | refine wpl_wanted (wants_ff rfl rfl rfl) ?_ | refine wpl_skip (wants_ft rfl rfl rfl) rfl ?_ | (refine gsD rfl rfl rfl (fun hb => ?_) (fun hb => ?_) <;> (try (exfalso; first | (with_reducible exact absurd (by assumption) hb) | (with_reducible exact absurd hb (by assumption)) | omega))))) | (apply g_wpc; first | apply wpc_block | (apply g_cond; first | refine cdT rfl ?_ | (refine cdD rfl (fun hb => ?_) (fun hb => ?_) <;> (try (exfalso; first | (with_reducible exact absurd (by assumption) hb) | (with_reducible exact absurd hb (by assumption)) | omega)))) | apply wpc_skip | apply wpc_exit | apply wpc_ret) | (apply g_wpe; first | apply wpe_block | apply wpe_then_exit | apply wpe_block_eq | apply wpe_then_ret | apply wpe_block_ret | apply wpe_back_exit | apply wpe_back_ret))
  · refine end1 (by exact .tmp rfl .nil) ?_
    rw [found (by omega) (.inl hb)]
  · refine end1 (by exact .tmp rfl .nil) ?_
    rw [found (by omega) (.inr hb)]
  · rename_i h1
    exact wpe_back (n + 1) ⟨by omega, by omega, go (by rintro (h | h); exact h1 h; exact hb h)⟩ (by omega) ⟨rfl, rfl, rfl, rfl, trivial⟩ rfl (List.Sublist.refl _)
  · refine end1 (by exact .tmp rfl .nil) ?_
    have hn : n = 16 := by omega
    subst hn
    show _ = _
    refine int_eq ?_
    unfold hexI
    by_cases a : 48 ≤ c ∧ c ≤ 57
    · exfalso
      have := hexTab' (n := c - 48) (by omega) (by omega)
      rw [if_pos (by omega)] at this
      exact hn2 (c - 48) (by omega) (by omega) (.inl (by omega))
    · by_cases b : 65 ≤ c ∧ c ≤ 70
      · exfalso
        have := hexTab' (n := c - 55) (by omega) (by omega)
        rw [if_neg (by omega)] at this
        exact hn2 (c - 55) (by omega) (by omega) (.inl (by omega))
      · by_cases d : 97 ≤ c ∧ c ≤ 102
        · exfalso
          have := hexTab' (n := c - 87) (by omega) (by omega)
          rw [if_neg (by omega), if_neg (by omega)] at this
          exact hn2 (c - 87) (by omega) (by omega) (.inr (by omega))
        · rw [if_neg a, if_neg b, if_neg d]
theorem cut_two {t : ByteArray} {a b : UInt8} (h : 2 ≤ t.size) : cut t 0 2 = ⟨#[a, b]⟩ ↔ bt t 0 = a.toNat ∧ bt t 1 = b.toNat := by
  have hsz := cut_size (s := t) (i := 0) (j := 2) (by omega) (by omega) (by omega)
  have e0 := bt_cut (s := t) (i := 0) (j := 2) (k := 0) (by omega) (by omega) (by omega) (by omega)
  have e1 := bt_cut (s := t) (i := 0) (j := 2) (k := 1) (by omega) (by omega) (by omega) (by omega)
  rw [show (0 : Int) + 0 = 0 from rfl] at e0
  rw [show (0 : Int) + 1 = 1 from rfl] at e1
  constructor
  · intro he
    rw [he] at e0 e1
    exact ⟨e0.symm, e1.symm⟩
  · rintro ⟨h0, h1⟩
    refine bytes_ext (by show _ = 2; omega) fun k hk0 hk1 => ?_
    have : k = 0 ∨ k = 1 := by omega
    rcases this with rfl | rfl
    · rw [e0, h0]; rfl
    · rw [e1, h1]; rfl
theorem endsR_fn (s : ByteArray) (i : Int) (H : GH) (hs : s.size ≤ 140737488351232) : CtV Try.prog 61 [.string s, .int .i64 i] H (.int .i64 (endsI s i)) := by
  refine fn_intro Try.func61 rfl rfl (fun w => ?_)
  by_cases hi : 0 ≤ i ∧ i < s.size
  · have hsz := cut_size (s := s) (i := i) (j := s.size) hi.1 (by omega) (by omega)
    have e0 := bt_cut (s := s) (i := i) (j := s.size) (k := 0) (by omega) (by omega) (by omega) (by omega)
    rw [Int.add_zero] at e0
    repeat' (first | apply wpc_seq | apply wpe_seq | apply wpl_nil | apply wpc_region | (apply g_any; first | (apply gmv; refine smv rfl rfl ?_) | (apply gas; refine sas rfl rfl ?_) | (apply gbn; first | refine sbn rfl rfl ?_) | (apply gln; first | refine sls rfl rfl ?_) | (apply gcl; first | refine scl rfl (in_fn _ _ _ (by decide)) rfl ?_) | (apply gpk; refine spk rfl rfl ?_) | (apply gix; refine six rfl rfl (by omega) (by omega) rfl ?_) | (apply gsl; first | refine sca rfl rfl (by omega) (by omega) rfl ?_ | refine scb rfl rfl (by omega) (by omega) rfl ?_) | (apply g_guard; first | refine wpl_wanted (wants_tt rfl rfl rfl) ?_ | refine wpl_wanted (wants_ff rfl rfl rfl) ?_ | refine wpl_skip (wants_tf rfl rfl rfl) rfl ?_ | (refine gsD rfl rfl rfl (fun hb => ?_) (fun hb => ?_) <;> (try (exfalso; first | (with_reducible exact absurd (by assumption) hb) | (with_reducible exact absurd hb (by assumption)) | omega))))) | (apply g_wpc; first | (apply g_cond; first | refine cdF rfl ?_ | (refine cdD rfl (fun hb => ?_) (fun hb => ?_) <;> (try (exfalso; first | (with_reducible exact absurd (by assumption) hb) | (with_reducible exact absurd hb (by assumption)) | omega)))) | apply wpc_skip | apply wpc_ret) | (apply g_wpe; first | apply wpe_then_ret))
    all_goals (refine end1 (by exact .tmp rfl .nil) ?_; simp only [tupV, endsI, if_pos hi])
    · have e1 := bt_cut (s := s) (i := i) (j := s.size) (k := 1) (by omega) (by omega) (by omega) (by omega)
      rw [cut_two (by omega), e0, e1] at hb
      simp [hb]; omega
    · rename_i h1 h2
      have e1 := bt_cut (s := s) (i := i) (j := s.size) (k := 1) (by omega) (by omega) (by omega) (by omega)
      rw [cut_two (by omega), e0, e1] at h2
      simp [inL, e0] at hb h2
      refine int_eq ?_
      (repeat' split) <;> omega
    · rename_i h1 h2
      have e1 := bt_cut (s := s) (i := i) (j := s.size) (k := 1) (by omega) (by omega) (by omega) (by omega)
      simp [inL, e0] at hb
      refine int_eq ?_
      (repeat' split) <;> omega
    · simp [inL, e0] at hb
      refine int_eq ?_
      (repeat' split) <;> omega
    · simp [inL, e0] at hb
      refine int_eq ?_
      (repeat' split) <;> omega
  · repeat' (first | apply wpc_seq | apply wpe_seq | apply wpl_nil | apply wpc_region | (apply g_any; first | (apply gmv; refine smv rfl rfl ?_) | (apply gas; refine sas rfl rfl ?_) | (apply gbn; first | refine sbn rfl rfl ?_) | (apply gln; first | refine sls rfl rfl ?_) | (apply gpk; refine spk rfl rfl ?_) | (apply g_guard; first | refine wpl_wanted (wants_ff rfl rfl rfl) ?_ | refine wpl_skip (wants_ft rfl rfl rfl) rfl ?_ | (refine gsD rfl rfl rfl (fun hb => ?_) (fun hb => ?_) <;> (try (exfalso; first | (with_reducible exact absurd (by assumption) hb) | (with_reducible exact absurd hb (by assumption)) | omega))))) | (apply g_wpc; first | (apply g_cond; first | refine cdT rfl ?_ | (refine cdD rfl (fun hb => ?_) (fun hb => ?_) <;> (try (exfalso; first | (with_reducible exact absurd (by assumption) hb) | (with_reducible exact absurd hb (by assumption)) | omega)))) | apply wpc_ret) | (apply g_wpe; first | apply wpe_then_ret))
    all_goals (refine end1 (by exact .tmp rfl .nil) ?_; simp only [tupV, endsI, if_neg hi])
theorem spanR_fn (s : ByteArray) (k i : Int) (H : GH) (hs : s.size ≤ 140737488351232) (g c : Nat) (hc : CellsAt H g 0 [.int .i64 k]) : CtV Try.prog 64 [.string s, .int .i64 i, .slice (some ⟨g, 0, none⟩) 1 c] H (.int .i64 (spanI s k i)) := by
  refine fn_intro Try.func64 rfl rfl (fun w => ?_)
  by_cases hi : 0 ≤ i
  case neg =>
    repeat' (first | apply wpc_seq | apply wpe_seq | apply wpl_nil | apply wpc_region | (apply g_any; first | (apply gmv; refine smv rfl rfl ?_) | (apply gas; refine sas rfl rfl ?_) | (apply gbn; first | refine sbn rfl rfl ?_)) | (apply g_wpc; first | (apply g_cond; first | (refine cdD rfl (fun hb => ?_) (fun hb => ?_) <;> (try (exfalso; first | (with_reducible exact absurd (by assumption) hb) | (with_reducible exact absurd hb (by assumption)) | omega)))) | apply wpc_ret) | (apply g_wpe; first | apply wpe_then_ret))
    refine end1 (by exact .tmp rfl .nil) ?_
    simp only [spanI, if_neg (show ¬ (0 ≤ i ∧ i < s.size) by omega)]
  repeat' (first | apply wpc_seq | apply wpe_seq | apply wpl_nil | apply wpc_region | (apply g_any; first | (apply gmv; refine smv rfl rfl ?_) | (apply gas; refine sas rfl rfl ?_) | (apply gbn; first | refine sbn rfl rfl ?_)) | (apply g_wpc; first | apply wpc_block | (apply g_cond; first | (refine cdD rfl (fun hb => ?_) (fun hb => ?_) <;> (try (exfalso; first | (with_reducible exact absurd (by assumption) hb) | (with_reducible exact absurd hb (by assumption)) | omega)))) | apply wpc_skip))
  refine wpc_less (l' := [(7, .int .i64 0), (8, .int .i64 i), (0, .string s), (2, .slice (some ⟨g, 0, none⟩) 1 c)]) ⟨rfl, rfl, rfl, rfl, trivial⟩ (List.Sublist.refl _) ?_
  refine wpc_loop (ι := Int × Int) (fun x => 0 ≤ x.1 ∧ x.2 = i + x.1 ∧ (x.2 ≤ s.size ∨ x.1 = 0) ∧ spanI s k i = x.1 + spanN s k (s.size - x.2).toNat x.2) (fun x => (s.size - x.2).toNat)
    (fun x => [(7, .int .i64 x.1), (8, .int .i64 x.2), (0, .string s), (2, .slice (some ⟨g, 0, none⟩) 1 c)]) (fun _ => H) (fun _ => []) ?_ (0, i) ⟨by omega, by simp, .inr rfl, ?_⟩
  case refine_2 =>
    by_cases h : i < s.size
    · simp [spanI, hi, h]
    · simp [spanI, h, show (s.size - i).toNat = 0 by omega, spanN]
  rintro ⟨n, j⟩ ⟨hn0, hj, hn1, hn2⟩
  simp only at hn0 hj hn1 hn2
  repeat' (first | apply wpc_seq | apply wpe_seq | apply wpl_nil | apply wpc_region | (apply g_any; first | (apply gmv; refine smv rfl rfl ?_) | (apply gas; refine sas rfl rfl ?_) | (apply gbn; first | refine sbn rfl rfl ?_) | (apply gln; first | refine sls rfl rfl ?_)) | (apply g_wpc; first | apply wpc_block | (apply g_cond; first | (refine cdD rfl (fun hb => ?_) (fun hb => ?_) <;> (try (exfalso; first | (with_reducible exact absurd (by assumption) hb) | (with_reducible exact absurd hb (by assumption)) | omega)))) | apply wpc_skip | apply wpc_exit | apply wpc_ret) | (apply g_wpe; first | apply wpe_then_exit | apply wpe_block_eq | apply wpe_back_exit))
  · rename_i hlt
    obtain ⟨m, hm⟩ : ∃ m, (s.size - j).toNat = m + 1 := ⟨(s.size - j).toNat - 1, by omega⟩
    have hn3 : spanI s k i = if kindI (bt s j) = k then (n + 1) + spanN s k m (j + 1) else n := by
      rw [hn2, hm, spanN]; split <;> omega
    refine wpc_less (l' := [(9, .bool false), (10, .int .i64 0), (7, .int .i64 n), (8, .int .i64 j), (0, .string s), (2, .slice (some ⟨g, 0, none⟩) 1 c)]) ⟨rfl, rfl, rfl, rfl, rfl, rfl, trivial⟩ (List.Sublist.refl _) ?_
    refine wpc_loop (ι := Bool × Int) (fun x => x = (false, 0) ∨ x.2 = 1 ∧ x.1 = tst (decide (kindI (bt s j) = k))) (fun x => (2 - x.2).toNat)
      (fun x => [(9, .bool x.1), (10, .int .i64 x.2), (7, .int .i64 n), (8, .int .i64 j), (0, .string s), (2, .slice (some ⟨g, 0, none⟩) 1 c)]) (fun _ => H) (fun _ => []) ?_ (false, 0) (.inl rfl)
    rintro ⟨b, t⟩ (h | ⟨h1, h2⟩)
    · simp only [Prod.mk.injEq] at h
      obtain ⟨rfl, rfl⟩ := h
      repeat' (first | apply wpc_seq | apply wpe_seq | apply wpl_nil | apply wpc_region | (apply g_any; first | (apply gmv; refine smv rfl rfl ?_) | (apply gas; refine sas rfl rfl ?_) | (apply gbn; first | (apply gad; refine sad rfl rfl (by omega) (by omega) rfl ?_) | refine sbn rfl rfl ?_) | (apply gln; first | refine slm rfl rfl ?_)) | (apply g_wpc; first | apply wpc_block | (apply g_cond; first | (refine cdD rfl (fun hb => ?_) (fun hb => ?_) <;> (try (exfalso; first | (with_reducible exact absurd (by assumption) hb) | (with_reducible exact absurd hb (by assumption)) | omega)))) | apply wpc_skip | (apply g_draw; refine wpc_quiet mixed (by kernel_rfl) ?_)) | (apply g_wpe; first | apply wpe_block) | apply wpq_nil | (apply gq_any; first | refine qlh hc rfl rfl rfl rfl rfl ?_ | (apply kmv; refine qmv rfl rfl ?_) | (apply kas; refine qas rfl rfl ?_) | (apply kbn; first | refine qbn rfl rfl ?_) | (apply kcl; first | refine qcl rfl (kindR_fn _ _) rfl ?_) | (apply kpk; refine qpk rfl rfl ?_) | (apply kix; refine qix rfl rfl (by omega) (by omega) rfl ?_) | (apply kia; refine qia rfl rfl (by omega) (by omega) rfl ?_) | (apply gq_guard; first | refine wpq_wanted (wants_ff rfl rfl rfl) ?_)))
      exact wpe_back (tst (decide (kindI (bt s j) = k)), 1) (.inr ⟨rfl, rfl⟩) (by simp) ⟨rfl, rfl, rfl, rfl, rfl, rfl, trivial⟩ rfl (List.Sublist.refl _)
    · simp only at h1 h2
      subst h1 h2
      repeat' (first | apply wpc_seq | apply wpe_seq | apply wpl_nil | apply wpc_region | (apply g_any; first | (apply gmv; refine smv rfl rfl ?_) | (apply gas; refine sas rfl rfl ?_) | (apply gbn; first | (apply gad; refine sad rfl rfl (by omega) (by omega) rfl ?_) | refine sbn rfl rfl ?_) | (apply gln; first | refine slm rfl rfl ?_) | (apply gun; refine sun rfl rfl ?_)) | (apply g_wpc; first | (apply g_cond; first | (refine cdD rfl (fun hb => ?_) (fun hb => ?_) <;> (try (exfalso; first | (with_reducible exact absurd (by assumption) hb) | (with_reducible exact absurd hb (by assumption)) | omega))) | (refine cdN rfl (fun hb => ?_) (fun hb => ?_) <;> (try (exfalso; first | (with_reducible exact absurd (by assumption) hb) | (with_reducible exact absurd hb (by assumption)) | omega)))) | apply wpc_skip | apply wpc_exit | apply wpc_ret) | (apply g_wpe; first | apply wpe_block | apply wpe_then_exit | apply wpe_block_eq | apply wpe_then_ret | apply wpe_block_ret | apply wpe_back_exit | apply wpe_back_ret))
      · refine end1 (by exact .tmp rfl .nil) ?_
        rw [hn3, if_neg hb]
      · refine wpe_back (n + 1, j + 1) ⟨by omega, by simp; omega, by simp; omega, ?_⟩ (by simp; omega) ⟨rfl, rfl, rfl, rfl, trivial⟩ rfl (List.Sublist.refl _)
        rw [hn3, if_pos hb]
        simp only
        rw [show (s.size - (j + 1)).toNat = m by omega]
  · refine end1 (by exact .tmp rfl .nil) ?_
    rw [hn2, show (s.size - j).toNat = 0 by omega]
    simp [spanN]
end Go.Proofs.Ytgjhbambdnpcmaa
