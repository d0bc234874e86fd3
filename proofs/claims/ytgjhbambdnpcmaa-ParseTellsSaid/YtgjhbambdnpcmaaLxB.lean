/- Proved on the way: Contracts: digits and numbers (the program's digits, the reference's second layer). Contracts: numbers with a sign, and the reference's counting and numbers. -/
import Derived.Test.YtgjhbambdnpcmaaLxA
import Derived.Test.YtgjhbambdnpcmaaGoC
set_option linter.unusedVariables false
set_option linter.unusedSimpArgs false
namespace Go.Proofs.Ytgjhbambdnpcmaa
open Go Go.Eng
/-! ### what they come to -/
def dig (c : Int) : Prop := 48 ≤ c ∧ c ≤ 57
instance (c : Int) : Decidable (dig c) := by unfold dig; infer_instance
def cntN (s : ByteArray) : Nat → Int → Int
  | 0, _ => 0
  | n + 1, i => if dig (bt s i) then 1 + cntN s n (i + 1) else 0
def cntI (s : ByteArray) : Int := cntN s s.size 0
theorem cntN_range (s : ByteArray) : ∀ (n : Nat) (i : Int), 0 ≤ cntN s n i ∧ cntN s n i ≤ n
  | 0, i => by simp [cntN]
  | n + 1, i => by
    have := cntN_range s n (i + 1)
    simp only [cntN]
    split <;> omega
/-- All are digits. -/
theorem cntN_all (s : ByteArray) : ∀ (n : Nat) (i : Int), cntN s n i = n → ∀ j, i ≤ j → j < i + n → dig (bt s j)
  | 0, i, _, j, h0, h1 => by omega
  | n + 1, i, h, j, h0, h1 => by
    have hr := cntN_range s n (i + 1)
    simp only [cntN] at h
    split at h
    · rename_i hd
      by_cases e : j = i
      · rw [e]; exact hd
      · exact cntN_all s n (i + 1) (by omega) j (by omega) (by omega)
    · omega
def fixN (s : ByteArray) : Nat → Int → Int → Option Int
  | 0, _, v => some v
  | n + 1, i, v => if 2147483647 < 10 * v + (bt s i - 48) then none else fixN s n (i + 1) (10 * v + (bt s i - 48))
def fixI (s : ByteArray) : Int × Int := if s.size = 0 ∨ ¬ cntI s = s.size then (0, 4) else match fixN s s.size 0 0 with
  | some v => (v, 0)
  | none => (0, 3)
def looseI (s : ByteArray) : Int × Int := if 0 < s.size ∧ (bt s 0 = 43 ∨ bt s 0 = 45) then (if bt s 0 = 45 then (0 - (fixI (cut s 1 s.size)).1, (fixI (cut s 1 s.size)).2) else fixI (cut s 1 s.size)) else fixI s
theorem fixN_range (s : ByteArray) : ∀ (n : Nat) (i v r : Int), 0 ≤ v → v ≤ 2147483647 → (∀ j, i ≤ j → j < i + n → dig (bt s j)) → fixN s n i v = some r → 0 ≤ r ∧ r ≤ 2147483647
  | 0, i, v, r, h0, h1, _, h => by simp [fixN] at h; omega
  | n + 1, i, v, r, h0, h1, hd, h => by
    have := hd i (by omega) (by omega)
    unfold dig at this
    simp only [fixN] at h
    split at h
    · cases h
    · exact fixN_range s n (i + 1) _ r (by omega) (by omega) (fun j h0 h1 => hd j (by omega) (by omega)) h
theorem fixI_range (s : ByteArray) : 0 ≤ (fixI s).1 ∧ (fixI s).1 ≤ 2147483647 := by
  unfold fixI
  split
  · simp
  · rename_i h
    simp only [not_or, Decidable.not_not] at h
    cases e : fixN s s.size 0 0 with
    | none => simp
    | some v => exact fixN_range s s.size 0 0 v (by omega) (by omega) (fun j h0 h1 => cntN_all s s.size 0 h.2 j h0 h1) e
/-! ### the program -/
theorem digit_fn (c : Int) (H : GH) : CtV Try.prog 90 [.int .i32 c] H (.bool (tst (decide (dig c)))) := by
  refine fn_intro Try.func90 rfl rfl (fun w => ?_)
  repeat' (first | apply wpc_seq | apply wpe_seq | apply wpl_nil | apply wpc_region | (apply g_any; first | (apply gmv; refine smv rfl rfl ?_) | (apply gas; refine sas rfl rfl ?_) | (apply gbn; first | refine sbn rfl rfl ?_) | (apply gpk; refine spk rfl rfl ?_) | (apply g_guard; first | refine wpl_wanted (wants_tt rfl rfl rfl) ?_ | refine wpl_skip (wants_tf rfl rfl rfl) rfl ?_ | (refine gsD rfl rfl rfl (fun hb => ?_) (fun hb => ?_) <;> (try (exfalso; first | (with_reducible exact absurd (by assumption) hb) | (with_reducible exact absurd hb (by assumption)) | omega))))) | (apply g_wpc; first | apply wpc_ret))
  all_goals (refine end1 (by exact .tmp rfl .nil) ?_; simp [tst_eq, dig, *]; try omega)
theorem decode_small (s : ByteArray) (p : Nat) (h : p < s.size) (hb : bt s p < 128) : Utf8.decode s p = ((bt s p).toNat, 1) := by
  have e : (s.get! (p + 0)).toNat = (bt s p).toNat := by
    simp [bt, ByteArray.get!]
  unfold Utf8.decode
  have h1 := bt_range s p
  simp only [e]
  rw [if_pos (by omega)]
theorem decode_great (s : ByteArray) (p : Nat) (h : p < s.size) (hb : 128 ≤ bt s p) : 128 ≤ (Utf8.decode s p).1 := by
  have e : (s.get! (p + 0)).toNat = (bt s p).toNat := by
    simp [bt, ByteArray.get!]
  have h1 := bt_range s p
  unfold Utf8.decode
  simp only [e]
  rw [if_neg (by omega)]
  (repeat' split) <;> simp_all [Utf8.runeError] <;> omega
theorem count_fn (s : ByteArray) (H : GH) (hs : s.size ≤ 140737488351232) : CtV Try.prog 86 [.string s] H (.int .i64 (cntI s)) := by
  refine fn_intro Try.func86 rfl rfl (fun w => ?_)
  repeat' (first | apply wpc_seq | apply wpe_seq | apply wpl_nil | apply wpc_region | (apply g_any; first | refine srs rfl rfl (fun g => ?_) | (apply gmv; refine smv rfl rfl ?_) | (apply gas; refine sas rfl rfl ?_)) | (apply g_wpc; first | apply wpc_block))
  refine wpc_less (l' := [(6, .pointer (some ⟨g, 0, none⟩)), (0, .string s)]) ⟨rfl, rfl, trivial⟩ (List.Sublist.refl _) ?_
  refine wpc_loop (ι := Nat) (fun n => n ≤ s.size ∧ cntI s = n + cntN s (s.size - n) n) (fun n => s.size - n)
    (fun n => [(6, .pointer (some ⟨g, 0, none⟩)), (0, .string s)]) (fun _ => H) (fun n => [.blk g (.stringIter s n)]) ?_ 0 ⟨by omega, by simp [cntI]⟩
  rintro n ⟨hn0, hn1⟩
  repeat' (first | apply wpc_seq | apply wpc_region)
  refine snx (L1 := []) rfl rfl rfl (fun hp => ?_) (fun hp => ?_)
  · refine wnL rfl ?_
    obtain ⟨m, hm⟩ : ∃ m, s.size - n = m + 1 := ⟨s.size - n - 1, by omega⟩
    rw [hm, cntN] at hn1
    have hbr := bt_range s n
    repeat' (first | apply wpc_seq | apply wpe_seq | apply wpl_nil | apply wpc_region | (apply g_any; first | (apply gmv; refine smv rfl rfl ?_) | (apply gas; refine sas rfl rfl ?_) | (apply gex; refine sex rfl rfl ?_) | (apply gcl; first | refine scl rfl (digit_fn _ _) rfl ?_) | (apply gun; refine sun rfl rfl ?_)) | (apply g_wpc; first | apply wpc_block | (apply g_cond; first | refine cdT rfl ?_ | (refine cdN rfl (fun hb => ?_) (fun hb => ?_) <;> (try (exfalso; first | (with_reducible exact absurd (by assumption) hb) | (with_reducible exact absurd hb (by assumption)) | omega)))) | apply wpc_skip | apply wpc_ret) | (apply g_wpe; first | apply wpe_block | apply wpe_then_ret | apply wpe_block_ret | apply wpe_back_ret))
    · -- no digit
      refine wpe_end (.inl rfl) (by exact .tmp rfl .nil) [] (List.nil_sublist _) (Grow.refl _ _) ?_
      rw [hn1, if_neg ?_]
      · simp [tupV]
      · intro hd
        unfold dig at hd
        rw [decode_small s n hp (by omega)] at hb
        apply hb
        simp only [dig]
        omega
    · have hd : dig (bt s n) := by
        by_cases h : bt s n < 128
        · rw [decode_small s n hp h] at hb
          unfold dig at hb ⊢
          simp only at hb
          omega
        · have := decode_great s n hp (by omega)
          unfold dig at hb
          omega
      have hw : (Utf8.decode s n).2 = 1 := by rw [decode_small s n hp (by unfold dig at hd; omega)]
      rw [if_pos hd] at hn1
      refine wpe_back (n + 1) ⟨by omega, ?_⟩ (by omega) ⟨rfl, rfl, trivial⟩ rfl ?_
      · rw [hn1, show s.size - (n + 1) = m by omega]
        push_cast
        omega
      · rw [hw]; exact List.Sublist.refl _
  · repeat' (first | apply wpc_seq | apply wpe_seq | apply wpl_nil | apply wpc_region | (apply g_any; first | (apply gmv; refine smv rfl rfl ?_) | (apply gas; refine sas rfl rfl ?_) | (apply gex; refine sex rfl rfl ?_) | (apply gln; first | refine sls rfl rfl ?_)) | (apply g_wpc; first | (apply g_cond; first | refine cdF rfl ?_) | apply wpc_exit | apply wpc_ret) | (apply g_wpe; first | apply wpe_then_exit | apply wpe_block_eq | apply wpe_back_exit))
    refine wpe_end (.inl rfl) (by exact .tmp rfl .nil) [] (List.nil_sublist _) (Grow.refl _ _) ?_
    rw [hn1, show s.size - n = 0 by omega]
    simp [tupV, cntN]
    omega
instance : ExtK Try.prog 97 Extern.BytealgIndexByte.indexByte := ⟨⟨_, Try.func97, by kernel_rfl, by kernel_rfl, by kernel_rfl, by kernel_rfl⟩⟩
theorem indexByte_fn (s : ByteArray) (c : Int) (H : GH) : CtV Try.prog 93 [.string s, .int .u8 c] H (.int .i64 (Lib.indexByte s.data.toList c.toNat.toUInt8)) := by
  refine fn_intro Try.func93 rfl rfl (fun w => ?_)
  repeat' (first | apply wpc_seq | apply wpe_seq | apply wpl_nil | apply wpc_region | (apply g_any; first | refine scle rfl (Lib.run_indexByteString s c) rfl ?_ | (apply gmv; refine smv rfl rfl ?_) | (apply gas; refine sas rfl rfl ?_)) | (apply g_wpc; first | apply wpc_ret))
  exact end1 (by exact .tmp rfl .nil) rfl
theorem index_self (t : ByteArray) (ht : t.size = 1) : Lib.indexByte t.data.toList (bt t 0).toNat.toUInt8 = 0 := by
  obtain ⟨⟨l⟩⟩ := t
  match l, ht with
  | [x], _ =>
    have : (bt (⟨#[x]⟩ : ByteArray) 0).toNat.toUInt8 = x := by
      simp [bt]
    rw [this]
    simp [Lib.indexByte]
/-- Only texts of one sign are looked for here. -/
theorem indexLite_fn (s : ByteArray) (t : ByteArray) (H : GH) (ht : t.size = 1) (hs : s.size ≤ 140737488351232) : CtV Try.prog 92 [.string s, .string t] H (.int .i64 (Lib.indexByte s.data.toList (bt t 0).toNat.toUInt8)) := by
  refine fn_intro Try.func92 rfl rfl (fun w => ?_)
  have hz : ((t.size : Int) = 0) = False := by simp [ht]
  have ho : ((t.size : Int) = 1) = True := by simp [ht]
  repeat' (first | apply wpc_seq | apply wpe_seq | apply wpl_nil | apply wpc_region | (apply g_any; first | (apply gmv; refine smv rfl rfl ?_) | (apply gas; refine sas rfl rfl ?_) | (apply gbn; first | refine sbn rfl rfl ?_) | (apply gln; first | refine sls rfl rfl ?_) | (apply gcl; first | refine scl rfl (indexByte_fn _ _ _) rfl ?_) | (apply gpk; refine spk rfl rfl ?_) | (apply gix; refine six rfl rfl (by omega) (by omega) rfl ?_) | (apply g_guard; first | refine wpl_wanted (wants_ff rfl rfl rfl) ?_ | (refine gsD rfl rfl rfl (fun hb => ?_) (fun hb => ?_) <;> (try (exfalso; first | (with_reducible exact absurd (by assumption) hb) | (with_reducible exact absurd hb (by assumption)) | omega))))) | (apply g_wpc; first | apply wpc_block | (apply g_cond; first | (refine cdD rfl (fun hb => ?_) (fun hb => ?_) <;> (try (exfalso; first | (with_reducible exact absurd (by assumption) hb) | (with_reducible exact absurd hb (by assumption)) | omega)))) | apply wpc_ret) | (apply g_wpe; first | apply wpe_then_ret | apply wpe_block_ret))
  · refine end1 (by exact .tmp rfl .nil) ?_
    rw [← hb, index_self t ht]
  · exact end1 (by exact .tmp rfl .nil) rfl
theorem index_fn (s : ByteArray) (t : ByteArray) (H : GH) (ht : t.size = 1) (hs : s.size ≤ 140737488351232) : CtV Try.prog 89 [.string s, .string t] H (.int .i64 (Lib.indexByte s.data.toList (bt t 0).toNat.toUInt8)) := by
  refine fn_intro Try.func89 rfl rfl (fun w => ?_)
  repeat' (first | apply wpc_seq | apply wpe_seq | apply wpl_nil | apply wpc_region | (apply g_any; first | (apply gmv; refine smv rfl rfl ?_) | (apply gas; refine sas rfl rfl ?_) | (apply gcl; first | refine scl rfl (indexLite_fn _ _ _ ht hs) rfl ?_)) | (apply g_wpc; first | apply wpc_ret))
  exact end1 (by exact .tmp rfl .nil) rfl
theorem contains_fn (s : ByteArray) (t : ByteArray) (H : GH) (ht : t.size = 1) (hs : s.size ≤ 140737488351232) : CtV Try.prog 85 [.string s, .string t] H (.bool (tst (decide (0 ≤ Lib.indexByte s.data.toList (bt t 0).toNat.toUInt8)))) := by
  refine fn_intro Try.func85 rfl rfl (fun w => ?_)
  repeat' (first | apply wpc_seq | apply wpe_seq | apply wpl_nil | apply wpc_region | (apply g_any; first | (apply gmv; refine smv rfl rfl ?_) | (apply gas; refine sas rfl rfl ?_) | (apply gbn; first | refine sbn rfl rfl ?_) | (apply gcl; first | refine scl rfl (index_fn _ _ _ ht hs) rfl ?_)) | (apply g_wpc; first | apply wpc_ret))
  exact end1 (by exact .tmp rfl .nil) rfl
theorem signs_at (c : Int) (h0 : 0 ≤ c) (h1 : c ≤ 255) : 0 ≤ Lib.indexByte (⟨#[43, 45]⟩ : ByteArray).data.toList c.toNat.toUInt8 ↔ c = 43 ∨ c = 45 := by
  obtain ⟨n, rfl⟩ := Int.eq_ofNat_of_zero_le h0
  have key : ∀ n : Fin 256, (0 ≤ Lib.indexByte [43, 45] n.val.toUInt8 ↔ n.val = 43 ∨ n.val = 45) := by decide +kernel
  have := key ⟨n, by omega⟩
  simp only [Int.toNat_natCast] at this ⊢
  rw [this]
  omega
theorem signed_fn (s : ByteArray) (H : GH) (hs : s.size ≤ 140737488351232) : CtV Try.prog 81 [.string s, .string ⟨#[43, 45]⟩] H
    (if 0 < s.size ∧ (bt s 0 = 43 ∨ bt s 0 = 45) then .tuple #[.bool (tst (decide (bt s 0 = 45))), .string (cut s 1 s.size)] else .tuple #[.bool false, .string s]) := by
  refine fn_intro Try.func81 rfl rfl (fun w => ?_)
  by_cases hz : s.size = 0
  · have he : s = ⟨#[]⟩ := bytes_ext (by rw [hz]; rfl) fun k h0 h1 => by omega
    repeat' (first | apply wpc_seq | apply wpe_seq | apply wpl_nil | apply wpc_region | (apply g_any; first | (apply gmv; refine smv rfl rfl ?_) | (apply gas; refine sas rfl rfl ?_) | (apply gbn; first | refine sbn rfl rfl ?_) | (apply gpk; refine spk rfl rfl ?_) | (apply g_guard; first | refine wpl_skip (wants_ft rfl rfl rfl) rfl ?_ | (refine gsD rfl rfl rfl (fun hb => ?_) (fun hb => ?_) <;> (try (exfalso; first | (with_reducible exact absurd (by assumption) hb) | (with_reducible exact absurd hb (by assumption)) | omega))))) | (apply g_wpc; first | (apply g_cond; first | refine cdT rfl ?_) | apply wpc_ret) | (apply g_wpe; first | apply wpe_then_ret))
    · refine end2 (by exact .tmp rfl (.tmp rfl .nil)) ?_
      rw [if_neg (by omega)]
    all_goals (exfalso; first | exact hb he | skip)
  · have hbr := bt_range s 0
    have hc0 : bt (cut s 0 1) 0 = bt s 0 := bt_cut (by omega) (by omega) (by omega) (by omega)
    have hcs := cut_size (s := s) (i := 0) (j := 1) (by omega) (by omega) (by omega)
    have hct : (cut s 0 1).size = 1 := by omega
    repeat' (first | apply wpc_seq | apply wpe_seq | apply wpl_nil | apply wpc_region | (apply g_any; first | (apply gmv; refine smv rfl rfl ?_) | (apply gas; refine sas rfl rfl ?_) | (apply gbn; first | refine sbn rfl rfl ?_) | (apply gcl; first | refine scl rfl (contains_fn _ _ _ hct (by decide)) rfl ?_) | (apply gpk; refine spk rfl rfl ?_) | (apply gun; refine sun rfl rfl ?_) | (apply gsl; first | refine scb rfl rfl (by omega) (by omega) rfl ?_) | (apply g_guard; first | refine wpl_wanted (wants_ff rfl rfl rfl) ?_ | refine wpl_skip (wants_ft rfl rfl rfl) rfl ?_ | (refine gsD rfl rfl rfl (fun hb => ?_) (fun hb => ?_) <;> (try (exfalso; first | (with_reducible exact absurd (by assumption) hb) | (with_reducible exact absurd hb (by assumption)) | omega))))) | (apply g_wpc; first | (apply g_cond; first | refine cdT rfl ?_ | (refine cdN rfl (fun hb => ?_) (fun hb => ?_) <;> (try (exfalso; first | (with_reducible exact absurd (by assumption) hb) | (with_reducible exact absurd hb (by assumption)) | omega)))) | apply wpc_skip | apply wpc_ret | (apply g_draw; refine wpc_quiet mixed (by kernel_rfl) ?_)) | (apply g_wpe; first | apply wpe_then_ret) | apply wpq_nil | (apply gq_any; first | (apply kmv; refine qmv rfl rfl ?_) | (apply kas; refine qas rfl rfl ?_) | (apply kbn; first | refine qbn rfl rfl ?_) | (apply kix; refine qix rfl rfl (by omega) (by omega) rfl ?_) | (apply ksl; first | refine qca rfl rfl (by omega) (by omega) rfl ?_)))
    · exfalso; rw [hb] at hz; exact hz rfl
    · rw [hc0] at hb
      have := mt (signs_at (bt s 0) hbr.1 hbr.2).2 hb
      refine end2 (by exact .tmp rfl (.tmp rfl .nil)) ?_
      rw [if_neg (fun h => this h.2)]
    · rw [hc0] at hb
      have := (signs_at (bt s 0) hbr.1 hbr.2).1 hb
      refine end2 (by exact .tmp rfl (.tmp rfl .nil)) ?_
      rw [if_pos ⟨by omega, this⟩]

theorem taker_fn (s : ByteArray) (H : GH) : CtL Try.prog 87 [.string s] H [] (fun r L' => ∃ g1 g2, r = .func (.func 91) #[] #[.pointer (some ⟨g1, 0, none⟩), .pointer (some ⟨g2, 0, none⟩)] ∧ L' = [.blk g1 (.cells #[.int .i64 0] 3 (0, 0)), .blk g2 (.cells #[.string s] 9 (0, 0))]) := by
  refine fn_intro Try.func87 rfl rfl (fun w => ?_)
  repeat' (first | apply wpc_seq | apply wpe_seq | apply wpl_nil | apply wpc_region | (apply g_any; first | (apply gas; refine sas rfl rfl ?_) | (apply gst; refine sst rfl rfl (by exact rfl) (by exact rfl) (by exact rfl) (by exact rfl) ?_) | (apply gal; refine sal rfl (fun _ => ?_)) | (apply gbx; refine sbx rfl rfl rfl (fun _ => ?_)) | (apply gmf; refine smf rfl rfl rfl ?_)) | (apply g_wpc; first | apply wpc_ret))
  rename_i g2 g1
  exact wpe_end (.inl rfl) (by exact .tmp rfl .nil) [.blk g1 (.cells #[.int .i64 0] 3 (0, 0)), .blk g2 (.cells #[.string s] 9 (0, 0))] (List.Sublist.refl _) (Grow.refl _ _) ⟨g1, g2, rfl, rfl⟩
theorem take_fn (s : ByteArray) (i : Int) (g1 g2 : Nat) (H : GH) (h0 : 0 ≤ i) (h1 : i ≤ s.size) (hs : s.size ≤ 140737488351232) : CtL Try.prog 91 [.pointer (some ⟨g1, 0, none⟩), .pointer (some ⟨g2, 0, none⟩)] H [.blk g1 (.cells #[.int .i64 i] 3 (0, 0)), .blk g2 (.cells #[.string s] 9 (0, 0))]
    (fun r L' => (i < s.size ∧ dig (bt s i) ∧ r = .int .i64 (bt s i - 48) ∧ L' = [.blk g1 (.cells #[.int .i64 (i + 1)] 3 (0, 0)), .blk g2 (.cells #[.string s] 9 (0, 0))]) ∨ (¬ (i < s.size ∧ dig (bt s i)) ∧ r = .int .i64 (-1) ∧ L' = [.blk g1 (.cells #[.int .i64 i] 3 (0, 0)), .blk g2 (.cells #[.string s] 9 (0, 0))])) := by
  refine fn_intro Try.func91 rfl rfl (fun w => ?_)
  have hbr := bt_range s i
  have e32 : ∀ x : Int, 0 ≤ x → x ≤ 255 → IntKind.i32.wrap x = x := by
    intro x h0 h1
    have e1 : (2 : Int) ^ IntKind.i32.bits = 4294967296 := by decide
    have e2 : (2 : Int) ^ (IntKind.i32.bits - 1) = 2147483648 := by decide
    unfold IntKind.wrap
    rw [e1, e2]
    simp only [IntKind.signed, Bool.true_and, decide_eq_true_eq, ge_iff_le]
    split <;> omega
  repeat' (first | apply wpc_seq | apply wpe_seq | apply wpl_nil | apply wpc_region | (apply g_any; first | (apply gmv; refine smv rfl rfl ?_) | (apply gas; refine sas rfl rfl ?_) | (apply gld; refine sld rfl (by exact rfl) (by exact rfl) rfl ?_) | (apply gst; refine sst rfl rfl (by exact rfl) (by exact rfl) (by exact rfl) (by exact rfl) ?_) | (apply gbn; first | (apply gad; refine sad rfl rfl (by omega) (by omega) rfl ?_) | (apply gsb; refine ssb rfl rfl (by omega) (by omega) rfl ?_) | refine sbn rfl rfl ?_) | (apply gln; first | refine sls rfl rfl ?_) | (apply gcl; first | refine scl rfl (digit_fn _ _) rfl ?_) | (apply gpk; refine spk rfl rfl ?_) | (apply gun; refine sun rfl rfl ?_) | (apply gix; refine six rfl rfl (by omega) (by omega) rfl ?_) | (apply gcv; first | refine scv rfl rfl ?_) | (apply g_guard; first | refine wpl_wanted (wants_ff rfl rfl rfl) ?_ | refine wpl_skip (wants_ft rfl rfl rfl) rfl ?_ | (refine gsD rfl rfl rfl (fun hb => ?_) (fun hb => ?_) <;> (try (exfalso; first | (with_reducible exact absurd (by assumption) hb) | (with_reducible exact absurd hb (by assumption)) | omega))))) | (apply g_wpc; first | (apply g_cond; first | refine cdT rfl ?_ | (refine cdN rfl (fun hb => ?_) (fun hb => ?_) <;> (try (exfalso; first | (with_reducible exact absurd (by assumption) hb) | (with_reducible exact absurd hb (by assumption)) | omega)))) | apply wpc_skip | apply wpc_ret) | (apply g_wpe; first | apply wpe_then_ret))
  · exact wpe_end (.inl rfl) (by exact .tmp rfl .nil) [.blk g1 (.cells #[.int .i64 i] 3 (0, 0)), .blk g2 (.cells #[.string s] 9 (0, 0))] (List.Sublist.refl _) (Grow.refl _ _) (.inr ⟨by omega, rfl, rfl⟩)
  · rw [e32 _ hbr.1 hbr.2] at hb
    exact wpe_end (.inl rfl) (by exact .tmp rfl .nil) [.blk g1 (.cells #[.int .i64 i] 3 (0, 0)), .blk g2 (.cells #[.string s] 9 (0, 0))] (List.Sublist.refl _) (Grow.refl _ _) (.inr ⟨fun h => hb h.2, rfl, rfl⟩)
  · rw [e32 _ hbr.1 hbr.2] at hb
    refine wpe_end (.inl rfl) (by exact .tmp rfl .nil) [.blk g1 (.cells #[.int .i64 (i + 1)] 3 (0, 0)), .blk g2 (.cells #[.string s] 9 (0, 0))] (List.Sublist.refl _) (Grow.refl _ _) (.inl ⟨by omega, hb, ?_, rfl⟩)
    refine int_eq ?_
    unfold dig at hb
    rw [show i + 1 - 1 = i by omega]
    simp only [w64, w8]
    omega
theorem wrap_mul {v : Int} (h0 : 0 ≤ v) (h1 : v ≤ 2147483647) : IntKind.i64.wrap (10 * v) = 10 * v := wrap_in (by omega) (by omega)
theorem fixed_fn (s : ByteArray) (H : GH) (hs : s.size ≤ 140737488351232) : CtV Try.prog 82 [.string s] H (.tuple #[.int .i64 (fixI s).1, .int .i64 (fixI s).2]) := by
  refine fn_intro Try.func82 rfl rfl (fun w => ?_)
  by_cases hz : s.size = 0
  · have he : s = ⟨#[]⟩ := bytes_ext (by rw [hz]; rfl) fun k h0 h1 => by omega
    repeat' (first | apply wpc_seq | apply wpe_seq | apply wpl_nil | apply wpc_region | (apply g_any; first | (apply gmv; refine smv rfl rfl ?_) | (apply gas; refine sas rfl rfl ?_) | (apply gbn; first | refine sbn rfl rfl ?_) | (apply gpk; refine spk rfl rfl ?_) | (apply g_guard; first | refine wpl_skip (wants_ft rfl rfl rfl) rfl ?_ | (refine gsD rfl rfl rfl (fun hb => ?_) (fun hb => ?_) <;> (try (exfalso; first | (with_reducible exact absurd (by assumption) hb) | (with_reducible exact absurd hb (by assumption)) | omega))))) | (apply g_wpc; first | (apply g_cond; first | refine cdT rfl ?_) | apply wpc_ret) | (apply g_wpe; first | apply wpe_then_ret))
    · refine end2 (by exact .tmp rfl (.tmp rfl .nil)) ?_
      simp [fixI, hz]
  have hne : ¬ s = ⟨#[]⟩ := fun h => hz (by rw [h]; rfl)
  by_cases hc : cntI s = s.size
  case neg =>
    repeat' (first | apply wpc_seq | apply wpe_seq | apply wpl_nil | apply wpc_region | (apply g_any; first | (apply gmv; refine smv rfl rfl ?_) | (apply gas; refine sas rfl rfl ?_) | (apply gbn; first | refine sbn rfl rfl ?_) | (apply gln; first | refine sls rfl rfl ?_) | (apply gcl; first | refine scl rfl (count_fn _ _ hs) rfl ?_) | (apply gpk; refine spk rfl rfl ?_) | (apply g_guard; first | refine wpl_wanted (wants_ff rfl rfl rfl) ?_ | (refine gsD rfl rfl rfl (fun hb => ?_) (fun hb => ?_) <;> (try (exfalso; first | (with_reducible exact absurd (by assumption) hb) | (with_reducible exact absurd hb (by assumption)) | omega))))) | (apply g_wpc; first | (apply g_cond; first | (refine cdD rfl (fun hb => ?_) (fun hb => ?_) <;> (try (exfalso; first | (with_reducible exact absurd (by assumption) hb) | (with_reducible exact absurd hb (by assumption)) | omega)))) | apply wpc_ret) | (apply g_wpe; first | apply wpe_then_ret))
    · refine end2 (by exact .tmp rfl (.tmp rfl .nil)) ?_
      simp [fixI, hz, hc]
  have hall := cntN_all s s.size 0 hc
  repeat' (first | apply wpc_seq | apply wpe_seq | apply wpl_nil | apply wpc_region | (apply g_any; first | (apply gmv; refine smv rfl rfl ?_) | (apply gas; refine sas rfl rfl ?_) | (apply gbn; first | refine sbn rfl rfl ?_) | (apply gln; first | refine sls rfl rfl ?_) | (apply gcl; first | refine scl rfl (count_fn _ _ hs) rfl ?_) | (apply gpk; refine spk rfl rfl ?_) | (apply g_guard; first | refine wpl_wanted (wants_ff rfl rfl rfl) ?_ | (refine gsD rfl rfl rfl (fun hb => ?_) (fun hb => ?_) <;> (try (exfalso; first | (with_reducible exact absurd (by assumption) hb) | (with_reducible exact absurd hb (by assumption)) | omega))))) | (apply g_wpc; first | (apply g_cond; first | (refine cdD rfl (fun hb => ?_) (fun hb => ?_) <;> (try (exfalso; first | (with_reducible exact absurd (by assumption) hb) | (with_reducible exact absurd hb (by assumption)) | omega)))) | apply wpc_skip))
  refine scq 0 rfl rfl (taker_fn s _) rfl rfl (fun r Lq hX => ?_)
  obtain ⟨g1, g2, rfl, rfl⟩ := hX
  refine wnL rfl ?_
  repeat' (first | apply wpc_seq | apply wpe_seq | apply wpl_nil | apply wpc_region | (apply g_any; first | (apply gmv; refine smv rfl rfl ?_) | (apply gas; refine sas rfl rfl ?_)))
  refine scq 0 rfl rfl (take_fn s 0 g1 g2 _ (by omega) (by omega) hs) rfl rfl (fun r Lq hX => ?_)
  have h0 : dig (bt s 0) := hall 0 (by omega) (by omega)
  rcases hX with ⟨_, _, rfl, rfl⟩ | ⟨h, _⟩
  case inr => exact absurd ⟨by omega, h0⟩ h
  refine wnL rfl ?_
  repeat' (first | apply wpe_seq | apply wpl_nil | (apply g_any; first | (apply gas; refine sas rfl rfl ?_)) | (apply g_wpc; first | apply wpc_block))
  -- n digits are read, the next one is at hand, or there is none
  refine wpc_less (l' := [(5, .int .i64 0), (6, .int .i64 (bt s 0 - 48)), (4, .func (.func 91) #[] #[.pointer (some ⟨g1, 0, none⟩), .pointer (some ⟨g2, 0, none⟩)])]) ⟨rfl, rfl, rfl, trivial⟩ (List.Sublist.refl _) ?_
  refine wpc_loop (ι := Int × Int × Int × Int) (fun x => 0 ≤ x.1 ∧ x.1 ≤ s.size ∧ 0 ≤ x.2.1 ∧ x.2.1 ≤ 2147483647 ∧ fixN s s.size 0 0 = fixN s (s.size - x.1).toNat x.1 x.2.1 ∧ (x.1 < s.size ∧ x.2.2.1 = bt s x.1 - 48 ∧ x.2.2.2 = x.1 + 1 ∨ x.1 = s.size ∧ x.2.2.1 = -1 ∧ x.2.2.2 = s.size)) (fun x => (s.size - x.1).toNat)
    (fun x => [(5, .int .i64 x.2.1), (6, .int .i64 x.2.2.1), (4, .func (.func 91) #[] #[.pointer (some ⟨g1, 0, none⟩), .pointer (some ⟨g2, 0, none⟩)])]) (fun _ => H) (fun x => [.blk g1 (.cells #[.int .i64 x.2.2.2] 3 (0, 0)), .blk g2 (.cells #[.string s] 9 (0, 0))]) ?_ (0, 0, bt s 0 - 48, 0 + 1) ⟨by simp, by simp, by simp, by simp, by simp, .inl ⟨by simp; omega, rfl, rfl⟩⟩
  rintro ⟨i, v, t, j⟩ ⟨hi0, hi1, hv0, hv1, hf, hx⟩
  simp only at hi0 hi1 hv0 hv1 hf hx
  rcases hx with ⟨hlt, rfl, rfl⟩ | ⟨rfl, rfl, rfl⟩
  · have hd := hall i (by omega) (by omega)
    have hwm := wrap_mul hv0 hv1
    obtain ⟨m, hm⟩ : ∃ m, (s.size - i).toNat = m + 1 := ⟨(s.size - i).toNat - 1, by omega⟩
    rw [hm, fixN] at hf
    unfold dig at hd
    have hwn : IntKind.i64.wrap (10 * v + (bt s i - 48)) = 10 * v + (bt s i - 48) := wrap_in (by omega) (by omega)
    repeat' (first | apply wpc_seq | apply wpe_seq | apply wpl_nil | apply wpc_region | (apply g_any; first | (apply gmv; refine smv rfl rfl ?_) | (apply gas; refine sas rfl rfl ?_) | (apply gbn; first | refine sbn rfl rfl ?_)) | (apply g_wpc; first | apply wpc_block | (apply g_cond; first | (refine cdD rfl (fun hb => ?_) (fun hb => ?_) <;> (try (exfalso; first | (with_reducible exact absurd (by assumption) hb) | (with_reducible exact absurd hb (by assumption)) | omega)))) | apply wpc_skip | apply wpc_exit | apply wpc_ret) | (apply g_wpe; first | apply wpe_block | apply wpe_then_exit | apply wpe_block_eq | apply wpe_then_ret | apply wpe_block_ret | apply wpe_back_exit | apply wpe_back_ret))
    all_goals (try simp only [hwm, hwn] at *)
    · refine wpe_end (.inl rfl) (by exact .tmp rfl (.tmp rfl .nil)) [] (List.nil_sublist _) (Grow.refl _ _) ?_
      rw [if_pos hb] at hf
      simp [tupV, fixI, hz, hc, hf]
    · refine scq 0 rfl rfl (take_fn s (i + 1) g1 g2 _ (by omega) (by omega) hs) rfl rfl (fun r Lq hX => ?_)
      rw [if_neg hb] at hf
      rcases hX with ⟨hl, _, rfl, rfl⟩ | ⟨hl, rfl, rfl⟩
      · refine wnL rfl ?_
        repeat' (first | apply wpl_nil | (apply g_any; first | (apply gas; refine sas rfl rfl ?_)))
        exact wpe_back (i + 1, 10 * v + (bt s i - 48), bt s (i + 1) - 48, i + 1 + 1) ⟨by simp only; omega, by simp only; omega, by simp only; omega, by simp only; omega, by simp only; rw [hf]; congr 1; omega, .inl ⟨by simp only; omega, rfl, rfl⟩⟩ (by simp only; omega) ⟨rfl, rfl, rfl, trivial⟩ rfl (List.Sublist.refl _)
      · have hi : i + 1 = s.size := by
          by_cases h : i + 1 < s.size
          · exact absurd ⟨h, hall (i + 1) (by omega) (by omega)⟩ hl
          · omega
        refine wnL rfl ?_
        repeat' (first | apply wpl_nil | (apply g_any; first | (apply gas; refine sas rfl rfl ?_)))
        exact wpe_back (i + 1, 10 * v + (bt s i - 48), -1, i + 1) ⟨by simp only; omega, by simp only; omega, by simp only; omega, by simp only; omega, by simp only; rw [hf]; congr 1; omega, .inr ⟨by simp only; omega, rfl, hi⟩⟩ (by simp only; omega) ⟨rfl, rfl, rfl, trivial⟩ rfl (List.Sublist.refl _)
    · exfalso; omega
  · repeat' (first | apply wpc_seq | apply wpe_seq | apply wpl_nil | apply wpc_region | (apply g_any; first | (apply gmv; refine smv rfl rfl ?_) | (apply gas; refine sas rfl rfl ?_) | (apply gbn; first | refine sbn rfl rfl ?_)) | (apply g_wpc; first | apply wpc_block | (apply g_cond; first | (refine cdD rfl (fun hb => ?_) (fun hb => ?_) <;> (try (exfalso; first | (with_reducible exact absurd (by assumption) hb) | (with_reducible exact absurd hb (by assumption)) | omega)))) | apply wpc_skip | apply wpc_exit | apply wpc_ret) | (apply g_wpe; first | apply wpe_block | apply wpe_then_exit | apply wpe_block_eq | apply wpe_then_ret | apply wpe_block_ret | apply wpe_back_exit | apply wpe_back_ret))
    all_goals (try simp only at *)
    all_goals (try (exfalso; omega))
    refine wpe_end (.inl rfl) (by exact .tmp rfl (.tmp rfl .nil)) [] (List.nil_sublist _) (Grow.refl _ _) ?_
    rw [show ((s.size : Int) - s.size).toNat = 0 by omega, fixN] at hf
    simp [tupV, fixI, hz, hc, hf]
end Go.Proofs.Ytgjhbambdnpcmaa
set_option linter.unusedVariables false
set_option linter.unusedSimpArgs false
namespace Go.Proofs.Ytgjhbambdnpcmaa
open Go Go.Eng
theorem loose_fn (s : ByteArray) (H : GH) (hs : s.size ≤ 140737488351232) : CtV Try.prog 76 [.string s] H (.tuple #[.int .i64 (looseI s).1, .int .i64 (looseI s).2]) := by
  refine fn_intro Try.func76 rfl rfl (fun w => ?_)
  by_cases h : 0 < s.size ∧ (bt s 0 = 43 ∨ bt s 0 = 45)
  · have hsg := signed_fn (H := H) s hs
    rw [if_pos h] at hsg
    have hcs := cut_size (s := s) (i := 1) (j := s.size) (by omega) (by omega) (by omega)
    have hr := fixI_range (cut s 1 s.size)
    repeat' (first | apply wpc_seq | apply wpe_seq | apply wpl_nil | apply wpc_region | (apply g_any; first | (apply gmv; refine smv rfl rfl ?_) | (apply gas; refine sas rfl rfl ?_) | (apply gex; refine sex rfl rfl ?_) | (apply gcl; first | refine scl rfl (hsg) rfl ?_ | refine scl rfl (fixed_fn _ _ (by omega)) rfl ?_) | (apply gun; refine sun rfl rfl ?_)) | (apply g_wpc; first | (apply g_cond; first | (refine cdD rfl (fun hb => ?_) (fun hb => ?_) <;> (try (exfalso; first | (with_reducible exact absurd (by assumption) hb) | (with_reducible exact absurd hb (by assumption)) | omega)))) | apply wpc_skip | apply wpc_ret))
    · refine end2 (by exact .tmp rfl (.tmp rfl .nil)) ?_
      simp only [looseI, if_pos h, if_pos hb]
      rw [wrap_in (by omega) (by omega)]
      rw [Int.zero_sub]
      rfl
    · refine end2 (by exact .tmp rfl (.tmp rfl .nil)) ?_
      simp only [looseI, if_pos h, if_neg hb]
      rfl
  · have hsg := signed_fn (H := H) s hs
    rw [if_neg h] at hsg
    repeat' (first | apply wpc_seq | apply wpe_seq | apply wpl_nil | apply wpc_region | (apply g_any; first | (apply gmv; refine smv rfl rfl ?_) | (apply gas; refine sas rfl rfl ?_) | (apply gex; refine sex rfl rfl ?_) | (apply gcl; first | refine scl rfl (hsg) rfl ?_ | refine scl rfl (fixed_fn _ _ hs) rfl ?_)) | (apply g_wpc; first | (apply g_cond; first | refine cdF rfl ?_) | apply wpc_skip | apply wpc_ret))
    refine end2 (by exact .tmp rfl (.tmp rfl .nil)) ?_
    simp only [looseI, if_neg h]
    rfl
theorem countR_fn (s : ByteArray) (H : GH) (hs : s.size ≤ 140737488351232) : CtV Try.prog 83 [.string s] H (.int .i64 (cntI s)) := by
  refine fn_intro Try.func83 rfl rfl (fun w => ?_)
  repeat' (first | apply wpc_seq | apply wpe_seq | apply wpl_nil | apply wpc_region | (apply g_any; first | (apply gas; refine sas rfl rfl ?_)) | (apply g_wpc; first | apply wpc_block))
  refine wpc_less (l' := [(3, .int .i64 0), (0, .string s)]) ⟨rfl, rfl, trivial⟩ (List.Sublist.refl _) ?_
  refine wpc_loop (ι := Int) (fun i => 0 ≤ i ∧ i ≤ s.size ∧ cntI s = i + cntN s (s.size - i).toNat i) (fun i => (s.size - i).toNat)
    (fun i => [(3, .int .i64 i), (0, .string s)]) (fun _ => H) (fun _ => []) ?_ 0 ⟨by omega, by omega, by simp [cntI]⟩
  rintro i ⟨h0, h1, h2⟩
  by_cases hlt : i < s.size
  · obtain ⟨m, hm⟩ : ∃ m, (s.size - i).toNat = m + 1 := ⟨(s.size - i).toNat - 1, by omega⟩
    rw [hm, cntN] at h2
    repeat' (first | apply wpc_seq | apply wpe_seq | apply wpl_nil | apply wpc_region | (apply g_any; first | (apply gmv; refine smv rfl rfl ?_) | (apply gas; refine sas rfl rfl ?_) | (apply gbn; first | (apply gad; refine sad rfl rfl (by omega) (by omega) rfl ?_) | refine sbn rfl rfl ?_) | (apply gln; first | refine sls rfl rfl ?_) | (apply gpk; refine spk rfl rfl ?_) | (apply gix; refine six rfl rfl (by omega) (by omega) rfl ?_) | (apply g_guard; first | refine wpl_wanted (wants_tt rfl rfl rfl) ?_ | refine wpl_skip (wants_tf rfl rfl rfl) rfl ?_ | (refine gsD rfl rfl rfl (fun hb => ?_) (fun hb => ?_) <;> (try (exfalso; first | (with_reducible exact absurd (by assumption) hb) | (with_reducible exact absurd hb (by assumption)) | omega))))) | (apply g_wpc; first | apply wpc_block | (apply g_cond; first | refine cdF rfl ?_ | (refine cdD rfl (fun hb => ?_) (fun hb => ?_) <;> (try (exfalso; first | (with_reducible exact absurd (by assumption) hb) | (with_reducible exact absurd hb (by assumption)) | omega)))) | apply wpc_skip | apply wpc_exit | apply wpc_ret) | (apply g_wpe; first | apply wpe_block | apply wpe_then_exit | apply wpe_block_eq | apply wpe_back_exit))
    all_goals (try simp only at *)
    all_goals (try (exfalso; omega))
    · rw [if_pos (by unfold dig; omega)] at h2
      exact wpe_back (i + 1) ⟨by omega, by omega, by rw [h2, show (s.size - (i + 1)).toNat = m by omega]; omega⟩ (by omega) ⟨rfl, rfl, trivial⟩ rfl (List.Sublist.refl _)
    · rw [if_neg (by unfold dig; omega)] at h2
      refine end1 (by exact .tmp rfl .nil) ?_
      simp [tupV, h2]
    · rw [if_neg (by unfold dig; omega)] at h2
      refine end1 (by exact .tmp rfl .nil) ?_
      simp [tupV, h2]
  · rw [show (s.size - i).toNat = 0 by omega, cntN] at h2
    repeat' (first | apply wpc_seq | apply wpe_seq | apply wpl_nil | apply wpc_region | (apply g_any; first | (apply gmv; refine smv rfl rfl ?_) | (apply gas; refine sas rfl rfl ?_) | (apply gbn; first | refine sbn rfl rfl ?_) | (apply gln; first | refine sls rfl rfl ?_) | (apply gpk; refine spk rfl rfl ?_) | (apply g_guard; first | refine wpl_skip (wants_tf rfl rfl rfl) rfl ?_ | (refine gsD rfl rfl rfl (fun hb => ?_) (fun hb => ?_) <;> (try (exfalso; first | (with_reducible exact absurd (by assumption) hb) | (with_reducible exact absurd hb (by assumption)) | omega))))) | (apply g_wpc; first | (apply g_cond; first | refine cdF rfl ?_) | apply wpc_exit | apply wpc_ret) | (apply g_wpe; first | apply wpe_then_exit | apply wpe_block_eq | apply wpe_back_exit))
    all_goals (try simp only at *)
    all_goals (try (exfalso; omega))
    refine end1 (by exact .tmp rfl .nil) ?_
    simp [tupV, h2]
theorem fixedR_fn (s : ByteArray) (H : GH) (hs : s.size ≤ 140737488351232) : CtV Try.prog 77 [.string s] H (.tuple #[.int .i64 (fixI s).1, .int .i64 (fixI s).2]) := by
  refine fn_intro Try.func77 rfl rfl (fun w => ?_)
  by_cases hz : s.size = 0
  · have he : s = ⟨#[]⟩ := bytes_ext (by rw [hz]; rfl) fun k h0 h1 => by omega
    repeat' (first | apply wpc_seq | apply wpe_seq | apply wpl_nil | apply wpc_region | (apply g_any; first | (apply gmv; refine smv rfl rfl ?_) | (apply gas; refine sas rfl rfl ?_) | (apply gbn; first | refine sbn rfl rfl ?_) | (apply gpk; refine spk rfl rfl ?_) | (apply g_guard; first | refine wpl_skip (wants_ft rfl rfl rfl) rfl ?_ | (refine gsD rfl rfl rfl (fun hb => ?_) (fun hb => ?_) <;> (try (exfalso; first | (with_reducible exact absurd (by assumption) hb) | (with_reducible exact absurd hb (by assumption)) | omega))))) | (apply g_wpc; first | (apply g_cond; first | refine cdT rfl ?_) | apply wpc_ret) | (apply g_wpe; first | apply wpe_then_ret))
    · refine end2 (by exact .tmp rfl (.tmp rfl .nil)) ?_
      simp [fixI, hz]
  have hne : ¬ s = ⟨#[]⟩ := fun h => hz (by rw [h]; rfl)
  by_cases hc : cntI s = s.size
  case neg =>
    repeat' (first | apply wpc_seq | apply wpe_seq | apply wpl_nil | apply wpc_region | (apply g_any; first | (apply gmv; refine smv rfl rfl ?_) | (apply gas; refine sas rfl rfl ?_) | (apply gbn; first | refine sbn rfl rfl ?_) | (apply gln; first | refine sls rfl rfl ?_) | (apply gcl; first | refine scl rfl (countR_fn _ _ hs) rfl ?_) | (apply gpk; refine spk rfl rfl ?_) | (apply g_guard; first | refine wpl_wanted (wants_ff rfl rfl rfl) ?_ | (refine gsD rfl rfl rfl (fun hb => ?_) (fun hb => ?_) <;> (try (exfalso; first | (with_reducible exact absurd (by assumption) hb) | (with_reducible exact absurd hb (by assumption)) | omega))))) | (apply g_wpc; first | (apply g_cond; first | (refine cdD rfl (fun hb => ?_) (fun hb => ?_) <;> (try (exfalso; first | (with_reducible exact absurd (by assumption) hb) | (with_reducible exact absurd hb (by assumption)) | omega)))) | apply wpc_ret) | (apply g_wpe; first | apply wpe_then_ret))
    · refine end2 (by exact .tmp rfl (.tmp rfl .nil)) ?_
      simp [fixI, hz, hc]
  have hall := cntN_all s s.size 0 hc
  repeat' (first | apply wpc_seq | apply wpe_seq | apply wpl_nil | apply wpc_region | (apply g_any; first | (apply gmv; refine smv rfl rfl ?_) | (apply gas; refine sas rfl rfl ?_) | (apply gbn; first | refine sbn rfl rfl ?_) | (apply gln; first | refine sls rfl rfl ?_) | (apply gcl; first | refine scl rfl (countR_fn _ _ hs) rfl ?_) | (apply gpk; refine spk rfl rfl ?_) | (apply g_guard; first | refine wpl_wanted (wants_ff rfl rfl rfl) ?_ | (refine gsD rfl rfl rfl (fun hb => ?_) (fun hb => ?_) <;> (try (exfalso; first | (with_reducible exact absurd (by assumption) hb) | (with_reducible exact absurd hb (by assumption)) | omega))))) | (apply g_wpc; first | apply wpc_block | (apply g_cond; first | (refine cdD rfl (fun hb => ?_) (fun hb => ?_) <;> (try (exfalso; first | (with_reducible exact absurd (by assumption) hb) | (with_reducible exact absurd hb (by assumption)) | omega)))) | apply wpc_skip))
  refine wpc_less (l' := [(4, .int .i64 0), (5, .int .i64 0), (0, .string s)]) ⟨rfl, rfl, rfl, trivial⟩ (List.Sublist.refl _) ?_
  refine wpc_loop (ι := Int × Int) (fun x => 0 ≤ x.1 ∧ x.1 ≤ s.size ∧ 0 ≤ x.2 ∧ x.2 ≤ 2147483647 ∧ fixN s s.size 0 0 = fixN s (s.size - x.1).toNat x.1 x.2) (fun x => (s.size - x.1).toNat)
    (fun x => [(4, .int .i64 x.2), (5, .int .i64 x.1), (0, .string s)]) (fun _ => H) (fun x => []) ?_ (0, 0) ⟨by simp, by simp, by simp, by simp, by simp⟩
  rintro ⟨i, v⟩ ⟨hi0, hi1, hv0, hv1, hf⟩
  simp only at hi0 hi1 hv0 hv1 hf
  by_cases hlt : i < s.size
  · obtain ⟨m, hm⟩ : ∃ m, (s.size - i).toNat = m + 1 := ⟨(s.size - i).toNat - 1, by omega⟩
    rw [hm, fixN] at hf
    have hd := hall i (by omega) (by omega)
    unfold dig at hd
    have hw1 : IntKind.i64.wrap (10 * v) = 10 * v := wrap_in (by omega) (by omega)
    have hw2 : IntKind.i64.wrap (bt s i) = bt s i := wrap_in (by omega) (by omega)
    have hw3 : IntKind.i64.wrap (10 * v + bt s i) = 10 * v + bt s i := wrap_in (by omega) (by omega)
    have hw4 : IntKind.i64.wrap (10 * v + bt s i - 48) = 10 * v + bt s i - 48 := wrap_in (by omega) (by omega)
    repeat' (first | apply wpc_seq | apply wpe_seq | apply wpl_nil | apply wpc_region | (apply g_any; first | (apply gmv; refine smv rfl rfl ?_) | (apply gas; refine sas rfl rfl ?_) | (apply gbn; first | (apply gad; refine sad rfl rfl (by omega) (by omega) rfl ?_) | (apply gmu; refine smu rfl rfl (by omega) (by omega) rfl ?_) | refine sbn rfl rfl ?_) | (apply gln; first | refine sls rfl rfl ?_) | (apply gix; refine six rfl rfl (by omega) (by omega) rfl ?_) | (apply gcv; first | refine scv rfl rfl ?_)) | (apply g_wpc; first | apply wpc_block | (apply g_cond; first | (refine cdD rfl (fun hb => ?_) (fun hb => ?_) <;> (try (exfalso; first | (with_reducible exact absurd (by assumption) hb) | (with_reducible exact absurd hb (by assumption)) | omega)))) | apply wpc_skip | apply wpc_ret) | (apply g_wpe; first | apply wpe_block | apply wpe_then_ret | apply wpe_block_ret | apply wpe_back_ret))
    all_goals (try simp only [hw1, hw2, hw3, hw4] at *)
    all_goals (try (exfalso; omega))
    · rw [if_pos (by omega)] at hf
      refine end2 (by exact .tmp rfl (.tmp rfl .nil)) ?_
      simp [tupV, fixI, hz, hc, hf]
    · rw [if_neg (by omega)] at hf
      refine wpe_back (i + 1, 10 * v + bt s i - 48) ⟨by simp only; omega, by simp only; omega, by simp only; omega, by simp only; omega, ?_⟩ (by simp only; omega) ⟨rfl, rfl, rfl, trivial⟩ rfl (List.Sublist.refl _)
      simp only
      rw [hf]; congr 1 <;> omega
  · rw [show (s.size - i).toNat = 0 by omega, fixN] at hf
    repeat' (first | apply wpc_seq | apply wpe_seq | apply wpl_nil | apply wpc_region | (apply g_any; first | (apply gmv; refine smv rfl rfl ?_) | (apply gas; refine sas rfl rfl ?_) | (apply gbn; first | refine sbn rfl rfl ?_) | (apply gln; first | refine sls rfl rfl ?_)) | (apply g_wpc; first | (apply g_cond; first | (refine cdD rfl (fun hb => ?_) (fun hb => ?_) <;> (try (exfalso; first | (with_reducible exact absurd (by assumption) hb) | (with_reducible exact absurd hb (by assumption)) | omega)))) | apply wpc_exit | apply wpc_ret) | (apply g_wpe; first | apply wpe_then_exit | apply wpe_block_eq | apply wpe_back_exit))
    all_goals (try simp only at *)
    all_goals (try (exfalso; omega))
    refine end2 (by exact .tmp rfl (.tmp rfl .nil)) ?_
    simp [tupV, fixI, hz, hc, hf]
theorem looseR_fn (s : ByteArray) (H : GH) (hs : s.size ≤ 140737488351232) : CtV Try.prog 65 [.string s] H (.tuple #[.int .i64 (looseI s).1, .int .i64 (looseI s).2]) := by
  refine fn_intro Try.func65 rfl rfl (fun w => ?_)
  have hr0 := fixI_range s
  by_cases hz : s.size = 0
  · have he : s = ⟨#[]⟩ := bytes_ext (by rw [hz]; rfl) fun k h0 h1 => by omega
    have hl : looseI s = fixI s := by rw [looseI, if_neg (by omega)]
    repeat' (first | apply wpc_seq | apply wpe_seq | apply wpl_nil | apply wpc_region | (apply g_any; first | (apply gmv; refine smv rfl rfl ?_) | (apply gas; refine sas rfl rfl ?_) | (apply gex; refine sex rfl rfl ?_) | (apply gbn; first | refine sbn rfl rfl ?_) | (apply gcl; first | refine scl rfl (fixedR_fn _ _ hs) rfl ?_) | (apply gpk; refine spk rfl rfl ?_) | (apply g_guard; first | refine wpl_skip (wants_tf rfl rfl rfl) rfl ?_ | refine wpl_skip (wants_uu rfl rfl rfl) rfl ?_ | (refine gsD rfl rfl rfl (fun hb => ?_) (fun hb => ?_) <;> (try (exfalso; first | (with_reducible exact absurd (by assumption) hb) | (with_reducible exact absurd hb (by assumption)) | omega))))) | (apply g_wpc; first | (apply g_cond; first | refine cdF rfl ?_) | apply wpc_skip | apply wpc_ret))
    refine end2 (by exact .tmp rfl (.tmp rfl .nil)) ?_
    rw [hl]; rfl
  · have hne : ¬ s = ⟨#[]⟩ := fun h => hz (by rw [h]; rfl)
    have hcs := cut_size (s := s) (i := 1) (j := s.size) (by omega) (by omega) (by omega)
    have hr := fixI_range (cut s 1 s.size)
    repeat' (first | apply wpc_seq | apply wpe_seq | apply wpl_nil | apply wpc_region | (apply g_any; first | (apply gmv; refine smv rfl rfl ?_) | (apply gas; refine sas rfl rfl ?_) | (apply gex; refine sex rfl rfl ?_) | (apply gbn; first | (apply gsb; refine ssb rfl rfl (by omega) (by omega) rfl ?_) | refine sbn rfl rfl ?_) | (apply gcl; first | refine scl rfl (fixedR_fn _ _ hs) rfl ?_ | refine scl rfl (fixedR_fn _ _ (by omega)) rfl ?_) | (apply gpk; refine spk rfl rfl ?_) | (apply gix; refine six rfl rfl (by omega) (by omega) rfl ?_) | (apply gsl; first | refine sca rfl rfl (by omega) (by omega) rfl ?_) | (apply g_guard; first | refine wpl_wanted (wants_tt rfl rfl rfl) ?_ | refine wpl_wanted (wants_ff rfl rfl rfl) ?_ | refine wpl_skip (wants_ft rfl rfl rfl) rfl ?_ | (refine gsD rfl rfl rfl (fun hb => ?_) (fun hb => ?_) <;> (try (exfalso; first | (with_reducible exact absurd (by assumption) hb) | (with_reducible exact absurd hb (by assumption)) | omega))))) | (apply g_wpc; first | (apply g_cond; first | refine cdT rfl ?_ | (refine cdD rfl (fun hb => ?_) (fun hb => ?_) <;> (try (exfalso; first | (with_reducible exact absurd (by assumption) hb) | (with_reducible exact absurd hb (by assumption)) | omega)))) | apply wpc_skip | apply wpc_ret))
    all_goals (refine end2 (by exact .tmp rfl (.tmp rfl .nil)) ?_)
    · have h : looseI s = fixI (cut s 1 s.size) := by rw [looseI, if_pos (by omega), if_neg (by omega)]
      rw [h]; rfl
    · have h : looseI s = (0 - (fixI (cut s 1 s.size)).1, (fixI (cut s 1 s.size)).2) := by rw [looseI, if_pos (by omega), if_pos (by omega)]
      rw [h]; rfl
    · have h : looseI s = fixI s := by rw [looseI, if_neg (by omega)]
      rw [h]; rfl
end Go.Proofs.Ytgjhbambdnpcmaa
