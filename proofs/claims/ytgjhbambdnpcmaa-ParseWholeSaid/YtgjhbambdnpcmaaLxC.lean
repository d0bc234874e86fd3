/- Proved on the way: Contracts: blanks and notes (the program's and the reference's). Contracts: the reference's fifteenth layer. Contracts: names (the program's and the reference's). -/
import Derived.Test.YtgjhbambdnpcmaaLxB
import Derived.Test.YtgjhbambdnpcmaaGoC
set_option linter.unusedVariables false
set_option linter.unusedSimpArgs false
namespace Go.Proofs.Ytgjhbambdnpcmaa
open Go Go.Eng
def noteB (c : Int) (b : Bool) : Bool := if c = 10 ∨ c = 13 then false else if c = 37 then true else b
theorem noteB_nl {c : Int} {b : Bool} (h : c = 10 ∨ c = 13) : noteB c b = false := by rw [noteB, if_pos h]
theorem noteB_pc {c : Int} {b : Bool} (h : c = 37) : noteB c b = true := by rw [noteB, if_neg (by omega), if_pos h]
theorem noteB_else {c : Int} {b : Bool} (h : ¬ (c = 10 ∨ c = 13)) (h' : ¬ c = 37) : noteB c b = b := by rw [noteB, if_neg h, if_neg h']
/-- Where blanks and notes end; b: within a note. -/
def skN (s : ByteArray) : Nat → Int → Bool → Int
  | 0, _, _ => s.size
  | n + 1, i, b => if noteB (bt s i) b = true ∨ kindI (bt s i) = 0 then skN s n (i + 1) (noteB (bt s i) b) else i
def skI (s : ByteArray) (at_ : Int) : Int := skN s (s.size - max 0 at_).toNat (max 0 at_) false
theorem skN_range (s : ByteArray) : ∀ (n : Nat) (i : Int) (b : Bool), n = (s.size - i).toNat → 0 ≤ i → i ≤ s.size → i ≤ skN s n i b ∧ skN s n i b ≤ s.size ∧ (skN s n i b < s.size → bt s (skN s n i b) ≠ 37 ∧ kindI (bt s (skN s n i b)) ≠ 0)
  | 0, i, b, hn, h0, h1 => by simp only [skN]; omega
  | n + 1, i, b, hn, h0, h1 => by
    have ih := skN_range s n (i + 1) (noteB (bt s i) b) (by omega) (by omega) (by omega)
    by_cases h : noteB (bt s i) b = true ∨ kindI (bt s i) = 0
    · rw [skN, if_pos h]
      omega
    · rw [skN, if_neg h]
      exact ⟨by omega, by omega, fun _ => ⟨fun h37 => h (.inl (noteB_pc h37)), fun hk => h (.inr hk)⟩⟩
theorem skI_range (s : ByteArray) (at_ : Int) : 0 ≤ skI s at_ ∧ (max 0 at_ ≤ skI s at_ ∨ s.size ≤ at_) ∧ skI s at_ ≤ s.size ∧ (skI s at_ < s.size → bt s (skI s at_) ≠ 37 ∧ kindI (bt s (skI s at_)) ≠ 0) := by
  unfold skI
  by_cases h : max 0 at_ ≤ s.size
  · have := skN_range s (s.size - max 0 at_).toNat (max 0 at_) false rfl (by omega) h
    omega
  · rw [show ((s.size : Int) - max 0 at_).toNat = 0 by omega, skN]
    omega
/-- A run of blanks. -/
theorem skN_span (s : ByteArray) : ∀ (n : Nat) (i : Int), n = (s.size - i).toNat → 0 ≤ i → i ≤ s.size → skN s n i false = skN s (n - (spanN s 0 n i).toNat) (i + spanN s 0 n i) false ∧ (i + spanN s 0 n i < s.size → kindI (bt s (i + spanN s 0 n i)) ≠ 0)
  | 0, i, hn, h0, h1 => by simp [spanN]; omega
  | n + 1, i, hn, h0, h1 => by
    simp only [spanN]
    split
    · rename_i hk
      have ih := skN_span s n (i + 1) (by omega) (by omega) (by omega)
      have hr := spanN_range s 0 n (i + 1)
      have h37 : ¬ bt s i = 37 := fun h => by rw [h] at hk; exact absurd hk (by decide)
      have hif : noteB (bt s i) false = false := by
        by_cases h : bt s i = 10 ∨ bt s i = 13
        · exact noteB_nl h
        · exact noteB_else h h37
      rw [skN, hif, if_pos (.inr hk), ih.1]
      refine ⟨?_, ?_⟩
      · congr 1 <;> omega
      · rw [show i + (1 + spanN s 0 n (i + 1)) = i + 1 + spanN s 0 n (i + 1) by omega]
        exact ih.2
    · rename_i hk
      simp [hk]
/-- Within a note: a byte that ends no line. -/
theorem skN_note (s : ByteArray) (n : Nat) (i : Int) (h : ¬ (bt s i = 10 ∨ bt s i = 13)) : skN s (n + 1) i true = skN s n (i + 1) true := by
  have e : noteB (bt s i) true = true := by
    by_cases h' : bt s i = 37
    · exact noteB_pc h'
    · exact noteB_else h h'
  rw [skN, e, if_pos (.inl rfl)]
theorem skN_out (s : ByteArray) (n : Nat) (i : Int) (h : bt s i = 10 ∨ bt s i = 13) : skN s (n + 1) i true = skN s (n + 1) i false := by
  rw [skN, skN, noteB_nl h, noteB_nl h]
theorem skN_in (s : ByteArray) (n : Nat) (i : Int) (h : bt s i = 37) : skN s (n + 1) i false = skN s (n + 1) i true := by
  rw [skN, skN, noteB_pc h, noteB_pc h]
theorem endsI_zero {s : ByteArray} {i : Int} (h0 : 0 ≤ i) (h1 : i < s.size) : endsI s i = 0 ↔ ¬ (bt s i = 10 ∨ bt s i = 13) := by
  unfold endsI
  rw [if_pos ⟨h0, h1⟩]
  (repeat' split) <;> omega
theorem spanI_range {s : ByteArray} (k : Int) {i : Int} (h0 : 0 ≤ i) (h1 : i ≤ s.size) : 0 ≤ spanI s k i ∧ i + spanI s k i ≤ s.size := by
  unfold spanI
  split
  · have := spanN_range s k (s.size - i).toNat i; omega
  · omega
theorem skN_blanks {s : ByteArray} {i : Int} (h0 : 0 ≤ i) (h1 : i ≤ s.size) : skN s (s.size - i).toNat i false = skN s (s.size - (i + spanI s 0 i)).toNat (i + spanI s 0 i) false ∧ (i + spanI s 0 i < s.size → kindI (bt s (i + spanI s 0 i)) ≠ 0) := by
  have hr := spanN_range s 0 (s.size - i).toNat i
  have := skN_span s (s.size - i).toNat i rfl h0 h1
  have e : spanI s 0 i = spanN s 0 (s.size - i).toNat i := by
    unfold spanI
    split
    · rfl
    · rw [show (s.size - i).toNat = 0 by omega, spanN]
  rw [e]
  refine ⟨this.1.trans ?_, this.2⟩
  congr 1; omega
/-! ### the program -/
theorem skip_fn (s : ByteArray) (at_ : Int) (H : GH) (hs : s.size ≤ 140737488351232) : CtV Try.prog 31 [.string s, .int .i64 at_] H (.int .i64 (skI s at_)) := by
  refine fn_intro Try.func31 rfl rfl (fun w => ?_)
  repeat' (first | apply wpc_seq | apply wpe_seq | apply wpl_nil | apply wpc_region | (apply g_any; first | (apply gas; refine sas rfl rfl ?_)))
  have hat : max 0 (min at_ s.size) = max 0 at_ ∨ s.size ≤ at_ := by omega
  refine wpc_jumpsB (ι := Int) 0 (fun i => 0 ≤ i ∧ i ≤ s.size ∧ skI s at_ = skN s (s.size - i).toNat i false) (fun i => (s.size - i).toNat)
    (fun i => [(1, .int .i64 i), (0, .string s)]) (fun _ => H) (fun _ => []) rfl ?_ ?_
  case refine_2 =>
    intro hp
    repeat' (first | apply wpc_seq | apply wpe_seq | apply wpl_nil | apply wpc_region | (apply g_any; first | (apply gmv; refine smv rfl rfl ?_) | (apply gas; refine sas rfl rfl ?_) | (apply gln; first | refine sls rfl rfl ?_) | (apply gmn; refine smn rfl rfl rfl ?_) | (apply gmx; refine smx rfl rfl rfl ?_)))
    refine wpc_label (wpe_seq ?_)
    refine wpc_less (l' := [(1, .int .i64 (max 0 (min at_ s.size))), (0, .string s)]) ⟨rfl, rfl, trivial⟩ (List.Sublist.refl _) ?_
    refine hp (max 0 (min at_ s.size)) ⟨by omega, by omega, ?_⟩
    unfold skI
    rcases hat with h | h
    · rw [h]
    · rw [show ((s.size : Int) - max 0 at_).toNat = 0 by omega, show ((s.size : Int) - max 0 (min at_ s.size)).toNat = 0 by omega, skN, skN]
  rintro m i ⟨h0, h1, h2⟩ hm
  have hsp := spanI_range (s := s) 0 h0 h1
  obtain ⟨hb0, hk0⟩ := skN_blanks h0 h1
  rw [hb0] at h2
  repeat' (first | apply wpc_seq | apply wpc_region | (apply g_any; first | (apply gmv; refine smv rfl rfl ?_)))
  refine sbh rfl rfl rfl rfl rfl rfl (fun g H' hg hc => ?_)
  repeat' (first | apply wpc_seq | apply wpe_seq | apply wpl_nil | apply wpc_region | (apply g_any; first | (apply gmv; refine smv rfl rfl ?_) | (apply gas; refine sas rfl rfl ?_) | (apply gbn; first | (apply gad; refine sad rfl rfl (by omega) (by omega) rfl ?_) | refine sbn rfl rfl ?_) | (apply gln; first | refine sls rfl rfl ?_) | (apply gcl; first | refine scl rfl (span_fn _ _ _ _ hs (by omega) (by omega) _ _ hc) rfl ?_) | (apply gpk; refine spk rfl rfl ?_) | (apply gix; refine six rfl rfl (by omega) (by omega) rfl ?_) | (apply g_guard; first | refine wpl_wanted (wants_tt rfl rfl rfl) ?_ | refine wpl_skip (wants_tf rfl rfl rfl) rfl ?_ | (refine gsD rfl rfl rfl (fun hb => ?_) (fun hb => ?_) <;> (try (exfalso; first | (with_reducible exact absurd (by assumption) hb) | (with_reducible exact absurd hb (by assumption)) | omega))))) | (apply g_wpc; first | apply wpc_block | (apply g_cond; first | refine cdF rfl ?_ | (refine cdD rfl (fun hb => ?_) (fun hb => ?_) <;> (try (exfalso; first | (with_reducible exact absurd (by assumption) hb) | (with_reducible exact absurd hb (by assumption)) | omega)))) | apply wpc_skip | apply wpc_ret) | (apply g_wpe; first | apply wpe_jump_ret))
  · -- a note begins
    refine wpc_forget hg.le ?_
    obtain ⟨n, hn⟩ : ∃ n, (s.size - (i + spanI s 0 i)).toNat = n + 1 := ⟨(s.size - (i + spanI s 0 i)).toNat - 1, by omega⟩
    refine wpc_less (l' := [(1, .int .i64 (i + spanI s 0 i)), (0, .string s)]) ⟨rfl, rfl, trivial⟩ (List.Sublist.refl _) ?_
    refine wpc_loop (ι := Int) (fun j => i + spanI s 0 i ≤ j ∧ j ≤ s.size ∧ skI s at_ = skN s (s.size - j).toNat j true ∧ (j = i + spanI s 0 i → bt s j = 37)) (fun j => (s.size - j).toNat)
      (fun j => [(1, .int .i64 j), (0, .string s)]) (fun _ => H) (fun _ => []) ?_ (i + spanI s 0 i) ⟨by omega, by omega, ?_, fun _ => hb⟩
    case refine_2 => rw [h2, hn, skN_in _ _ _ hb]
    rintro j ⟨hj0, hj1, hj2, hj3⟩
    repeat' (first | apply wpc_seq | apply wpe_seq | apply wpl_nil | apply wpc_region | (apply g_any; first | (apply gmv; refine smv rfl rfl ?_) | (apply gas; refine sas rfl rfl ?_) | (apply gbn; first | (apply gad; refine sad rfl rfl (by omega) (by omega) rfl ?_) | refine sbn rfl rfl ?_) | (apply gln; first | refine sls rfl rfl ?_) | (apply gcl; first | refine scl rfl (ends_fn _ _ _ hs) rfl ?_) | (apply gpk; refine spk rfl rfl ?_) | (apply g_guard; first | refine wpl_wanted (wants_tt rfl rfl rfl) ?_ | refine wpl_skip (wants_tf rfl rfl rfl) rfl ?_ | (refine gsD rfl rfl rfl (fun hb => ?_) (fun hb => ?_) <;> (try (exfalso; first | (with_reducible exact absurd (by assumption) hb) | (with_reducible exact absurd hb (by assumption)) | omega))))) | (apply g_wpc; first | apply wpc_block | (apply g_cond; first | refine cdF rfl ?_ | (refine cdD rfl (fun hb => ?_) (fun hb => ?_) <;> (try (exfalso; first | (with_reducible exact absurd (by assumption) hb) | (with_reducible exact absurd hb (by assumption)) | omega)))) | apply wpc_skip | apply wpc_exit | apply wpc_goto) | (apply g_wpe; first | apply wpe_block | apply wpe_then_exit | apply wpe_block_eq | apply wpe_back_exit | apply wpe_then_goto))
    · rename_i hlt
      rw [endsI_zero (by omega) hlt] at hb
      obtain ⟨n, hn⟩ : ∃ n, (s.size - j).toNat = n + 1 := ⟨(s.size - j).toNat - 1, by omega⟩
      rw [hn, skN_note _ _ _ hb] at hj2
      exact wpe_back (j + 1) ⟨by omega, by omega, by rw [hj2, show (s.size - (j + 1)).toNat = n by omega], by omega⟩ (by omega) ⟨rfl, rfl, trivial⟩ rfl (List.Sublist.refl _)
    · rename_i hlt
      rw [endsI_zero (by omega) hlt, Decidable.not_not] at hb
      obtain ⟨n, hn⟩ : ∃ n, (s.size - j).toNat = n + 1 := ⟨(s.size - j).toNat - 1, by omega⟩
      rw [hn, skN_out _ _ _ hb, ← hn] at hj2
      have hne : j ≠ i + spanI s 0 i := fun h => by have := hj3 h; omega
      exact wpe_jump j ⟨by omega, hj1, hj2⟩ (fun k hk => by have := hm k hk; omega) ⟨rfl, rfl, trivial⟩ rfl (List.Sublist.refl _)
    · refine wpe_jump j ⟨by omega, hj1, ?_⟩ (fun k hk => by have := hm k hk; omega) ⟨rfl, rfl, trivial⟩ rfl (List.Sublist.refl _)
      rw [hj2, show (s.size - j).toNat = 0 by omega, skN, skN]
  · refine wpe_forget hg.le ?_
    refine end1 (by exact .tmp rfl .nil) ?_
    obtain ⟨n, hn⟩ : ∃ n, (s.size - (i + spanI s 0 i)).toNat = n + 1 := ⟨(s.size - (i + spanI s 0 i)).toNat - 1, by omega⟩
    have hk := hk0 (by omega)
    have h10 : ¬ (bt s (i + spanI s 0 i) = 10 ∨ bt s (i + spanI s 0 i) = 13) := by
      rintro (h | h) <;> rw [h] at hk <;> exact hk (by decide)
    rw [h2, hn, skN, noteB_else h10 hb, if_neg (by simp [hk])]
  · refine wpe_forget hg.le ?_
    refine end1 (by exact .tmp rfl .nil) ?_
    rw [h2, show (s.size - (i + spanI s 0 i)).toNat = 0 by omega, skN]
    rw [show i + spanI s 0 i = s.size by omega]
end Go.Proofs.Ytgjhbambdnpcmaa
set_option linter.unusedVariables false
set_option linter.unusedSimpArgs false
namespace Go.Proofs.Ytgjhbambdnpcmaa
open Go Go.Eng
theorem skipR_fn (s : ByteArray) (at_ : Int) (H : GH) (hs : s.size ≤ 140737488351232) : CtV Try.prog 34 [.string s, .int .i64 at_] H (.int .i64 (skI s at_)) := by
  refine fn_intro Try.func34 rfl rfl (fun w => ?_)
  repeat' (first | apply wpc_seq | apply wpe_seq | apply wpl_nil | apply wpc_region | (apply g_any; first | (apply gmv; refine smv rfl rfl ?_) | (apply gas; refine sas rfl rfl ?_) | (apply gmx; refine smx rfl rfl rfl ?_)) | (apply g_wpc; first | apply wpc_block))
  by_cases hbig : s.size ≤ at_
  · -- behind the end
    refine wpc_less (l' := [(6, .int .i64 (max 0 at_)), (0, .string s)]) ⟨rfl, rfl, trivial⟩ (List.Sublist.refl _) ?_
    refine wpc_loop (ι := Unit) (fun _ => True) (fun _ => 0) (fun _ => [(6, .int .i64 (max 0 at_)), (0, .string s)]) (fun _ => H) (fun _ => []) ?_ () trivial
    rintro _ _
    repeat' (first | apply wpc_seq | apply wpe_seq | apply wpl_nil | apply wpc_region | (apply g_any; first | (apply gmv; refine smv rfl rfl ?_) | (apply gas; refine sas rfl rfl ?_) | (apply gbn; first | refine sbn rfl rfl ?_) | (apply gln; first | refine sls rfl rfl ?_)) | (apply g_wpc; first | (apply g_cond; first | (refine cdD rfl (fun hb => ?_) (fun hb => ?_) <;> (try (exfalso; first | (with_reducible exact absurd (by assumption) hb) | (with_reducible exact absurd hb (by assumption)) | omega)))) | apply wpc_exit | apply wpc_ret) | (apply g_wpe; first | apply wpe_then_exit | apply wpe_block_eq | apply wpe_back_exit))
    refine end1 (by exact .tmp rfl .nil) ?_
    unfold skI
    rw [show ((s.size : Int) - max 0 at_).toNat = 0 by omega, skN]
  refine wpc_less (l' := [(6, .int .i64 (max 0 at_)), (5, .bool false), (0, .string s)]) ⟨rfl, rfl, rfl, trivial⟩ (List.Sublist.refl _) ?_
  refine wpc_loop (ι := Int × Bool) (fun x => 0 ≤ x.1 ∧ x.1 ≤ s.size ∧ skI s at_ = skN s (s.size - x.1).toNat x.1 x.2) (fun x => (s.size - x.1).toNat)
    (fun x => [(6, .int .i64 x.1), (5, .bool x.2), (0, .string s)]) (fun _ => H) (fun _ => []) ?_ (max 0 at_, false) ⟨by simp only; omega, by simp only; omega, rfl⟩
  rintro ⟨i, b⟩ ⟨h0, h1, h2⟩
  simp only at h0 h1 h2
  by_cases hlt : i < s.size
  case neg =>
    repeat' (first | apply wpc_seq | apply wpe_seq | apply wpl_nil | apply wpc_region | (apply g_any; first | (apply gmv; refine smv rfl rfl ?_) | (apply gas; refine sas rfl rfl ?_) | (apply gbn; first | refine sbn rfl rfl ?_) | (apply gln; first | refine sls rfl rfl ?_)) | (apply g_wpc; first | (apply g_cond; first | (refine cdD rfl (fun hb => ?_) (fun hb => ?_) <;> (try (exfalso; first | (with_reducible exact absurd (by assumption) hb) | (with_reducible exact absurd hb (by assumption)) | omega)))) | apply wpc_exit | apply wpc_ret) | (apply g_wpe; first | apply wpe_then_exit | apply wpe_block_eq | apply wpe_back_exit))
    all_goals (try simp only at *)
    all_goals (try (exfalso; omega))
    refine end1 (by exact .tmp rfl .nil) ?_
    rw [h2, show (s.size - i).toNat = 0 by omega, skN]
  obtain ⟨n, hn⟩ : ∃ n, (s.size - i).toNat = n + 1 := ⟨(s.size - i).toNat - 1, by omega⟩
  rw [hn] at h2
  have go : ∀ nb, noteB (bt s i) b = nb → (nb = true ∨ kindI (bt s i) = 0) → skI s at_ = skN s (s.size - (i + 1)).toNat (i + 1) nb := by
    intro nb h h'
    rw [h2, skN, h, if_pos h', show (s.size - (i + 1)).toNat = n by omega]
  have stop : noteB (bt s i) b = false → ¬ kindI (bt s i) = 0 → skI s at_ = i := by
    intro h h'
    rw [h2, skN, h, if_neg (by simp [h'])]
  cases b <;> repeat' (first | apply wpc_seq | apply wpe_seq | apply wpl_nil | apply wpc_region | (apply g_any; first | (apply gmv; refine smv rfl rfl ?_) | (apply gas; refine sas rfl rfl ?_) | (apply gbn; first | (apply gad; refine sad rfl rfl (by omega) (by omega) rfl ?_) | refine sbn rfl rfl ?_) | (apply gln; first | refine sls rfl rfl ?_) | (apply gcl; first | refine scl rfl (kindR_fn _ _) rfl ?_) | (apply gpk; refine spk rfl rfl ?_) | (apply gun; refine sun rfl rfl ?_) | (apply gix; refine six rfl rfl (by omega) (by omega) rfl ?_) | (apply g_guard; first | refine wpl_wanted (wants_tt rfl rfl rfl) ?_ | refine wpl_wanted (wants_ff rfl rfl rfl) ?_ | refine wpl_skip (wants_tf rfl rfl rfl) rfl ?_ | refine wpl_skip (wants_ft rfl rfl rfl) rfl ?_ | (refine gsD rfl rfl rfl (fun hb => ?_) (fun hb => ?_) <;> (try (exfalso; first | (with_reducible exact absurd (by assumption) hb) | (with_reducible exact absurd hb (by assumption)) | omega))))) | (apply g_wpc; first | apply wpc_block | (apply g_cond; first | refine cdT rfl ?_ | refine cdF rfl ?_ | (refine cdD rfl (fun hb => ?_) (fun hb => ?_) <;> (try (exfalso; first | (with_reducible exact absurd (by assumption) hb) | (with_reducible exact absurd hb (by assumption)) | omega)))) | apply wpc_skip | apply wpc_ret) | (apply g_wpe; first | apply wpe_block | apply wpe_then_ret | apply wpe_block_ret | apply wpe_back_ret))
  all_goals (try simp only at *)
  all_goals (try (exfalso; omega))
  all_goals first
    | (refine end1 (by exact .tmp rfl .nil) ?_
       rw [stop (by first | exact noteB_nl (by omega) | exact noteB_else (by omega) (by omega)) (by assumption)])
    | exact wpe_back (i + 1, false) ⟨by simp only; omega, by simp only; omega, go false (by first | exact noteB_nl (by omega) | exact noteB_else (by omega) (by omega)) (.inr (by omega))⟩ (by simp only; omega) ⟨rfl, rfl, rfl, trivial⟩ rfl (List.Sublist.refl _)
    | exact wpe_back (i + 1, true) ⟨by simp only; omega, by simp only; omega, go true (by first | exact noteB_pc (by omega) | exact noteB_else (by omega) (by omega)) (.inl rfl)⟩ (by simp only; omega) ⟨rfl, rfl, rfl, trivial⟩ rfl (List.Sublist.refl _)
    | trace_state
end Go.Proofs.Ytgjhbambdnpcmaa
set_option linter.unusedVariables false
set_option linter.unusedSimpArgs false
namespace Go.Proofs.Ytgjhbambdnpcmaa
open Go Go.Eng
theorem hexI_range (c : Int) : -1 ≤ hexI c ∧ hexI c ≤ 15 := by
  unfold hexI
  (repeat' split) <;> omega
theorem hexI_zero (c : Int) : hexI c = 0 ↔ c = 48 := by
  unfold hexI
  (repeat' split) <;> omega
/-- What two digits mean. -/
def escI (s : ByteArray) (a : Int) : Option Int := if a + 2 ≤ s.size ∧ 0 ≤ hexI (bt s a) ∧ 0 ≤ hexI (bt s (a + 1)) ∧ ¬ (hexI (bt s a) = 0 ∧ hexI (bt s (a + 1)) = 0) then some (16 * hexI (bt s a) + hexI (bt s (a + 1))) else none
/-- A name's bytes, where it ends, and the error. -/
def nmN (s : ByteArray) : Nat → Int → List Int → List Int × Int × Int
  | 0, a, out => (out, a, 0)
  | n + 1, a, out => if a < s.size ∧ kindI (bt s a) = 2 then
      (if bt s a = 35 then (match escI s (a + 1) with
        | none => ([], 0, 4)
        | some c => if 127 < (out ++ [c]).length then ([], 0, 8) else nmN s n (a + 3) (out ++ [c]))
      else if 127 < (out ++ [bt s a]).length then ([], 0, 8) else nmN s n (a + 1) (out ++ [bt s a]))
    else (out, a, 0)
def nmI (s : ByteArray) (a : Int) : List Int × Int × Int := nmN s (s.size - a).toNat a []
theorem cut_twoI {s : ByteArray} {i : Int} {a b : UInt8} (h0 : 0 ≤ i) (h : i + 2 ≤ s.size) : cut s i (i + 2) = ⟨#[a, b]⟩ ↔ bt s i = a.toNat ∧ bt s (i + 1) = b.toNat := by
  have hsz := cut_size (s := s) (i := i) (j := i + 2) h0 (by omega) h
  have e0 := bt_cut (s := s) (i := i) (j := i + 2) (k := 0) h0 h (by omega) (by omega)
  have e1 := bt_cut (s := s) (i := i) (j := i + 2) (k := 1) h0 h (by omega) (by omega)
  rw [Int.add_zero] at e0
  constructor
  · intro he
    rw [he] at e0 e1
    exact ⟨e0.symm, e1.symm⟩
  · rintro ⟨h0, h1⟩
    refine bytes_ext (by show _ = 2; omega) fun k hk0 hk1 => ?_
    have : k = 0 ∨ k = 1 := by omega
    rcases this with rfl | rfl
    · rw [e0, h0]; rfl
    · rw [e1, h1]; rfl
theorem escI_some {s : ByteArray} {i : Int} (h0 : 0 ≤ i) (h1 : i + 2 ≤ s.size) (h2 : 0 ≤ hexI (bt s i)) (h3 : 0 ≤ hexI (bt s (i + 1))) (h4 : ¬ cut s i (i + 2) = ⟨#[48, 48]⟩) : escI s i = some (16 * hexI (bt s i) + hexI (bt s (i + 1))) := by
  unfold escI
  rw [if_pos ?_]
  refine ⟨by omega, by omega, by omega, fun h => ?_⟩
  have z1 := (hexI_zero (bt s i)).1 h.1
  have z2 := (hexI_zero (bt s (i + 1))).1 h.2
  exact h4 ((cut_twoI h0 h1).2 ⟨z1, z2⟩)
theorem nameR_fn (s : ByteArray) (a : Int) (H : GH) (hs : s.size ≤ 140737488351232) (h0 : 0 ≤ a) (h1 : a ≤ s.size) : CtV Try.prog 35 [.string s, .int .i64 a] H (.tuple #[.string (bstr (nmI s a).1), .int .i64 (nmI s a).2.1, .int .i64 (nmI s a).2.2]) := by
  refine fn_intro Try.func35 rfl rfl (fun w => ?_)
  repeat' (first | apply wpc_seq | apply wpe_seq | apply wpl_nil | apply wpc_region | (apply g_any; first | (refine sb0 rfl (fun _ => ?_)) | (apply gas; refine sas rfl rfl ?_)) | (apply g_wpc; first | apply wpc_block))
  rename_i g0
  refine weC [.row 5 1 (some ⟨g0, 0, none⟩) 0 (bys [])] rfl ?_
  refine wpc_less (l' := [(1, .int .i64 a), (7, .slice (some ⟨g0, 0, none⟩) ([] : List Int).length 0), (0, .string s)]) ⟨rfl, rfl, rfl, trivial⟩ (List.Sublist.refl _) ?_
  refine wpc_loop (ι := Int × List Int × Option Addr × Nat) (fun x => 0 ≤ x.1 ∧ x.1 ≤ s.size ∧ x.2.1.length ≤ 127 ∧ ∃ n : Nat, s.size - x.1 ≤ (n : Int) ∧ nmI s a = nmN s n x.1 x.2.1) (fun x => (s.size - x.1).toNat)
    (fun x => [(1, .int .i64 x.1), (7, .slice x.2.2.1 x.2.1.length x.2.2.2), (0, .string s)]) (fun _ => H) (fun x => [.row 5 1 x.2.2.1 x.2.2.2 (bys x.2.1)]) ?_ (a, [], some ⟨g0, 0, none⟩, 0) ⟨h0, h1, by simp, (s.size - a).toNat, by omega, rfl⟩
  rintro ⟨i, out, A, c⟩ ⟨hi0, hi1, ho, n, hn, hx⟩
  dsimp only at hi0 hi1 ho hn hx ⊢
  by_cases hin : i < s.size
  case neg =>
    have hx' : nmI s a = (out, i, 0) := by
      cases n with
      | zero => rw [hx, nmN]
      | succ n => rw [hx, nmN, if_neg (by omega)]
    repeat' (first | apply wpc_seq | apply wpe_seq | apply wpl_nil | apply wpc_region | (apply g_any; first | (refine scb_ rfl rfl rfl ?_) | (apply gmv; refine smv rfl rfl ?_) | (apply gas; refine sas rfl rfl ?_) | (apply gbn; first | refine sbn rfl rfl ?_) | (apply gln; first | refine sls rfl rfl ?_) | (apply gpk; refine spk rfl rfl ?_) | (apply g_guard; first | refine wpl_skip (wants_tf rfl rfl rfl) rfl ?_ | (refine gsD rfl rfl rfl (fun hb => ?_) (fun hb => ?_) <;> (try (exfalso; first | (with_reducible exact absurd (by assumption) hb) | (with_reducible exact absurd hb (by assumption)) | omega))))) | (apply g_wpc; first | (apply g_cond; first | refine cdF rfl ?_) | apply wpc_exit | apply wpc_ret) | (apply g_wpe; first | apply wpe_then_exit | apply wpe_block_eq | apply wpe_back_exit))
    all_goals (try simp only at *)
    all_goals (try (exfalso; omega))
    refine end3 (by exact .tmp rfl (.tmp rfl (.tmp rfl .nil))) ?_
    rw [hx']
  cases n with
  | zero => exfalso; omega
  | succ n =>
  rw [nmN] at hx
  by_cases hk : kindI (bt s i) = 2
  case neg =>
    rw [if_neg (by omega)] at hx
    repeat' (first | apply wpc_seq | apply wpe_seq | apply wpl_nil | apply wpc_region | (apply g_any; first | (refine scb_ rfl rfl rfl ?_) | (apply gmv; refine smv rfl rfl ?_) | (apply gas; refine sas rfl rfl ?_) | (apply gbn; first | refine sbn rfl rfl ?_) | (apply gln; first | refine sls rfl rfl ?_) | (apply gcl; first | refine scl rfl (kindR_fn _ _) rfl ?_) | (apply gpk; refine spk rfl rfl ?_) | (apply gix; refine six rfl rfl (by omega) (by omega) rfl ?_) | (apply g_guard; first | refine wpl_wanted (wants_tt rfl rfl rfl) ?_ | (refine gsD rfl rfl rfl (fun hb => ?_) (fun hb => ?_) <;> (try (exfalso; first | (with_reducible exact absurd (by assumption) hb) | (with_reducible exact absurd hb (by assumption)) | omega))))) | (apply g_wpc; first | (apply g_cond; first | (refine cdD rfl (fun hb => ?_) (fun hb => ?_) <;> (try (exfalso; first | (with_reducible exact absurd (by assumption) hb) | (with_reducible exact absurd hb (by assumption)) | omega)))) | apply wpc_exit | apply wpc_ret) | (apply g_wpe; first | apply wpe_then_exit | apply wpe_block_eq | apply wpe_back_exit))
    all_goals (try simp only at *)
    all_goals (try (exfalso; omega))
    refine end3 (by exact .tmp rfl (.tmp rfl (.tmp rfl .nil))) ?_
    rw [hx]
  rw [if_pos ⟨hin, hk⟩] at hx
  have hr1 := hexI_range (bt s (i + 1))
  have hr2 := hexI_range (bt s (i + 1 + 1))
  have hw : IntKind.i64.wrap (16 * hexI (bt s (i + 1))) = 16 * hexI (bt s (i + 1)) := wrap_in (by omega) (by omega)
  by_cases h35 : bt s i = 35
  · rw [if_pos h35] at hx
    repeat' (first | apply wpc_seq | apply wpe_seq | apply wpl_nil | apply wpc_region | (apply g_any; first | (refine sb1 rfl rfl rfl rfl rfl rfl rfl (fun _ => ?_)) | (refine sapb rfl rfl (by omega) rfl rfl (by omega) rfl (fun _ _ => ?_); refine wnL rfl ?_) | (apply gmv; refine smv rfl rfl ?_) | (apply gas; refine sas rfl rfl ?_) | (apply gbn; first | (apply gad; refine sad rfl rfl (by omega) (by omega) rfl ?_) | refine sbn rfl rfl ?_) | (apply gln; first | refine sls rfl rfl ?_ | refine slm rfl rfl ?_) | (apply gcl; first | refine scl rfl (kindR_fn _ _) rfl ?_ | refine scl rfl (hexR_fn _ _) rfl ?_) | (apply gpk; refine spk rfl rfl ?_) | (apply gix; refine six rfl rfl (by omega) (by omega) rfl ?_) | (apply gsl; first | refine scc rfl rfl rfl (by omega) (by omega) (by omega) rfl ?_) | (apply g_guard; first | refine wpl_wanted (wants_tt rfl rfl rfl) ?_ | refine wpl_wanted (wants_ff rfl rfl rfl) ?_ | refine wpl_skip (wants_ft rfl rfl rfl) rfl ?_ | (refine gsD rfl rfl rfl (fun hb => ?_) (fun hb => ?_) <;> (try (exfalso; first | (with_reducible exact absurd (by assumption) hb) | (with_reducible exact absurd hb (by assumption)) | omega))))) | (apply g_wpc; first | apply wpc_block | (apply g_cond; first | refine cdT rfl ?_ | (refine cdD rfl (fun hb => ?_) (fun hb => ?_) <;> (try (exfalso; first | (with_reducible exact absurd (by assumption) hb) | (with_reducible exact absurd hb (by assumption)) | omega)))) | apply wpc_skip | apply wpc_ret | (apply g_draw; refine wpc_quiet mixed (by kernel_rfl) ?_)) | (apply g_wpe; first | apply wpe_block | apply wpe_then_ret | apply wpe_block_ret | apply wpe_back_ret) | apply wpq_nil | (apply gq_any; first | (apply kmv; refine qmv rfl rfl ?_) | (apply kas; refine qas rfl rfl ?_) | (apply kbn; first | (apply kad; refine qad rfl rfl (by omega) (by omega) rfl ?_) | (apply kmu; refine qmu rfl rfl (by omega) (by omega) rfl ?_)) | (apply kcl; first | refine qcl rfl (hexR_fn _ _) rfl ?_) | (apply kix; refine qix rfl rfl (by omega) (by omega) rfl ?_) | (apply kcv; first | refine qc8 rfl (by omega) (by omega) rfl ?_)))
    all_goals (try simp only at *)
    all_goals (try (exfalso; omega))
    · rw [show escI s (i + 1) = none by unfold escI; rw [if_neg (by omega)]] at hx
      refine end3 (by exact .tmp rfl (.tmp rfl (.tmp rfl .nil))) ?_
      rw [hx]; rfl
    · rw [show escI s (i + 1) = none by unfold escI; rw [if_neg (by omega)]] at hx
      refine end3 (by exact .tmp rfl (.tmp rfl (.tmp rfl .nil))) ?_
      rw [hx]; rfl
    · rw [show escI s (i + 1) = none by unfold escI; rw [if_neg (by omega)]] at hx
      refine end3 (by exact .tmp rfl (.tmp rfl (.tmp rfl .nil))) ?_
      rw [hx]; rfl
    · have h00 := (cut_twoI (by omega) (by omega)).1 hb
      have z1 := (hexI_zero (bt s (i + 1))).2 h00.1
      have z2 := (hexI_zero (bt s (i + 1 + 1))).2 h00.2
      rw [show escI s (i + 1) = none by unfold escI; rw [if_neg (by omega)]] at hx
      refine end3 (by exact .tmp rfl (.tmp rfl (.tmp rfl .nil))) ?_
      rw [hx]; rfl
    · rw [escI_some (by omega) (by omega) (by omega) (by omega) (by assumption)] at hx
      dsimp only at hx
      rw [if_pos (by omega)] at hx
      refine end3 (by exact .tmp rfl (.tmp rfl (.tmp rfl .nil))) ?_
      rw [hx]; rfl
    · rename_i g1 A1 c1
      rw [escI_some (by omega) (by omega) (by omega) (by omega) (by assumption)] at hx
      dsimp only at hx
      rw [if_neg (by omega)] at hx
      exact wpe_back (i + 3, out ++ [16 * hexI (bt s (i + 1)) + hexI (bt s (i + 1 + 1))], A1, c1) ⟨by dsimp only; omega, by dsimp only; omega, by dsimp only; omega, n, by dsimp only; omega, hx⟩ (by dsimp only; omega) ⟨by rw [show i + 3 = i + 1 + 2 by omega]; rfl, rfl, rfl, trivial⟩ rfl (by repeat' (first | exact List.Sublist.slnil | apply List.Sublist.cons_cons | apply List.Sublist.cons))
  · rw [if_neg h35] at hx
    repeat' (first | apply wpc_seq | apply wpe_seq | apply wpl_nil | apply wpc_region | (apply g_any; first | (refine sb1 rfl rfl rfl rfl rfl rfl rfl (fun _ => ?_)) | (refine sapb rfl rfl (by omega) rfl rfl (by omega) rfl (fun _ _ => ?_); refine wnL rfl ?_) | (apply gmv; refine smv rfl rfl ?_) | (apply gas; refine sas rfl rfl ?_) | (apply gbn; first | (apply gad; refine sad rfl rfl (by omega) (by omega) rfl ?_) | refine sbn rfl rfl ?_) | (apply gln; first | refine sls rfl rfl ?_ | refine slm rfl rfl ?_) | (apply gcl; first | refine scl rfl (kindR_fn _ _) rfl ?_) | (apply gpk; refine spk rfl rfl ?_) | (apply gix; refine six rfl rfl (by omega) (by omega) rfl ?_) | (apply g_guard; first | refine wpl_wanted (wants_tt rfl rfl rfl) ?_ | (refine gsD rfl rfl rfl (fun hb => ?_) (fun hb => ?_) <;> (try (exfalso; first | (with_reducible exact absurd (by assumption) hb) | (with_reducible exact absurd hb (by assumption)) | omega))))) | (apply g_wpc; first | apply wpc_block | (apply g_cond; first | (refine cdD rfl (fun hb => ?_) (fun hb => ?_) <;> (try (exfalso; first | (with_reducible exact absurd (by assumption) hb) | (with_reducible exact absurd hb (by assumption)) | omega)))) | apply wpc_skip | apply wpc_ret) | (apply g_wpe; first | apply wpe_block | apply wpe_then_ret | apply wpe_block_ret | apply wpe_back_ret))
    · rw [if_pos (by omega)] at hx
      refine end3 (by exact .tmp rfl (.tmp rfl (.tmp rfl .nil))) ?_
      rw [hx]; rfl
    · rename_i g1 A1 c1
      rw [if_neg (by omega)] at hx
      exact wpe_back (i + 1, out ++ [bt s i], A1, c1) ⟨by dsimp only; omega, by dsimp only; omega, by dsimp only; omega, n, by dsimp only; omega, hx⟩ (by dsimp only; omega) ⟨rfl, rfl, rfl, trivial⟩ rfl (by repeat' (first | exact List.Sublist.slnil | apply List.Sublist.cons_cons | apply List.Sublist.cons))
end Go.Proofs.Ytgjhbambdnpcmaa
