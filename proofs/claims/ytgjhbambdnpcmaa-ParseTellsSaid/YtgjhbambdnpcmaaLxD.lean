/- Proved on the way: Contracts: the scanner's methods. Contracts: the scanner's names. -/
import Derived.Test.YtgjhbambdnpcmaaLxC
set_option linter.unusedVariables false
set_option linter.unusedSimpArgs false
namespace Go.Proofs.Ytgjhbambdnpcmaa
open Go Go.Eng
theorem bad_fn (e : Int) (H : GH) : CtV Try.prog 33 [.int .i64 e] H (.tuple #[.agg #[.int .i64 0, .int .i64 0, .string ⟨#[]⟩, .int .i64 0, .int .i64 0], .int .i64 e]) := by
  refine fn_intro Try.func33 rfl rfl (fun w => ?_)
  repeat' (first | apply wpc_seq | apply wpe_seq | apply wpl_nil | apply wpc_region | (apply g_any; first | (apply gmv; refine smv rfl rfl ?_) | (apply gas; refine sas rfl rfl ?_) | (apply gst; refine sst rfl rfl (by exact rfl) (by exact rfl) (by exact rfl) (by exact rfl) ?_) | (apply gal; refine sal rfl (fun _ => ?_)) | (apply gbd; refine sbd rfl rfl rfl ?_)) | (apply g_wpc; first | apply wpc_ret))
  exact end2 (by exact .cell 0 rfl rfl rfl rfl (.tmp rfl .nil)) rfl
theorem more_fn (s : ByteArray) (i : Int) (g : Nat) (V : Value) (H : GH) (hs : s.size ≤ 140737488351232) (h0 : 0 ≤ i) (h1 : i ≤ s.size) : CtL Try.prog 70 [.pointer (some ⟨g, 0, none⟩)] H [.blk g (.cells #[.string s, .int .i64 i, V] 70 (0, 0))]
    (fun r L' => L' = [.blk g (.cells #[.string s, .int .i64 i, V] 70 (0, 0))] ∧ r = if i < s.size then .tuple #[.int .u8 (bt s i), .bool true] else .tuple #[.int .u8 0, .bool false]) := by
  refine fn_intro Try.func70 rfl rfl (fun w => ?_)
  by_cases h : i < s.size
  · rw [if_pos h]
    repeat' (first | apply wpc_seq | apply wpe_seq | apply wpl_nil | apply wpc_region | (apply g_any; first | (apply gas; refine sas rfl rfl ?_)) | (apply g_wpc; first | (apply g_cond; first | (refine cdD rfl (fun hb => ?_) (fun hb => ?_) <;> (try (exfalso; first | (with_reducible exact absurd (by assumption) hb) | (with_reducible exact absurd hb (by assumption)) | omega)))) | apply wpc_skip | apply wpc_ret | (apply g_draw; refine wpc_quiet mixed (by kernel_rfl) ?_)) | apply wpq_nil | (apply gq_any; first | (apply kmv; refine qmv rfl rfl ?_) | (apply kas; refine qas rfl rfl ?_) | (apply kld; refine qld rfl (by exact rfl) (by exact rfl) rfl ?_) | (apply kfa; refine qfa rfl rfl ?_) | (apply kbn; first | refine qbn rfl rfl ?_) | (apply kln; first | refine qls rfl rfl ?_) | (apply knc; refine qnc rfl rfl ?_) | (apply kix; refine qix rfl rfl (by omega) (by omega) rfl ?_)))
    exact wpe_end (.inl rfl) (by exact .tmp rfl (.tmp rfl .nil)) _ (List.Sublist.refl _) (Grow.refl _ _) ⟨rfl, rfl⟩
  · rw [if_neg h]
    repeat' (first | apply wpc_seq | apply wpe_seq | apply wpl_nil | apply wpc_region | (apply g_any; first | (apply gas; refine sas rfl rfl ?_)) | (apply g_wpc; first | (apply g_cond; first | (refine cdD rfl (fun hb => ?_) (fun hb => ?_) <;> (try (exfalso; first | (with_reducible exact absurd (by assumption) hb) | (with_reducible exact absurd hb (by assumption)) | omega)))) | apply wpc_ret | (apply g_draw; refine wpc_quiet mixed (by kernel_rfl) ?_)) | (apply g_wpe; first | apply wpe_then_ret) | apply wpq_nil | (apply gq_any; first | (apply kmv; refine qmv rfl rfl ?_) | (apply kld; refine qld rfl (by exact rfl) (by exact rfl) rfl ?_) | (apply kfa; refine qfa rfl rfl ?_) | (apply kbn; first | refine qbn rfl rfl ?_) | (apply kln; first | refine qls rfl rfl ?_) | (apply knc; refine qnc rfl rfl ?_)))
    exact wpe_end (.inl rfl) (by exact .tmp rfl (.tmp rfl .nil)) _ (List.Sublist.refl _) (Grow.refl _ _) ⟨rfl, rfl⟩
theorem twice_fn (s : ByteArray) (i : Int) (g : Nat) (V : Value) (H : GH) (hs : s.size ≤ 140737488351232) (h0 : 0 ≤ i) (h1 : i < s.size) : CtL Try.prog 57 [.pointer (some ⟨g, 0, none⟩)] H [.blk g (.cells #[.string s, .int .i64 i, V] 70 (0, 0))]
    (fun r L' => L' = [.blk g (.cells #[.string s, .int .i64 i, V] 70 (0, 0))] ∧ r = .bool (tst (decide (i + 1 < s.size ∧ bt s (i + 1) = bt s i)))) := by
  refine fn_intro Try.func57 rfl rfl (fun w => ?_)
  repeat' (first | apply wpc_seq | apply wpe_seq | apply wpl_nil | apply wpc_region | (apply g_any; first | (apply gas; refine sas rfl rfl ?_)) | (apply g_wpc; first | apply wpc_ret | (apply g_draw; refine wpc_quiet mixed (by kernel_rfl) ?_)) | apply wpq_nil | (apply gq_any; first | (apply kmv; refine qmv rfl rfl ?_) | (apply kas; refine qas rfl rfl ?_) | (apply kld; refine qld rfl (by exact rfl) (by exact rfl) rfl ?_) | (apply kfa; refine qfa rfl rfl ?_) | (apply kbn; first | (apply kad; refine qad rfl rfl (by omega) (by omega) rfl ?_) | refine qbn rfl rfl ?_) | (apply kln; first | refine qls rfl rfl ?_) | (apply kpk; refine qpk rfl rfl ?_) | (apply knc; refine qnc rfl rfl ?_) | (apply kix; refine qix rfl rfl (by omega) (by omega) rfl ?_) | (apply gq_guard; first | refine wpq_wanted (wants_tt rfl rfl rfl) ?_ | refine wpq_skip (wants_tf rfl rfl rfl) rfl ?_ | (refine ksD rfl rfl rfl (fun hb => ?_) (fun hb => ?_) <;> (try (exfalso; first | (with_reducible exact absurd (by assumption) hb) | (with_reducible exact absurd hb (by assumption)) | omega))))))
  · refine wpe_end (.inl rfl) (by exact .tmp rfl .nil) _ (List.Sublist.refl _) (Grow.refl _ _) ⟨rfl, ?_⟩
    simp [tupV, tst_eq, hb]
  · refine wpe_end (.inl rfl) (by exact .tmp rfl .nil) _ (List.Sublist.refl _) (Grow.refl _ _) ⟨rfl, ?_⟩
    simp [tupV, tst_eq, hb]
theorem sign_fn (k w : Int) (s : ByteArray) (i : Int) (g : Nat) (V : Value) (H : GH) (hs : s.size ≤ 140737488351232) (h0 : 0 ≤ i) (h1 : i ≤ s.size) (h2 : 0 ≤ w) (h3 : w ≤ 2) : CtL Try.prog 54 [.pointer (some ⟨g, 0, none⟩), .int .i64 k, .int .i64 w] H [.blk g (.cells #[.string s, .int .i64 i, V] 70 (0, 0))]
    (fun r L' => L' = [.blk g (.cells #[.string s, .int .i64 (i + w), V] 70 (0, 0))] ∧ r = .tuple #[.agg #[.int .i64 k, .int .i64 0, .string ⟨#[]⟩, .int .i64 0, .int .i64 0], .int .i64 0]) := by
  refine fn_intro Try.func54 rfl rfl (fun w => ?_)
  repeat' (first | apply wpc_seq | apply wpe_seq | apply wpl_nil | apply wpc_region | (apply g_any; first | (apply gmv; refine smv rfl rfl ?_) | (apply gas; refine sas rfl rfl ?_) | (apply gld; refine sld rfl (by exact rfl) (by exact rfl) rfl ?_) | (apply gfa; refine sfa rfl rfl ?_) | (apply gst; refine sst rfl rfl (by exact rfl) (by exact rfl) (by exact rfl) (by exact rfl) ?_) | (apply gbn; first | (apply gad; refine sad rfl rfl (by omega) (by omega) rfl ?_)) | (apply gnc; refine snc rfl rfl ?_) | (apply gal; refine sal rfl (fun _ => ?_)) | (apply gbd; refine sbd rfl rfl rfl ?_)) | (apply g_wpc; first | apply wpc_ret))
  exact wpe_end (.inl rfl) (by exact .cell 0 rfl rfl rfl rfl (.tmp rfl .nil)) _ (List.Sublist.cons _ (List.Sublist.refl _)) (Grow.refl _ _) ⟨rfl, rfl⟩
theorem told_fn (k : Int) (s : ByteArray) (i : Int) (g : Nat) (out : List Int) (A : Option Addr) (c : Nat) (H : GH) : CtL Try.prog 72 [.pointer (some ⟨g, 0, none⟩), .int .i64 k] H [.blk g (.cells #[.string s, .int .i64 i, .slice A out.length c] 70 (0, 0)), .row 5 1 A c (bys out)]
    (fun r L' => L' = [.blk g (.cells #[.string s, .int .i64 i, .slice A out.length c] 70 (0, 0))] ∧ r = .tuple #[.agg #[.int .i64 k, .int .i64 0, .string (bstr out), .int .i64 0, .int .i64 0], .int .i64 0]) := by
  refine fn_intro Try.func72 rfl rfl (fun w => ?_)
  repeat' (first | apply wpc_seq | apply wpe_seq | apply wpl_nil | apply wpc_region | (apply g_any; first | (refine scb_ rfl rfl rfl ?_) | (apply gmv; refine smv rfl rfl ?_) | (apply gas; refine sas rfl rfl ?_) | (apply gld; refine sld rfl (by exact rfl) (by exact rfl) rfl ?_) | (apply gfa; refine sfa rfl rfl ?_) | (apply gst; refine sst rfl rfl (by exact rfl) (by exact rfl) (by exact rfl) (by exact rfl) ?_) | (apply gnc; refine snc rfl rfl ?_) | (apply gal; refine sal rfl (fun _ => ?_)) | (apply gbd; refine sbd rfl rfl rfl ?_)) | (apply g_wpc; first | apply wpc_ret))
  exact wpe_end (.inl rfl) (by exact .cell 0 rfl rfl rfl rfl (.tmp rfl .nil)) _ (List.Sublist.cons _ (List.Sublist.cons_cons _ (List.nil_sublist _))) (Grow.refl _ _) ⟨rfl, rfl⟩
theorem lor_hex {a b : Int} (h0 : 0 ≤ a) (h1 : a ≤ 15) (h2 : 0 ≤ b) (h3 : b ≤ 15) : lor .i64 (IntKind.i64.wrap (a * 16)) b = 16 * a + b := by
  have key : ∀ x y : Fin 16, lor .i64 (IntKind.i64.wrap ((x.val : Int) * 16)) y.val = 16 * x.val + y.val := by decide +kernel
  obtain ⟨n, rfl⟩ := Int.eq_ofNat_of_zero_le h0
  obtain ⟨m, rfl⟩ := Int.eq_ofNat_of_zero_le h2
  exact key ⟨n, by omega⟩ ⟨m, by omega⟩
theorem escaped_fn (s : ByteArray) (i : Int) (g : Nat) (V : Value) (H : GH) (hs : s.size ≤ 140737488351232) (h0 : 0 ≤ i) (h1 : i ≤ s.size) : CtL Try.prog 71 [.pointer (some ⟨g, 0, none⟩)] H [.blk g (.cells #[.string s, .int .i64 i, V] 70 (0, 0))]
    (fun r L' => match escI s i with
      | some x => L' = [.blk g (.cells #[.string s, .int .i64 (i + 2), V] 70 (0, 0))] ∧ r = .tuple #[.int .u8 x, .bool true]
      | none => r = .tuple #[.int .u8 0, .bool false]) := by
  refine fn_intro Try.func71 rfl rfl (fun w => ?_)
  have hr1 := hexI_range (bt s i)
  have hr2 := hexI_range (bt s (i + 1))
  repeat' (first | apply wpc_seq | apply wpe_seq | apply wpl_nil | apply wpc_region | (apply g_any; first | (apply gmv; refine smv rfl rfl ?_) | (apply gas; refine sas rfl rfl ?_) | (apply gld; refine sld rfl (by exact rfl) (by exact rfl) rfl ?_) | (apply gfa; refine sfa rfl rfl ?_) | (apply gst; refine sst rfl rfl (by exact rfl) (by exact rfl) (by exact rfl) (by exact rfl) ?_) | (apply gbn; first | (apply gad; refine sad rfl rfl (by omega) (by omega) rfl ?_) | refine sbn rfl rfl ?_ | refine ssh rfl rfl rfl ?_ | refine sor rfl rfl rfl ?_) | (apply gpk; refine spk rfl rfl ?_) | (apply gnc; refine snc rfl rfl ?_) | (apply gcv; first | refine scv rfl rfl ?_) | (apply g_guard; first | refine wpl_wanted (wants_ff rfl rfl rfl) ?_ | refine wpl_skip (wants_ft rfl rfl rfl) rfl ?_ | (refine gsD rfl rfl rfl (fun hb => ?_) (fun hb => ?_) <;> (try (exfalso; first | (with_reducible exact absurd (by assumption) hb) | (with_reducible exact absurd hb (by assumption)) | omega))))) | (apply g_wpc; first | (apply g_cond; first | refine cdT rfl ?_ | (refine cdD rfl (fun hb => ?_) (fun hb => ?_) <;> (try (exfalso; first | (with_reducible exact absurd (by assumption) hb) | (with_reducible exact absurd hb (by assumption)) | omega)))) | apply wpc_skip | apply wpc_ret | (apply g_draw; refine wpc_quiet mixed (by kernel_rfl) ?_)) | (apply g_wpe; first | apply wpe_then_ret) | apply wpq_nil | (apply gq_any; first | (apply kmv; refine qmv rfl rfl ?_) | (apply kas; refine qas rfl rfl ?_) | (apply kld; refine qld rfl (by exact rfl) (by exact rfl) rfl ?_) | (apply kfa; refine qfa rfl rfl ?_) | (apply kbn; first | (apply kad; refine qad rfl rfl (by omega) (by omega) rfl ?_) | (apply ksb; refine qsb rfl rfl (by omega) (by omega) rfl ?_) | refine qbn rfl rfl ?_) | (apply kln; first | refine qls rfl rfl ?_) | (apply kcl; first | refine qcl rfl ((hex_fn _ _ (bt_range _ _).1 (bt_range _ _).2)) rfl ?_) | (apply knc; refine qnc rfl rfl ?_) | (apply kix; refine qix rfl rfl (by omega) (by omega) rfl ?_)))
  · refine wpe_end (.inl rfl) (by exact .tmp rfl (.tmp rfl .nil)) _ (List.Sublist.refl _) (Grow.refl _ _) ?_
    rw [show escI s i = none by unfold escI; rw [if_neg (by omega)]]; rfl
  · refine wpe_end (.inl rfl) (by exact .tmp rfl (.tmp rfl .nil)) _ (List.Sublist.refl _) (Grow.refl _ _) ?_
    rw [show escI s i = none by unfold escI; rw [if_neg (by omega)]]; rfl
  · refine wpe_end (.inl rfl) (by exact .tmp rfl (.tmp rfl .nil)) _ (List.Sublist.refl _) (Grow.refl _ _) ?_
    rw [show escI s i = none by unfold escI; rw [if_neg (by omega)]]; rfl
  · refine wpe_end (.inl rfl) (by exact .tmp rfl (.tmp rfl .nil)) _ (List.Sublist.refl _) (Grow.refl _ _) ?_
    rw [show escI s i = none by unfold escI; rw [if_neg (by omega)]]; rfl
  · refine wpe_end (.inl rfl) (by exact .tmp rfl (.tmp rfl .nil)) _ (List.Sublist.refl _) (Grow.refl _ _) ?_
    rw [show escI s i = some (16 * hexI (bt s i) + hexI (bt s (i + 1))) by unfold escI; rw [if_pos (by omega)]]
    refine ⟨rfl, ?_⟩
    rw [lor_hex (by omega) (by omega) (by omega) (by omega), wrap8_in (by omega) (by omega)]
    rfl
end Go.Proofs.Ytgjhbambdnpcmaa
set_option linter.unusedVariables false
set_option linter.unusedSimpArgs false
namespace Go.Proofs.Ytgjhbambdnpcmaa
open Go Go.Eng
theorem name_fn (s : ByteArray) (i0 : Int) (g : Nat) (H : GH) (hs : s.size ≤ 140737488351232) (h0 : 0 ≤ i0) (h1 : i0 < s.size) : CtL Try.prog 55 [.pointer (some ⟨g, 0, none⟩)] H [.blk g (.cells #[.string s, .int .i64 i0, .slice none 0 0] 70 (0, 0)), .row 5 1 none 0 (bys [])]
    (fun r L' => if (nmI s (i0 + 1)).2.2 = 0 then ∃ V, L' = [.blk g (.cells #[.string s, .int .i64 (nmI s (i0 + 1)).2.1, V] 70 (0, 0))] ∧ r = .tuple #[.agg #[.int .i64 2, .int .i64 0, .string (bstr (nmI s (i0 + 1)).1), .int .i64 0, .int .i64 0], .int .i64 0]
      else r = .tuple #[.agg #[.int .i64 0, .int .i64 0, .string ⟨#[]⟩, .int .i64 0, .int .i64 0], .int .i64 (nmI s (i0 + 1)).2.2]) := by
  refine fn_intro Try.func55 rfl rfl (fun w => ?_)
  repeat' (first | apply wpc_seq | apply wpe_seq | apply wpl_nil | apply wpc_region | (apply g_any; first | (apply gmv; refine smv rfl rfl ?_) | (apply gas; refine sas rfl rfl ?_) | (apply gld; refine sld rfl (by exact rfl) (by exact rfl) rfl ?_) | (apply gfa; refine sfa rfl rfl ?_) | (apply gst; refine sst rfl rfl (by exact rfl) (by exact rfl) (by exact rfl) (by exact rfl) ?_) | (apply gbn; first | (apply gad; refine sad rfl rfl (by omega) (by omega) rfl ?_)) | (apply gnc; refine snc rfl rfl ?_) | (apply gal; refine sal rfl (fun _ => ?_))))
  rename_i gr
  refine scq 1 rfl rfl (more_fn s (i0 + 1) g _ _ hs (by omega) (by omega)) rfl rfl (fun r Lq hX => ?_)
  obtain ⟨rfl, rfl⟩ := hX
  refine wnL rfl ?_
  -- b, ok: what 'more' told
  obtain ⟨b0, ok0, hr, hcase⟩ : ∃ b ok, (if i0 + 1 < (s.size : Int) then Value.tuple #[.int .u8 (bt s (i0 + 1)), .bool true] else .tuple #[.int .u8 0, .bool false]) = .tuple #[.int .u8 b, .bool ok] ∧ (i0 + 1 < s.size ∧ b = bt s (i0 + 1) ∧ ok = true ∨ i0 + 1 = s.size ∧ b = 0 ∧ ok = false) := by
    by_cases h : i0 + 1 < (s.size : Int)
    · exact ⟨_, _, if_pos h, .inl ⟨h, rfl, rfl⟩⟩
    · exact ⟨_, _, if_neg h, .inr ⟨by omega, rfl, rfl⟩⟩
  rw [hr]
  repeat' (first | apply wpe_seq | apply wpl_nil | (apply g_any; first | (apply gmv; refine smv rfl rfl ?_) | (apply gas; refine sas rfl rfl ?_) | (apply gex; refine sex rfl rfl ?_)) | (apply g_wpc; first | apply wpc_block))
  refine wpc_less (l' := [(4, .int .u8 b0), (5, .bool ok0), (0, .pointer (some ⟨g, 0, none⟩)), (2, .pointer (some ⟨gr, 0, none⟩))]) ⟨rfl, rfl, rfl, rfl, trivial⟩ (List.Sublist.refl _) ?_
  refine weC [.blk gr (.cells #[.int .i64 0, .int .i64 0, .string ⟨#[]⟩, .int .i64 0, .int .i64 0] 51 (0, 0)), .blk g (.cells #[.string s, .int .i64 (i0 + 1), .slice none ([] : List Int).length 0] 70 (0, 0)), .row 5 1 none 0 (bys [])] rfl ?_
  refine wpc_loop (ι := Int × Int × Bool × List Int × Option Addr × Nat) (fun x => (x.1 < s.size ∧ x.2.1 = bt s x.1 ∧ x.2.2.1 = true ∨ x.1 = s.size ∧ x.2.1 = 0 ∧ x.2.2.1 = false) ∧ 0 ≤ x.1 ∧ x.2.2.2.1.length ≤ 127 ∧ ∃ n : Nat, s.size - x.1 ≤ (n : Int) ∧ nmI s (i0 + 1) = nmN s n x.1 x.2.2.2.1) (fun x => (s.size - x.1).toNat)
    (fun x => [(4, .int .u8 x.2.1), (5, .bool x.2.2.1), (0, .pointer (some ⟨g, 0, none⟩)), (2, .pointer (some ⟨gr, 0, none⟩))]) (fun _ => H)
    (fun x => [.blk gr (.cells #[.int .i64 0, .int .i64 0, .string ⟨#[]⟩, .int .i64 0, .int .i64 0] 51 (0, 0)), .blk g (.cells #[.string s, .int .i64 x.1, .slice x.2.2.2.2.1 x.2.2.2.1.length x.2.2.2.2.2] 70 (0, 0)), .row 5 1 x.2.2.2.2.1 x.2.2.2.2.2 (bys x.2.2.2.1)]) ?_ (i0 + 1, b0, ok0, [], none, 0) ⟨hcase, by dsimp only; omega, by simp, (s.size - (i0 + 1)).toNat, by dsimp only; omega, rfl⟩
  rintro ⟨i, b, ok, out, A, c⟩ ⟨hc, hi0, ho, n, hn, hx⟩
  dsimp only at hc hi0 ho hn hx ⊢
  -- the way out
  have fin : (¬ (i < s.size ∧ kindI (bt s i) = 2)) → nmI s (i0 + 1) = (out, i, 0) := by
    intro h
    cases n with
    | zero => rw [hx, nmN]
    | succ n => rw [hx, nmN, if_neg h]
  rcases hc with ⟨hlt, rfl, rfl⟩ | ⟨rfl, rfl, rfl⟩
  case inr =>
    repeat' (first | apply wpc_seq | apply wpe_seq | apply wpl_nil | apply wpc_region | (apply g_any; first | (apply gmv; refine smv rfl rfl ?_) | (apply gpk; refine spk rfl rfl ?_) | (apply g_guard; first | refine wpl_skip (wants_tf rfl rfl rfl) rfl ?_)) | (apply g_wpc; first | (apply g_cond; first | refine cdF rfl ?_) | apply wpc_exit) | (apply g_wpe; first | apply wpe_then_exit | apply wpe_block_eq | apply wpe_back_exit))
    refine scq 1 rfl rfl (told_fn 2 s _ g out A c _) rfl rfl (fun r Lq hX => ?_)
    obtain ⟨rfl, rfl⟩ := hX
    refine wnL rfl ?_
    repeat' (first | apply wpe_seq | apply wpl_nil | (apply g_any; first | (apply gas; refine sas rfl rfl ?_) | (apply gex; refine sex rfl rfl ?_) | (apply gst; refine sst rfl rfl (by exact rfl) (by exact rfl) (by exact rfl) (by exact rfl) ?_)) | (apply g_wpc; first | apply wpc_ret))
    refine wpe_end (.inl rfl) (by exact .cell 0 rfl rfl rfl rfl (.tmp rfl .nil)) _ (List.Sublist.cons _ (List.Sublist.refl _)) (Grow.refl _ _) ?_
    rw [fin (by omega)]
    exact ⟨_, rfl, rfl⟩

  have hbr := bt_range s i
  have hr1 := hexI_range (bt s (i + 1))
  have hr2 := hexI_range (bt s (i + 1 + 1))
  repeat' (first | apply wpc_seq | apply wpe_seq | apply wpl_nil | apply wpc_region | (apply g_any; first | (apply gmv; refine smv rfl rfl ?_) | (apply gld; refine sld rfl (by exact rfl) (by exact rfl) rfl ?_) | (apply gfa; refine sfa rfl rfl ?_) | (apply gst; refine sst rfl rfl (by exact rfl) (by exact rfl) (by exact rfl) (by exact rfl) ?_) | (apply gbn; first | (apply gad; refine sad rfl rfl (by omega) (by omega) rfl ?_) | refine sbn rfl rfl ?_) | (apply gcl; first | refine scl rfl ((kind_fn _ _)) rfl ?_) | (apply gpk; refine spk rfl rfl ?_) | (apply gnc; refine snc rfl rfl ?_) | (apply g_guard; first | refine wpl_wanted (wants_tt rfl rfl rfl) ?_)) | (apply g_wpc; first | apply wpc_block | (apply g_cond; first | (refine cdD rfl (fun hb => ?_) (fun hb => ?_) <;> (try (exfalso; first | (with_reducible exact absurd (by assumption) hb) | (with_reducible exact absurd hb (by assumption)) | omega)))) | apply wpc_skip | apply wpc_exit) | (apply g_wpe; first | apply wpe_then_exit | apply wpe_block_eq | apply wpe_back_exit))
  case' inl.refine_1.refine_1 =>
    cases n with
    | zero => exfalso; omega
    | succ n =>
    rw [nmN, if_pos ⟨hlt, by assumption⟩, if_pos hb] at hx
    refine scq 1 rfl rfl (escaped_fn s (i + 1) g _ _ hs (by omega) (by omega)) rfl rfl (fun r Lq hX => ?_)
    cases he : escI s (i + 1) with
    | none =>
      rw [he] at hX hx
      dsimp only at hX hx
      subst hX
      refine wpl_drop [.blk gr (.cells #[.int .i64 0, .int .i64 0, .string ⟨#[]⟩, .int .i64 0, .int .i64 0] 51 (0, 0))] (List.Sublist.cons_cons _ (List.nil_sublist _)) ?_
      repeat' (first | apply wpc_seq | apply wpe_seq | apply wpl_nil | apply wpc_region | (apply g_any; first | (apply gmv; refine smv rfl rfl ?_) | (apply gas; refine sas rfl rfl ?_) | (apply gex; refine sex rfl rfl ?_) | (apply gst; refine sst rfl rfl (by exact rfl) (by exact rfl) (by exact rfl) (by exact rfl) ?_) | (apply gcl; first | refine scl rfl (bad_fn _ _) rfl ?_) | (apply gun; refine sun rfl rfl ?_)) | (apply g_wpc; first | (apply g_cond; first | refine cdT rfl ?_) | apply wpc_ret) | (apply g_wpe; first | apply wpe_then_ret | apply wpe_block_ret | apply wpe_back_ret))
      refine wpe_end (.inl rfl) (by exact .cell 0 rfl rfl rfl rfl (.tmp rfl .nil)) [] (List.nil_sublist _) (Grow.refl _ _) ?_
      rw [hx]; rfl
    | some x =>
      have hsz : i + 1 + 2 ≤ s.size ∧ x = 16 * hexI (bt s (i + 1)) + hexI (bt s (i + 1 + 1)) := by
        unfold escI at he
        split at he
        · simp only [Option.some.injEq] at he
          exact ⟨by omega, he.symm⟩
        · cases he
      obtain ⟨hsz, rfl⟩ := hsz
      rw [he] at hX hx
      dsimp only at hX hx
      rw [show i + 3 = i + 1 + 2 by omega] at hx
      obtain ⟨rfl, rfl⟩ := hX
      refine wnL rfl ?_
      repeat' (first | apply wpc_seq | apply wpe_seq | apply wpl_nil | apply wpc_region | (apply g_any; first | (refine sb1 rfl rfl rfl rfl rfl rfl rfl (fun _ => ?_)) | (refine sapb rfl rfl (by omega) rfl rfl (by omega) rfl (fun _ _ => ?_); refine wnL rfl ?_) | (apply gmv; refine smv rfl rfl ?_) | (apply gas; refine sas rfl rfl ?_) | (apply gld; refine sld rfl (by exact rfl) (by exact rfl) rfl ?_) | (apply gfa; refine sfa rfl rfl ?_) | (apply gex; refine sex rfl rfl ?_) | (apply gst; refine sst rfl rfl (by exact rfl) (by exact rfl) (by exact rfl) (by exact rfl) ?_) | (apply gbn; first | refine sbn rfl rfl ?_) | (apply gln; first | refine slm rfl rfl ?_) | (apply gcl; first | refine scl rfl (bad_fn _ _) rfl ?_) | (apply gnc; refine snc rfl rfl ?_) | (apply gun; refine sun rfl rfl ?_)) | (apply g_wpc; first | (apply g_cond; first | refine cdF rfl ?_ | (refine cdD rfl (fun hb => ?_) (fun hb => ?_) <;> (try (exfalso; first | (with_reducible exact absurd (by assumption) hb) | (with_reducible exact absurd hb (by assumption)) | omega)))) | apply wpc_skip | apply wpc_ret) | (apply g_wpe; first | apply wpe_block | apply wpe_then_ret | apply wpe_block_ret | apply wpe_back_ret))
      · rw [if_pos (by omega)] at hx
        refine wpe_end (.inl rfl) (by exact .cell 1 rfl rfl rfl rfl (.tmp rfl .nil)) [] (List.nil_sublist _) (Grow.refl _ _) ?_
        rw [hx]; rfl
      · rename_i g1 A1 c1
        rw [if_neg (by omega)] at hx
        refine scq 2 rfl rfl (more_fn s (i + 1 + 2) g _ _ hs (by omega) (by omega)) rfl rfl (fun r Lq hX => ?_)
        obtain ⟨rfl, rfl⟩ := hX
        refine wnL rfl ?_
        by_cases hn1 : i + 1 + 2 < (s.size : Int)
        · rw [if_pos hn1]
          repeat' (first | apply wpl_nil | (apply g_any; first | (apply gmv; refine smv rfl rfl ?_) | (apply gas; refine sas rfl rfl ?_) | (apply gex; refine sex rfl rfl ?_)))
          exact wpe_back (i + 1 + 2, bt s (i + 1 + 2), true, out ++ [16 * hexI (bt s (i + 1)) + hexI (bt s (i + 1 + 1))], A1, c1) ⟨.inl ⟨hn1, rfl, rfl⟩, by dsimp only; omega, by dsimp only; omega, n, by dsimp only; omega, hx⟩ (by dsimp only; omega) ⟨rfl, rfl, rfl, rfl, trivial⟩ rfl (by repeat' (first | exact List.Sublist.slnil | apply List.Sublist.cons_cons | apply List.Sublist.cons))
        · rw [if_neg hn1]
          repeat' (first | apply wpl_nil | (apply g_any; first | (apply gmv; refine smv rfl rfl ?_) | (apply gas; refine sas rfl rfl ?_) | (apply gex; refine sex rfl rfl ?_)))
          exact wpe_back (i + 1 + 2, 0, false, out ++ [16 * hexI (bt s (i + 1)) + hexI (bt s (i + 1 + 1))], A1, c1) ⟨.inr ⟨by dsimp only; omega, rfl, rfl⟩, by dsimp only; omega, by dsimp only; omega, n, by dsimp only; omega, hx⟩ (by dsimp only; omega) ⟨rfl, rfl, rfl, rfl, trivial⟩ rfl (by repeat' (first | exact List.Sublist.slnil | apply List.Sublist.cons_cons | apply List.Sublist.cons))

  case' inl.refine_1.refine_2 =>
    cases n with
    | zero => exfalso; omega
    | succ n =>
      rw [nmN, if_pos ⟨hlt, by assumption⟩, if_neg hb] at hx
      repeat' (first | apply wpc_seq | apply wpe_seq | apply wpl_nil | apply wpc_region | (apply g_any; first | (refine sb1 rfl rfl rfl rfl rfl rfl rfl (fun _ => ?_)) | (refine sapb rfl rfl (by omega) rfl rfl (by omega) rfl (fun _ _ => ?_); refine wnL rfl ?_) | (apply gmv; refine smv rfl rfl ?_) | (apply gas; refine sas rfl rfl ?_) | (apply gld; refine sld rfl (by exact rfl) (by exact rfl) rfl ?_) | (apply gfa; refine sfa rfl rfl ?_) | (apply gex; refine sex rfl rfl ?_) | (apply gst; refine sst rfl rfl (by exact rfl) (by exact rfl) (by exact rfl) (by exact rfl) ?_) | (apply gbn; first | refine sbn rfl rfl ?_) | (apply gln; first | refine slm rfl rfl ?_) | (apply gcl; first | refine scl rfl (bad_fn _ _) rfl ?_) | (apply gnc; refine snc rfl rfl ?_)) | (apply g_wpc; first | (apply g_cond; first | (refine cdD rfl (fun hb => ?_) (fun hb => ?_) <;> (try (exfalso; first | (with_reducible exact absurd (by assumption) hb) | (with_reducible exact absurd hb (by assumption)) | omega)))) | apply wpc_skip | apply wpc_ret) | (apply g_wpe; first | apply wpe_block | apply wpe_then_ret | apply wpe_block_ret | apply wpe_back_ret))
      · rw [if_pos (by omega)] at hx
        refine wpe_end (.inl rfl) (by exact .cell 1 rfl rfl rfl rfl (.tmp rfl .nil)) [] (List.nil_sublist _) (Grow.refl _ _) ?_
        rw [hx]; rfl
      · rename_i g1 A1 c1
        rw [if_neg (by omega)] at hx
        refine scq 2 rfl rfl (more_fn s (i + 1) g _ _ hs (by omega) (by omega)) rfl rfl (fun r Lq hX => ?_)
        obtain ⟨rfl, rfl⟩ := hX
        refine wnL rfl ?_
        by_cases hn1 : i + 1 < (s.size : Int)
        · rw [if_pos hn1]
          repeat' (first | apply wpl_nil | (apply g_any; first | (apply gmv; refine smv rfl rfl ?_) | (apply gas; refine sas rfl rfl ?_) | (apply gex; refine sex rfl rfl ?_)))
          exact wpe_back (i + 1, bt s (i + 1), true, out ++ [bt s i], A1, c1) ⟨.inl ⟨hn1, rfl, rfl⟩, by dsimp only; omega, by dsimp only; omega, n, by dsimp only; omega, hx⟩ (by dsimp only; omega) ⟨rfl, rfl, rfl, rfl, trivial⟩ rfl (by repeat' (first | exact List.Sublist.slnil | apply List.Sublist.cons_cons | apply List.Sublist.cons))
        · rw [if_neg hn1]
          repeat' (first | apply wpl_nil | (apply g_any; first | (apply gmv; refine smv rfl rfl ?_) | (apply gas; refine sas rfl rfl ?_) | (apply gex; refine sex rfl rfl ?_)))
          exact wpe_back (i + 1, 0, false, out ++ [bt s i], A1, c1) ⟨.inr ⟨by dsimp only; omega, rfl, rfl⟩, by dsimp only; omega, by dsimp only; omega, n, by dsimp only; omega, hx⟩ (by dsimp only; omega) ⟨rfl, rfl, rfl, rfl, trivial⟩ rfl (by repeat' (first | exact List.Sublist.slnil | apply List.Sublist.cons_cons | apply List.Sublist.cons))

  case' inl.refine_2 =>
    refine scq 1 rfl rfl (told_fn 2 s _ g out A c _) rfl rfl (fun r Lq hX => ?_)
    obtain ⟨rfl, rfl⟩ := hX
    refine wnL rfl ?_
    repeat' (first | apply wpe_seq | apply wpl_nil | (apply g_any; first | (apply gas; refine sas rfl rfl ?_) | (apply gex; refine sex rfl rfl ?_) | (apply gst; refine sst rfl rfl (by exact rfl) (by exact rfl) (by exact rfl) (by exact rfl) ?_)) | (apply g_wpc; first | apply wpc_ret))
    refine wpe_end (.inl rfl) (by exact .cell 0 rfl rfl rfl rfl (.tmp rfl .nil)) _ (List.Sublist.cons _ (List.Sublist.refl _)) (Grow.refl _ _) ?_
    rw [fin (by omega)]
    exact ⟨_, rfl, rfl⟩

end Go.Proofs.Ytgjhbambdnpcmaa
