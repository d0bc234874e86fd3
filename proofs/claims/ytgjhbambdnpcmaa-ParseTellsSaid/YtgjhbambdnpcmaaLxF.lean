/- Proved on the way: Contracts: the scanner's texts in brackets. Contracts: texts of digits, the reference's. -/
import Derived.Test.YtgjhbambdnpcmaaLxE
set_option linter.unusedVariables false
set_option linter.unusedSimpArgs false
namespace Go.Proofs.Ytgjhbambdnpcmaa
open Go Go.Eng
theorem text_fn (s : ByteArray) (i0 : Int) (g : Nat) (H : GH) (hs : s.size ≤ 140737488351232) (h0 : 0 ≤ i0) (h1 : i0 < s.size) : CtL Try.prog 56 [.pointer (some ⟨g, 0, none⟩)] H [.blk g (.cells #[.string s, .int .i64 i0, .slice none 0 0] 70 (0, 0)), .row 5 1 none 0 (bys [])]
    (fun r L' => if (txI s (i0 + 1)).2.2 = 0 then ∃ V, L' = [.blk g (.cells #[.string s, .int .i64 (txI s (i0 + 1)).2.1, V] 70 (0, 0))] ∧ r = .tuple #[.agg #[.int .i64 3, .int .i64 0, .string (bstr (txI s (i0 + 1)).1), .int .i64 0, .int .i64 0], .int .i64 0]
      else r = .tuple #[.agg #[.int .i64 0, .int .i64 0, .string ⟨#[]⟩, .int .i64 0, .int .i64 0], .int .i64 (txI s (i0 + 1)).2.2]) := by
  refine fn_intro Try.func56 rfl rfl (fun w => ?_)
  repeat' (first | apply wpc_seq | apply wpe_seq | apply wpl_nil | apply wpc_region | (apply g_any; first | (apply gmv; refine smv rfl rfl ?_) | (apply gas; refine sas rfl rfl ?_) | (apply gld; refine sld rfl (by exact rfl) (by exact rfl) rfl ?_) | (apply gfa; refine sfa rfl rfl ?_) | (apply gst; refine sst rfl rfl (by exact rfl) (by exact rfl) (by exact rfl) (by exact rfl) ?_) | (apply gbn; first | (apply gad; refine sad rfl rfl (by omega) (by omega) rfl ?_)) | (apply gnc; refine snc rfl rfl ?_) | (apply gal; refine sal rfl (fun _ => ?_))) | (apply g_wpc; first | apply wpc_block | apply wpc_label | apply wpc_scope))
  rename_i gr
  refine wpc_less (l' := [(4, .int .i64 1), (0, .pointer (some ⟨g, 0, none⟩)), (2, .pointer (some ⟨gr, 0, none⟩))]) ⟨rfl, rfl, rfl, trivial⟩ (List.Sublist.refl _) ?_
  refine weC [.blk gr (.cells #[.int .i64 0, .int .i64 0, .string ⟨#[]⟩, .int .i64 0, .int .i64 0] 51 (0, 0)), .blk g (.cells #[.string s, .int .i64 (i0 + 1), .slice none ([] : List Int).length 0] 70 (0, 0)), .row 5 1 none 0 (bys [])] rfl ?_
  refine wpc_loop (ι := Int × Int × List Int × Option Addr × Nat) (fun x => 0 ≤ x.1 ∧ x.1 ≤ s.size ∧ 1 ≤ x.2.1 ∧ x.2.1 ≤ x.1 + 1 ∧ x.2.2.1.length ≤ 65535 ∧ ∃ n : Nat, s.size - x.1 ≤ (n : Int) ∧ txI s (i0 + 1) = txN s n x.1 x.2.1 x.2.2.1) (fun x => (s.size - x.1).toNat)
    (fun x => [(4, .int .i64 x.2.1), (0, .pointer (some ⟨g, 0, none⟩)), (2, .pointer (some ⟨gr, 0, none⟩))]) (fun _ => H)
    (fun x => [.blk gr (.cells #[.int .i64 0, .int .i64 0, .string ⟨#[]⟩, .int .i64 0, .int .i64 0] 51 (0, 0)), .blk g (.cells #[.string s, .int .i64 x.1, .slice x.2.2.2.1 x.2.2.1.length x.2.2.2.2] 70 (0, 0)), .row 5 1 x.2.2.2.1 x.2.2.2.2 (bys x.2.2.1)]) ?_ (i0 + 1, 1, [], none, 0) ⟨by dsimp only; omega, by dsimp only; omega, by simp, by dsimp only; omega, by simp, (s.size - (i0 + 1)).toNat, by dsimp only; omega, rfl⟩
  rintro ⟨i, d, out, A, c⟩ ⟨hi0, hi1, hd0, hd1, ho, n, hn, hx⟩
  dsimp only at hi0 hi1 hd0 hd1 ho hn hx ⊢
  by_cases hin : i < s.size
  case neg =>
    have hx' : txI s (i0 + 1) = ([], 0, 5) := by
      cases n with
      | zero => rw [hx, txN]
      | succ n => rw [hx, txN, if_neg hin]
    repeat' (first | apply wpc_seq | apply wpe_seq | apply wpl_nil | apply wpc_region | (apply g_any; first | (apply gas; refine sas rfl rfl ?_) | (apply gex; refine sex rfl rfl ?_) | (apply gst; refine sst rfl rfl (by exact rfl) (by exact rfl) (by exact rfl) (by exact rfl) ?_) | (apply gcl; first | refine scl rfl (bad_fn _ _) rfl ?_)) | (apply g_wpc; first | (apply g_cond; first | (refine cdD rfl (fun hb => ?_) (fun hb => ?_) <;> (try (exfalso; first | (with_reducible exact absurd (by assumption) hb) | (with_reducible exact absurd hb (by assumption)) | omega)))) | apply wpc_exit | apply wpc_ret | (apply g_draw; refine wpc_quiet mixed (by kernel_rfl) ?_)) | (apply g_wpe; first | apply wpe_then_exit | apply wpe_block_eq | apply wpe_back_exit | apply wpe_scope_ret) | apply wpq_nil | (apply gq_any; first | (apply kmv; refine qmv rfl rfl ?_) | (apply kld; refine qld rfl (by exact rfl) (by exact rfl) rfl ?_) | (apply kfa; refine qfa rfl rfl ?_) | (apply kbn; first | refine qbn rfl rfl ?_) | (apply kln; first | refine qls rfl rfl ?_) | (apply knc; refine qnc rfl rfl ?_)))
    refine wpe_end (.inl rfl) (by exact .cell 0 rfl rfl rfl rfl (.tmp rfl .nil)) [] (List.nil_sublist _) (Grow.refl _ _) ?_
    rw [hx']; rfl
  cases n with
  | zero => exfalso; omega
  | succ n =>
  rw [txN, if_pos hin] at hx
  have her := endsI_range s i
  have hmr := mnI_range (s := s) (a := i + 1) (by omega) (by omega)
  have hbr := bt_range s i
  have stp : ∀ t a' d', stI s i d = (t, a', d') → txI s (i0 + 1) = if a' < 0 then ([], 0, 5) else if d' = 0 then (out, a', 0) else if 65535 < (out ++ t).length then ([], 0, 8) else txN s n a' d' (out ++ t) := by
    intro t a' d' h
    rw [hx, h]
  have hm1 : 0 < endsI s i → i + max 1 (endsI s i) = i + endsI s i := fun h => by omega
  have hm2 : ¬ 0 < endsI s i → i + max 1 (endsI s i) = i + 1 := fun h => by omega
  repeat' (first | apply wpc_seq | apply wpe_seq | apply wpl_nil | apply wpc_region | (apply g_any; first | (apply gmv; refine smv rfl rfl ?_) | (apply gas; refine sas rfl rfl ?_) | (apply gld; refine sld rfl (by exact rfl) (by exact rfl) rfl ?_) | (apply gfa; refine sfa rfl rfl ?_) | (apply gst; refine sst rfl rfl (by exact rfl) (by exact rfl) (by exact rfl) (by exact rfl) ?_) | (apply gbn; first | (apply gad; refine sad rfl rfl (by omega) (by omega) rfl ?_) | (apply gsb; refine ssb rfl rfl (by omega) (by omega) rfl ?_) | refine sbn rfl rfl ?_) | (apply gmx; refine smx rfl rfl rfl ?_) | (apply gnc; refine snc rfl rfl ?_)) | (apply g_wpc; first | apply wpc_block | (apply g_cond; first | (refine cdD rfl (fun hb => ?_) (fun hb => ?_) <;> (try (exfalso; first | (with_reducible exact absurd (by assumption) hb) | (with_reducible exact absurd hb (by assumption)) | omega)))) | apply wpc_skip | (apply g_draw; refine wpc_quiet mixed (by kernel_rfl) ?_)) | (apply g_wpe; first | apply wpe_block) | apply wpq_nil | (apply gq_any; first | (apply kmv; refine qmv rfl rfl ?_) | (apply kas; refine qas rfl rfl ?_) | (apply kld; refine qld rfl (by exact rfl) (by exact rfl) rfl ?_) | (apply kfa; refine qfa rfl rfl ?_) | (apply kbn; first | refine qbn rfl rfl ?_) | (apply kln; first | refine qls rfl rfl ?_) | (apply kcl; first | refine qcl rfl (ends_fn _ _ _ hs) rfl ?_) | (apply knc; refine qnc rfl rfl ?_) | (apply kix; refine qix rfl rfl (by omega) (by omega) rfl ?_)))
  · have this := stp [10] (i + endsI s i) (d) (by rw [stI, if_pos (by omega)])
    rw [← hm1 (by assumption)] at this
    repeat' (first | apply wpc_seq | apply wpe_seq | apply wpl_nil | apply wpc_region | (apply g_any; first | (refine sb1 rfl rfl rfl rfl rfl rfl rfl (fun _ => ?_)) | (refine sapb rfl rfl (by omega) rfl rfl (by omega) rfl (fun _ _ => ?_); refine wnL rfl ?_) | (apply gmv; refine smv rfl rfl ?_) | (apply gas; refine sas rfl rfl ?_) | (apply gld; refine sld rfl (by exact rfl) (by exact rfl) rfl ?_) | (apply gfa; refine sfa rfl rfl ?_) | (apply gex; refine sex rfl rfl ?_) | (apply gst; refine sst rfl rfl (by exact rfl) (by exact rfl) (by exact rfl) (by exact rfl) ?_) | (apply gbn; first | refine sbn rfl rfl ?_) | (apply gln; first | refine slm rfl rfl ?_) | (apply gcl; first | refine scl rfl (bad_fn _ _) rfl ?_) | (apply gnc; refine snc rfl rfl ?_)) | (apply g_wpc; first | (apply g_cond; first | (refine cdD rfl (fun hb => ?_) (fun hb => ?_) <;> (try (exfalso; first | (with_reducible exact absurd (by assumption) hb) | (with_reducible exact absurd hb (by assumption)) | omega)))) | apply wpc_skip | apply wpc_ret) | (apply g_wpe; first | apply wpe_block | apply wpe_then_ret | apply wpe_block_ret | apply wpe_back_ret | apply wpe_scope_ret))
    · rw [if_neg (by omega), if_neg (by omega), if_pos (by omega)] at this
      refine wpe_end (.inl rfl) (by exact .cell 1 rfl rfl rfl rfl (.tmp rfl .nil)) [] (List.nil_sublist _) (Grow.refl _ _) ?_
      rw [this]; rfl
    · rename_i g1 A1 c1
      rw [if_neg (by omega), if_neg (by omega), if_neg (by omega)] at this
      exact wpe_back (i + max 1 (endsI s i), d, out ++ [10], A1, c1) ⟨by dsimp only; omega, by dsimp only; omega, by dsimp only; omega, by dsimp only; omega, by dsimp only; omega, n, by dsimp only; omega, this⟩ (by dsimp only; omega) ⟨rfl, rfl, rfl, trivial⟩ rfl (by repeat' (first | exact List.Sublist.slnil | apply List.Sublist.cons_cons | apply List.Sublist.cons))
  · have this := stp (mnI s (i + 1)).1 (mnI s (i + 1)).2 d (by rw [stI, if_neg (by omega), if_pos (by omega)])
    refine scq 1 rfl rfl (escape_fn s (i + max 1 (endsI s i)) g out A c _ hs (by omega) (by omega) (by omega)) rfl rfl (fun r Lq hX => ?_)
    rw [hm2 (by assumption)] at hX
    by_cases hneg : (mnI s (i + 1)).2 < 0
    · rw [if_pos hneg] at hX
      subst hX
      refine wpl_drop [.blk gr (.cells #[.int .i64 0, .int .i64 0, .string ⟨#[]⟩, .int .i64 0, .int .i64 0] 51 (0, 0))] (List.Sublist.cons_cons _ (List.nil_sublist _)) ?_
      rw [if_pos hneg] at this
      repeat' (first | apply wpc_seq | apply wpe_seq | apply wpl_nil | apply wpc_region | (apply g_any; first | (apply gas; refine sas rfl rfl ?_) | (apply gex; refine sex rfl rfl ?_) | (apply gst; refine sst rfl rfl (by exact rfl) (by exact rfl) (by exact rfl) (by exact rfl) ?_) | (apply gcl; first | refine scl rfl (bad_fn _ _) rfl ?_) | (apply gun; refine sun rfl rfl ?_)) | (apply g_wpc; first | (apply g_cond; first | refine cdT rfl ?_) | apply wpc_exit | apply wpc_ret) | (apply g_wpe; first | apply wpe_then_exit | apply wpe_block_eq | (apply g_exit; refine wpe_block_ne rfl ?_) | apply wpe_back_exit | apply wpe_scope_ret))
      refine wpe_end (.inl rfl) (by exact .cell 0 rfl rfl rfl rfl (.tmp rfl .nil)) [] (List.nil_sublist _) (Grow.refl _ _) ?_
      rw [this]; rfl
    · rw [if_neg hneg] at hX
      obtain ⟨rfl, A1, c1, rfl⟩ := hX
      refine wnL rfl ?_
      repeat' (first | apply wpc_seq | apply wpe_seq | apply wpl_nil | apply wpc_region | (apply g_any; first | (apply gmv; refine smv rfl rfl ?_) | (apply gas; refine sas rfl rfl ?_) | (apply gld; refine sld rfl (by exact rfl) (by exact rfl) rfl ?_) | (apply gfa; refine sfa rfl rfl ?_) | (apply gex; refine sex rfl rfl ?_) | (apply gst; refine sst rfl rfl (by exact rfl) (by exact rfl) (by exact rfl) (by exact rfl) ?_) | (apply gbn; first | refine sbn rfl rfl ?_) | (apply gln; first | refine slm rfl rfl ?_) | (apply gcl; first | refine scl rfl (bad_fn _ _) rfl ?_) | (apply gnc; refine snc rfl rfl ?_) | (apply gun; refine sun rfl rfl ?_)) | (apply g_wpc; first | (apply g_cond; first | refine cdF rfl ?_ | (refine cdD rfl (fun hb => ?_) (fun hb => ?_) <;> (try (exfalso; first | (with_reducible exact absurd (by assumption) hb) | (with_reducible exact absurd hb (by assumption)) | omega)))) | apply wpc_skip | apply wpc_exit | apply wpc_ret) | (apply g_wpe; first | apply wpe_then_exit | apply wpe_block_eq | (apply g_exit; refine wpe_block_ne rfl ?_) | apply wpe_then_ret | apply wpe_block_ret | apply wpe_back_ret | apply wpe_scope_ret))
      · rw [if_neg (by omega), if_neg (by omega), if_pos (by omega)] at this
        refine wpe_end (.inl rfl) (by exact .cell 0 rfl rfl rfl rfl (.tmp rfl .nil)) [] (List.nil_sublist _) (Grow.refl _ _) ?_
        rw [this]; rfl
      · rw [if_neg (by omega), if_neg (by omega), if_neg (by omega)] at this
        exact wpe_back ((mnI s (i + 1)).2, d, out ++ (mnI s (i + 1)).1, A1, c1) ⟨by dsimp only; omega, by dsimp only; omega, by dsimp only; omega, by dsimp only; omega, by dsimp only; omega, n, by dsimp only; omega, this⟩ (by dsimp only; omega) ⟨rfl, rfl, rfl, trivial⟩ rfl (by repeat' (first | exact List.Sublist.slnil | apply List.Sublist.cons_cons | apply List.Sublist.cons))
  · have this := stp [bt s i] (i + 1) (d + 1) (by rw [stI, if_neg (by omega), if_neg (by omega), if_pos (by omega), ‹bt s i = 40›])
    rw [← hm2 (by assumption)] at this
    repeat' (first | apply wpc_seq | apply wpe_seq | apply wpl_nil | apply wpc_region | (apply g_any; first | (refine sb1 rfl rfl rfl rfl rfl rfl rfl (fun _ => ?_)) | (refine sapb rfl rfl (by omega) rfl rfl (by omega) rfl (fun _ _ => ?_); refine wnL rfl ?_) | (apply gmv; refine smv rfl rfl ?_) | (apply gas; refine sas rfl rfl ?_) | (apply gld; refine sld rfl (by exact rfl) (by exact rfl) rfl ?_) | (apply gfa; refine sfa rfl rfl ?_) | (apply gex; refine sex rfl rfl ?_) | (apply gst; refine sst rfl rfl (by exact rfl) (by exact rfl) (by exact rfl) (by exact rfl) ?_) | (apply gbn; first | refine sbn rfl rfl ?_) | (apply gln; first | refine slm rfl rfl ?_) | (apply gcl; first | refine scl rfl (bad_fn _ _) rfl ?_) | (apply gnc; refine snc rfl rfl ?_)) | (apply g_wpc; first | (apply g_cond; first | (refine cdD rfl (fun hb => ?_) (fun hb => ?_) <;> (try (exfalso; first | (with_reducible exact absurd (by assumption) hb) | (with_reducible exact absurd hb (by assumption)) | omega)))) | apply wpc_skip | apply wpc_ret) | (apply g_wpe; first | apply wpe_block | apply wpe_then_ret | apply wpe_block_ret | apply wpe_back_ret | apply wpe_scope_ret))
    · rw [if_neg (by omega), if_neg (by omega), if_pos (by omega)] at this
      refine wpe_end (.inl rfl) (by exact .cell 1 rfl rfl rfl rfl (.tmp rfl .nil)) [] (List.nil_sublist _) (Grow.refl _ _) ?_
      rw [this]; rfl
    · rename_i g1 A1 c1
      rw [if_neg (by omega), if_neg (by omega), if_neg (by omega)] at this
      exact wpe_back (i + max 1 (endsI s i), d + 1, out ++ [bt s i], A1, c1) ⟨by dsimp only; omega, by dsimp only; omega, by dsimp only; omega, by dsimp only; omega, by dsimp only; omega, n, by dsimp only; omega, this⟩ (by dsimp only; omega) ⟨rfl, rfl, rfl, trivial⟩ rfl (by repeat' (first | exact List.Sublist.slnil | apply List.Sublist.cons_cons | apply List.Sublist.cons))
  · have this := stp [41] (i + 1) (d - 1) (by rw [stI, if_neg (by omega), if_neg (by omega), if_neg (by omega), if_pos (by omega)])
    rw [← hm2 (by assumption)] at this
    rw [if_neg (by omega), if_pos (by omega)] at this
    refine scq 1 rfl rfl (told_fn 3 s _ g out A c _) rfl rfl (fun r Lq hX => ?_)
    obtain ⟨rfl, rfl⟩ := hX
    refine wnL rfl ?_
    repeat' (first | apply wpe_seq | apply wpl_nil | (apply g_any; first | (apply gas; refine sas rfl rfl ?_) | (apply gex; refine sex rfl rfl ?_) | (apply gst; refine sst rfl rfl (by exact rfl) (by exact rfl) (by exact rfl) (by exact rfl) ?_)) | (apply g_wpc; first | apply wpc_ret) | (apply g_wpe; first | apply wpe_then_ret | apply wpe_block_ret | apply wpe_back_ret | apply wpe_scope_ret))
    refine wpe_end (.inl rfl) (by exact .cell 0 rfl rfl rfl rfl (.tmp rfl .nil)) _ (List.Sublist.cons _ (List.Sublist.refl _)) (Grow.refl _ _) ?_
    rw [this]
    exact ⟨_, rfl, rfl⟩
  · have this := stp [bt s i] (i + 1) (d - 1) (by rw [stI, if_neg (by omega), if_neg (by omega), if_neg (by omega), if_pos (by omega), ‹bt s i = 41›])
    rw [← hm2 (by assumption)] at this
    repeat' (first | apply wpc_seq | apply wpe_seq | apply wpl_nil | apply wpc_region | (apply g_any; first | (refine sb1 rfl rfl rfl rfl rfl rfl rfl (fun _ => ?_)) | (refine sapb rfl rfl (by omega) rfl rfl (by omega) rfl (fun _ _ => ?_); refine wnL rfl ?_) | (apply gmv; refine smv rfl rfl ?_) | (apply gas; refine sas rfl rfl ?_) | (apply gld; refine sld rfl (by exact rfl) (by exact rfl) rfl ?_) | (apply gfa; refine sfa rfl rfl ?_) | (apply gex; refine sex rfl rfl ?_) | (apply gst; refine sst rfl rfl (by exact rfl) (by exact rfl) (by exact rfl) (by exact rfl) ?_) | (apply gbn; first | refine sbn rfl rfl ?_) | (apply gln; first | refine slm rfl rfl ?_) | (apply gcl; first | refine scl rfl (bad_fn _ _) rfl ?_) | (apply gnc; refine snc rfl rfl ?_)) | (apply g_wpc; first | (apply g_cond; first | (refine cdD rfl (fun hb => ?_) (fun hb => ?_) <;> (try (exfalso; first | (with_reducible exact absurd (by assumption) hb) | (with_reducible exact absurd hb (by assumption)) | omega)))) | apply wpc_skip | apply wpc_ret) | (apply g_wpe; first | apply wpe_block | apply wpe_then_ret | apply wpe_block_ret | apply wpe_back_ret | apply wpe_scope_ret))
    · rw [if_neg (by omega), if_neg (by omega), if_pos (by omega)] at this
      refine wpe_end (.inl rfl) (by exact .cell 1 rfl rfl rfl rfl (.tmp rfl .nil)) [] (List.nil_sublist _) (Grow.refl _ _) ?_
      rw [this]; rfl
    · rename_i g1 A1 c1
      rw [if_neg (by omega), if_neg (by omega), if_neg (by omega)] at this
      exact wpe_back (i + max 1 (endsI s i), d - 1, out ++ [bt s i], A1, c1) ⟨by dsimp only; omega, by dsimp only; omega, by dsimp only; omega, by dsimp only; omega, by dsimp only; omega, n, by dsimp only; omega, this⟩ (by dsimp only; omega) ⟨rfl, rfl, rfl, trivial⟩ rfl (by repeat' (first | exact List.Sublist.slnil | apply List.Sublist.cons_cons | apply List.Sublist.cons))
  · have this := stp [bt s i] (i + 1) (d) (by rw [stI, if_neg (by omega), if_neg (by omega), if_neg (by omega), if_neg (by omega)])
    rw [← hm2 (by assumption)] at this
    repeat' (first | apply wpc_seq | apply wpe_seq | apply wpl_nil | apply wpc_region | (apply g_any; first | (refine sb1 rfl rfl rfl rfl rfl rfl rfl (fun _ => ?_)) | (refine sapb rfl rfl (by omega) rfl rfl (by omega) rfl (fun _ _ => ?_); refine wnL rfl ?_) | (apply gmv; refine smv rfl rfl ?_) | (apply gas; refine sas rfl rfl ?_) | (apply gld; refine sld rfl (by exact rfl) (by exact rfl) rfl ?_) | (apply gfa; refine sfa rfl rfl ?_) | (apply gex; refine sex rfl rfl ?_) | (apply gst; refine sst rfl rfl (by exact rfl) (by exact rfl) (by exact rfl) (by exact rfl) ?_) | (apply gbn; first | refine sbn rfl rfl ?_) | (apply gln; first | refine slm rfl rfl ?_) | (apply gcl; first | refine scl rfl (bad_fn _ _) rfl ?_) | (apply gnc; refine snc rfl rfl ?_)) | (apply g_wpc; first | (apply g_cond; first | (refine cdD rfl (fun hb => ?_) (fun hb => ?_) <;> (try (exfalso; first | (with_reducible exact absurd (by assumption) hb) | (with_reducible exact absurd hb (by assumption)) | omega)))) | apply wpc_skip | apply wpc_ret) | (apply g_wpe; first | apply wpe_block | apply wpe_then_ret | apply wpe_block_ret | apply wpe_back_ret | apply wpe_scope_ret))
    · rw [if_neg (by omega), if_neg (by omega), if_pos (by omega)] at this
      refine wpe_end (.inl rfl) (by exact .cell 1 rfl rfl rfl rfl (.tmp rfl .nil)) [] (List.nil_sublist _) (Grow.refl _ _) ?_
      rw [this]; rfl
    · rename_i g1 A1 c1
      rw [if_neg (by omega), if_neg (by omega), if_neg (by omega)] at this
      exact wpe_back (i + max 1 (endsI s i), d, out ++ [bt s i], A1, c1) ⟨by dsimp only; omega, by dsimp only; omega, by dsimp only; omega, by dsimp only; omega, by dsimp only; omega, n, by dsimp only; omega, this⟩ (by dsimp only; omega) ⟨rfl, rfl, rfl, trivial⟩ rfl (by repeat' (first | exact List.Sublist.slnil | apply List.Sublist.cons_cons | apply List.Sublist.cons))
end Go.Proofs.Ytgjhbambdnpcmaa
set_option linter.unusedVariables false
set_option linter.unusedSimpArgs false
namespace Go.Proofs.Ytgjhbambdnpcmaa
open Go Go.Eng
def hxN (s : ByteArray) : Nat → Int → List Int → Int → List Int × Int × Int
  | 0, _, _, _ => ([], 0, 5)
  | n + 1, a, out, half => if a < s.size then
      (if bt s a = 62 then (if half < 0 then (out, a + 1, 0) else if 65535 < (out ++ [16 * half + 0]).length then ([], 0, 8) else (out ++ [16 * half + 0], a + 1, 0))
      else if hexI (bt s a) < 0 then (if kindI (bt s a) = 0 then hxN s n (a + 1) out half else ([], 0, 4))
      else if half < 0 then hxN s n (a + 1) out (hexI (bt s a))
      else if 65535 < (out ++ [16 * half + hexI (bt s a)]).length then ([], 0, 8) else hxN s n (a + 1) (out ++ [16 * half + hexI (bt s a)]) (-1))
    else ([], 0, 5)
def hxI (s : ByteArray) (a : Int) : List Int × Int × Int := hxN s (s.size - a).toNat a [] (-1)
theorem hexR15_fn (s : ByteArray) (a : Int) (H : GH) (hs : s.size ≤ 140737488351232) (h0 : 0 ≤ a) (h1 : a ≤ s.size) : CtV Try.prog 38 [.string s, .int .i64 a] H (.tuple #[.string (bstr (hxI s a).1), .int .i64 (hxI s a).2.1, .int .i64 (hxI s a).2.2]) := by
  refine fn_intro Try.func38 rfl rfl (fun w => ?_)
  repeat' (first | apply wpc_seq | apply wpe_seq | apply wpl_nil | apply wpc_region | (apply g_any; first | (refine sb0 rfl (fun _ => ?_)) | (apply gas; refine sas rfl rfl ?_)) | (apply g_wpc; first | apply wpc_block))
  rename_i g0
  refine weC [.row 5 1 (some ⟨g0, 0, none⟩) 0 (bys [])] rfl ?_
  refine wpc_less (l' := [(1, .int .i64 a), (7, .slice (some ⟨g0, 0, none⟩) ([] : List Int).length 0), (8, .int .i64 (-1)), (0, .string s)]) ⟨rfl, rfl, rfl, rfl, trivial⟩ (List.Sublist.refl _) ?_
  refine wpc_loop (ι := Int × List Int × Int × Option Addr × Nat) (fun x => 0 ≤ x.1 ∧ x.1 ≤ s.size ∧ x.2.1.length ≤ 65535 ∧ -1 ≤ x.2.2.1 ∧ x.2.2.1 ≤ 15 ∧ ∃ n : Nat, s.size - x.1 ≤ (n : Int) ∧ hxI s a = hxN s n x.1 x.2.1 x.2.2.1) (fun x => (s.size - x.1).toNat)
    (fun x => [(1, .int .i64 x.1), (7, .slice x.2.2.2.1 x.2.1.length x.2.2.2.2), (8, .int .i64 x.2.2.1), (0, .string s)]) (fun _ => H) (fun x => [.row 5 1 x.2.2.2.1 x.2.2.2.2 (bys x.2.1)]) ?_ (a, [], -1, some ⟨g0, 0, none⟩, 0) ⟨h0, h1, by simp, by simp, by simp, (s.size - a).toNat, by dsimp only; omega, rfl⟩
  rintro ⟨i, out, half, A, c⟩ ⟨hi0, hi1, ho, hh0, hh1, n, hn, hx⟩
  dsimp only at hi0 hi1 ho hh0 hh1 hn hx ⊢
  by_cases hin : i < s.size
  case neg =>
    have hx' : hxI s a = ([], 0, 5) := by
      cases n with
      | zero => rw [hx, hxN]
      | succ n => rw [hx, hxN, if_neg hin]
    repeat' (first | apply wpc_seq | apply wpe_seq | apply wpl_nil | apply wpc_region | (apply g_any; first | (apply gmv; refine smv rfl rfl ?_) | (apply gas; refine sas rfl rfl ?_) | (apply gbn; first | refine sbn rfl rfl ?_) | (apply gln; first | refine sls rfl rfl ?_)) | (apply g_wpc; first | (apply g_cond; first | (refine cdD rfl (fun hb => ?_) (fun hb => ?_) <;> (try (exfalso; first | (with_reducible exact absurd (by assumption) hb) | (with_reducible exact absurd hb (by assumption)) | omega)))) | apply wpc_exit | apply wpc_ret) | (apply g_wpe; first | apply wpe_then_exit | apply wpe_block_eq | apply wpe_back_exit))
    refine end3 (by exact .tmp rfl (.tmp rfl (.tmp rfl .nil))) ?_
    rw [hx']; rfl
  cases n with
  | zero => exfalso; omega
  | succ n =>
  rw [hxN, if_pos hin] at hx
  have hr := hexI_range (bt s i)
  have hbr := bt_range s i
  have e62 : bt s i = 62 → hexI (bt s i) = -1 := fun h => by rw [h]; rfl
  by_cases h62 : bt s i = 62
  · rw [if_pos h62] at hx
    repeat' (first | apply wpc_seq | apply wpe_seq | apply wpl_nil | apply wpc_region | (apply g_any; first | (refine scb_ rfl rfl rfl ?_) | (refine sb1 rfl rfl rfl rfl rfl rfl rfl (fun _ => ?_)) | (refine sapb rfl rfl (by omega) rfl rfl (by omega) rfl (fun _ _ => ?_); refine wnL rfl ?_) | (apply gmv; refine smv rfl rfl ?_) | (apply gas; refine sas rfl rfl ?_) | (apply gbn; first | (apply gad; refine sad rfl rfl (by omega) (by omega) rfl ?_) | (apply gmu; refine smu rfl rfl (by omega) (by omega) rfl ?_) | refine sbn rfl rfl ?_) | (apply gln; first | refine sls rfl rfl ?_ | refine slm rfl rfl ?_) | (apply gcl; first | refine scl rfl (hexR_fn _ _) rfl ?_) | (apply gpk; refine spk rfl rfl ?_) | (apply gix; refine six rfl rfl (by omega) (by omega) rfl ?_) | (apply gcv; first | refine sc8 rfl (by omega) (by omega) rfl ?_) | (apply g_guard; first | refine wpl_wanted (wants_tt rfl rfl rfl) ?_ | (refine gsD rfl rfl rfl (fun hb => ?_) (fun hb => ?_) <;> (try (exfalso; first | (with_reducible exact absurd (by assumption) hb) | (with_reducible exact absurd hb (by assumption)) | omega))))) | (apply g_wpc; first | apply wpc_block | (apply g_cond; first | (refine cdD rfl (fun hb => ?_) (fun hb => ?_) <;> (try (exfalso; first | (with_reducible exact absurd (by assumption) hb) | (with_reducible exact absurd hb (by assumption)) | omega)))) | apply wpc_skip | apply wpc_ret) | (apply g_wpe; first | apply wpe_then_ret | apply wpe_block_ret | apply wpe_back_ret))
    · rw [if_pos (by omega)] at hx
      refine end3 (by exact .tmp rfl (.tmp rfl (.tmp rfl .nil))) ?_
      rw [hx]; try rfl
    · rw [if_neg (by omega), if_pos (by omega)] at hx
      refine end3 (by exact .tmp rfl (.tmp rfl (.tmp rfl .nil))) ?_
      rw [hx]; try rfl
    · rw [if_neg (by omega), if_neg (by omega)] at hx
      refine end3 (by exact .tmp rfl (.tmp rfl (.tmp rfl .nil))) ?_
      rw [hx]; try rfl
  · rw [if_neg h62] at hx
    repeat' (first | apply wpc_seq | apply wpe_seq | apply wpl_nil | apply wpc_region | (apply g_any; first | (refine sb1 rfl rfl rfl rfl rfl rfl rfl (fun _ => ?_)) | (refine sapb rfl rfl (by omega) rfl rfl (by omega) rfl (fun _ _ => ?_); refine wnL rfl ?_) | (apply gmv; refine smv rfl rfl ?_) | (apply gas; refine sas rfl rfl ?_) | (apply gbn; first | (apply gad; refine sad rfl rfl (by omega) (by omega) rfl ?_) | (apply gmu; refine smu rfl rfl (by omega) (by omega) rfl ?_) | refine sbn rfl rfl ?_) | (apply gln; first | refine sls rfl rfl ?_ | refine slm rfl rfl ?_) | (apply gcl; first | refine scl rfl (kindR_fn _ _) rfl ?_ | refine scl rfl (hexR_fn _ _) rfl ?_) | (apply gpk; refine spk rfl rfl ?_) | (apply gix; refine six rfl rfl (by omega) (by omega) rfl ?_) | (apply gcv; first | refine sc8 rfl (by omega) (by omega) rfl ?_) | (apply g_guard; first | refine wpl_wanted (wants_tt rfl rfl rfl) ?_ | refine wpl_skip (wants_tf rfl rfl rfl) rfl ?_ | (refine gsD rfl rfl rfl (fun hb => ?_) (fun hb => ?_) <;> (try (exfalso; first | (with_reducible exact absurd (by assumption) hb) | (with_reducible exact absurd hb (by assumption)) | omega))))) | (apply g_wpc; first | apply wpc_block | (apply g_cond; first | refine cdF rfl ?_ | (refine cdD rfl (fun hb => ?_) (fun hb => ?_) <;> (try (exfalso; first | (with_reducible exact absurd (by assumption) hb) | (with_reducible exact absurd hb (by assumption)) | omega)))) | apply wpc_skip | apply wpc_ret) | (apply g_wpe; first | apply wpe_block | apply wpe_then_ret | apply wpe_block_ret | apply wpe_back_ret))
    · rw [if_pos (by omega), if_neg (by omega)] at hx
      refine end3 (by exact .tmp rfl (.tmp rfl (.tmp rfl .nil))) ?_
      rw [hx]; try rfl
    · rw [if_pos (by omega), if_pos (by omega)] at hx
      exact wpe_back (i + 1, out, half, A, c) ⟨by dsimp only; omega, by dsimp only; omega, by dsimp only; omega, by dsimp only; omega, by dsimp only; omega, n, by dsimp only; omega, hx⟩ (by dsimp only; omega) ⟨rfl, rfl, rfl, rfl, trivial⟩ rfl (by repeat' (first | exact List.Sublist.slnil | apply List.Sublist.cons_cons | apply List.Sublist.cons))
    · rw [if_neg (by omega), if_pos (by omega)] at hx
      exact wpe_back (i + 1, out, hexI (bt s i), A, c) ⟨by dsimp only; omega, by dsimp only; omega, by dsimp only; omega, by dsimp only; omega, by dsimp only; omega, n, by dsimp only; omega, hx⟩ (by dsimp only; omega) ⟨rfl, rfl, rfl, rfl, trivial⟩ rfl (by repeat' (first | exact List.Sublist.slnil | apply List.Sublist.cons_cons | apply List.Sublist.cons))
    · rw [if_neg (by omega), if_neg (by omega), if_pos (by omega)] at hx
      refine end3 (by exact .tmp rfl (.tmp rfl (.tmp rfl .nil))) ?_
      rw [hx]; try rfl
    · rename_i g1 A1 c1 _
      rw [if_neg (by omega), if_neg (by omega), if_neg (by omega)] at hx
      exact wpe_back (i + 1, out ++ [16 * half + hexI (bt s i)], -1, A1, c1) ⟨by dsimp only; omega, by dsimp only; omega, by dsimp only; omega, by dsimp only; omega, by dsimp only; omega, n, by dsimp only; omega, hx⟩ (by dsimp only; omega) ⟨rfl, rfl, rfl, rfl, trivial⟩ rfl (by repeat' (first | exact List.Sublist.slnil | apply List.Sublist.cons_cons | apply List.Sublist.cons))
end Go.Proofs.Ytgjhbambdnpcmaa
