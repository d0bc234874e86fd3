/- Proved on the way: Contracts: the next token. Where tokens end. -/
import Derived.Test.YtgjhbambdnpcmaaLxH
set_option linter.unusedVariables false
set_option linter.unusedSimpArgs false
namespace Go.Proofs.Ytgjhbambdnpcmaa
open Go Go.Eng
theorem next_fn (s : ByteArray) (a : Int) (H : GH) (hs : s.size ≤ 140737488351232) : CtV Try.prog 16 [.string s, .int .i64 a] H (tkV (nextI s a) (skI s a) (nextI s a).e) := by
  refine fn_intro Try.func16 rfl rfl (fun w => ?_)
  obtain ⟨hk0, hk01, hk1, hk2⟩ := skI_range s a
  by_cases hend : skI s a = s.size
  · have h : nextI s a = ⟨0, 0, ⟨#[]⟩, s.size, 0⟩ := by rw [nextI, if_pos hend]
    repeat' (first | apply wpc_seq | apply wpe_seq | apply wpl_nil | apply wpc_region | (apply g_any; first | (apply gmv; refine smv rfl rfl ?_) | (apply gas; refine sas rfl rfl ?_) | (apply gst; refine sst rfl rfl (by exact rfl) (by exact rfl) (by exact rfl) (by exact rfl) ?_) | (apply gbn; first | refine sbn rfl rfl ?_) | (apply gln; first | refine sls rfl rfl ?_) | (apply gcl; first | refine scl rfl (skip_fn _ _ _ hs) rfl ?_) | (apply gal; refine sal rfl (fun _ => ?_)) | (apply gbd; refine sbd rfl rfl rfl ?_)) | (apply g_wpc; first | (apply g_cond; first | (refine cdD rfl (fun hb => ?_) (fun hb => ?_) <;> (try (exfalso; first | (with_reducible exact absurd (by assumption) hb) | (with_reducible exact absurd hb (by assumption)) | omega)))) | apply wpc_ret) | (apply g_wpe; first | apply wpe_then_ret))
    refine end2 (by exact .cell 0 rfl rfl rfl rfl (.tmp rfl .nil)) ?_
    rw [tkV_ok h, h, hend]
  have h : nextI s a = tkI s (skI s a) := by rw [nextI, if_neg hend]
  obtain ⟨h37, hkk⟩ := hk2 (by omega)
  repeat' (first | apply wpc_seq | apply wpe_seq | apply wpl_nil | apply wpc_region | (apply g_any; first | (apply gmv; refine smv rfl rfl ?_) | (apply gas; refine sas rfl rfl ?_) | (apply gbn; first | refine sbn rfl rfl ?_) | (apply gln; first | refine sls rfl rfl ?_) | (apply gcl; first | refine scl rfl (skip_fn _ _ _ hs) rfl ?_) | (apply gal; refine sal rfl (fun _ => ?_)) | (apply gbx; refine sbx rfl rfl rfl (fun _ => ?_)) | (apply gbd; refine sbd rfl rfl rfl ?_)) | (apply g_wpc; first | (apply g_cond; first | (refine cdD rfl (fun hb => ?_) (fun hb => ?_) <;> (try (exfalso; first | (with_reducible exact absurd (by assumption) hb) | (with_reducible exact absurd hb (by assumption)) | omega)))) | apply wpc_skip))
  rename_i g4 gx
  refine wrL 5 1 ?_
  refine wpl_perm [.blk gx (.cells #[.string s, .int .i64 (skI s a), .slice none 0 0] 70 (0, 0)), .row 5 1 none 0 [], .blk g4 (.cells #[.int .i64 0, .int .i64 0, .string ⟨#[]⟩, .int .i64 0, .int .i64 0] 51 (0, 0))] (List.Perm.swap _ _ _) ?_
  refine scq 0 rfl rfl (token_fn s (skI s a) gx _ hs hk0 (by omega) h37) rfl rfl (fun r Lq hX => ?_)
  obtain ⟨rfl, hX⟩ := hX
  rw [h]
  by_cases he : (tkI s (skI s a)).err = 0
  · obtain ⟨V, rfl⟩ := hX he
    rw [tkV, if_pos he, tkV, if_pos he]
    refine wnL rfl ?_
    repeat' (first | apply wpc_seq | apply wpe_seq | apply wpl_nil | apply wpc_region | (apply g_any; first | (apply gmv; refine smv rfl rfl ?_) | (apply gas; refine sas rfl rfl ?_) | (apply gex; refine sex rfl rfl ?_) | (apply gst; refine sst rfl rfl (by exact rfl) (by exact rfl) (by exact rfl) (by exact rfl) ?_) | (apply gbn; first | refine sbn rfl rfl ?_) | (apply gal; refine sal rfl (fun _ => ?_))) | (apply g_wpc; first | (apply g_cond; first | (refine cdD rfl (fun hb => ?_) (fun hb => ?_) <;> (try (exfalso; first | (with_reducible exact absurd (by assumption) hb) | (with_reducible exact absurd hb (by assumption)) | omega)))) | apply wpc_skip))
    refine wpc_held [.blk gx (.cells #[.string s, .int .i64 (tkI s (skI s a)).e, V] 70 (0, 0))] 8 mixed ?_
    refine wph_takes [0, 1, 2, 3, 4, 5] (fuel := 3) (listed' := #[true, true, true, true, true, true, false, false, false]) (by kernel_rfl) rfl (by kernel_rfl) (HLe.refl _) (by repeat' (first | exact List.Sublist.slnil | apply List.Sublist.cons_cons | apply List.Sublist.cons)) ?_
    repeat' (first | (apply gt_any; first | (apply hmv; refine tmv rfl rfl ?_) | (apply hld; refine tld rfl (by exact rfl) (by exact rfl) rfl ?_) | (apply hfa; refine tfa rfl rfl ?_) | (apply hnc; refine tnc rfl rfl ?_)))
    refine wpt_nil ?_
    refine wph_one 6 (listed' := #[true, true, true, true, true, true, true, false, false]) (by kernel_rfl) rfl (by kernel_rfl) ?_   -- [token.go:256] -     := Op.store 3 t39 t34
    repeat' (first | apply wpl_nil | (apply g_any; first | (apply gst; refine sst rfl rfl (by exact rfl) (by exact rfl) (by exact rfl) (by exact rfl) ?_)))
    refine wpe_hold (HLe.refl _) (by repeat' (first | exact List.Sublist.slnil | apply List.Sublist.cons_cons | apply List.Sublist.cons)) ?_
    refine wph_takes [7] (fuel := 1) (listed' := #[true, true, true, true, true, true, true, true, false]) (by kernel_rfl) rfl (by kernel_rfl) (HLe.refl _) (by repeat' (first | exact List.Sublist.slnil | apply List.Sublist.cons_cons | apply List.Sublist.cons)) ?_
    repeat' (first | (apply gt_any; first | (apply hfa; refine tfa rfl rfl ?_)))
    refine wpt_nil ?_
    refine wph_one 8 (listed' := #[true, true, true, true, true, true, true, true, true]) (by kernel_rfl) rfl (by kernel_rfl) ?_   -- [token.go:256] -     := Op.store 3 t40 t38
    repeat' (first | apply wpl_nil | (apply g_any; first | (apply gst; refine sst rfl rfl (by exact rfl) (by exact rfl) (by exact rfl) (by exact rfl) ?_)))
    refine wpe_last (by kernel_rfl) ?_
    refine wph_done (by kernel_rfl) ?_
    repeat' (first | apply wpc_seq | apply wpe_seq | apply wpl_nil | apply wpc_region | (apply g_any; first | (apply gas; refine sas rfl rfl ?_) | (apply gld; refine sld rfl (by exact rfl) (by exact rfl) rfl ?_) | (apply gst; refine sst rfl rfl (by exact rfl) (by exact rfl) (by exact rfl) (by exact rfl) ?_)) | (apply g_wpc; first | apply wpc_ret))
    exact end2 (by exact .cell 2 rfl rfl rfl rfl (.tmp rfl .nil)) rfl
  · rw [tkV, if_neg he, tkV, if_neg he]
    refine wpl_drop [.blk g4 (.cells #[.int .i64 0, .int .i64 0, .string ⟨#[]⟩, .int .i64 0, .int .i64 0] 51 (0, 0))] (List.sublist_append_right _ _) ?_
    repeat' (first | apply wpc_seq | apply wpe_seq | apply wpl_nil | apply wpc_region | (apply g_any; first | (apply gmv; refine smv rfl rfl ?_) | (apply gas; refine sas rfl rfl ?_) | (apply gex; refine sex rfl rfl ?_) | (apply gst; refine sst rfl rfl (by exact rfl) (by exact rfl) (by exact rfl) (by exact rfl) ?_) | (apply gbn; first | refine sbn rfl rfl ?_) | (apply gcl; first | refine scl rfl (bad_fn _ _) rfl ?_) | (apply gal; refine sal rfl (fun _ => ?_))) | (apply g_wpc; first | (apply g_cond; first | (refine cdD rfl (fun hb => ?_) (fun hb => ?_) <;> (try (exfalso; first | (with_reducible exact absurd (by assumption) hb) | (with_reducible exact absurd hb (by assumption)) | omega)))) | apply wpc_ret) | (apply g_wpe; first | apply wpe_then_ret))
    exact end2 (by exact .cell 1 rfl rfl rfl rfl (.tmp rfl .nil)) rfl
theorem cut_min {s : ByteArray} {i : Int} {a b : UInt8} (h0 : 0 ≤ i) (h : i < s.size) : cut s i (min s.size (i + 2)) = ⟨#[a, b]⟩ ↔ bt s i = a.toNat ∧ i + 1 < s.size ∧ bt s (i + 1) = b.toNat := by
  by_cases h2 : i + 2 ≤ s.size
  · rw [show min (s.size : Int) (i + 2) = i + 2 by omega, cut_twoI h0 h2]
    exact ⟨fun h => ⟨h.1, by omega, h.2⟩, fun h => ⟨h.1, h.2.2⟩⟩
  · have hsz := cut_size (s := s) (i := i) (j := min s.size (i + 2)) h0 (by omega) (by omega)
    constructor
    · intro he
      rw [he] at hsz
      have : ((⟨#[a, b]⟩ : ByteArray).size : Int) = 2 := rfl
      omega
    · intro h; omega
theorem nextR_fn (s : ByteArray) (a : Int) (H : GH) (hs : s.size ≤ 140737488351232) : CtV Try.prog 17 [.string s, .int .i64 a] H (tkV (nextI s a) (skI s a) (nextI s a).e) := by
  refine fn_intro Try.func17 rfl rfl (fun w => ?_)
  obtain ⟨hk0, hk01, hk1, hk2⟩ := skI_range s a
  by_cases hend : skI s a = s.size
  · have h : nextI s a = ⟨0, 0, ⟨#[]⟩, s.size, 0⟩ := by rw [nextI, if_pos hend]
    repeat' (first | apply wpc_seq | apply wpe_seq | apply wpl_nil | apply wpc_region | (apply g_any; first | (apply gmv; refine smv rfl rfl ?_) | (apply gas; refine sas rfl rfl ?_) | (apply gst; refine sst rfl rfl (by exact rfl) (by exact rfl) (by exact rfl) (by exact rfl) ?_) | (apply gbn; first | refine sbn rfl rfl ?_) | (apply gln; first | refine sls rfl rfl ?_) | (apply gcl; first | refine scl rfl (skipR_fn _ _ _ hs) rfl ?_) | (apply gal; refine sal rfl (fun _ => ?_)) | (apply gbd; refine sbd rfl rfl rfl ?_)) | (apply g_wpc; first | (apply g_cond; first | (refine cdD rfl (fun hb => ?_) (fun hb => ?_) <;> (try (exfalso; first | (with_reducible exact absurd (by assumption) hb) | (with_reducible exact absurd hb (by assumption)) | omega)))) | apply wpc_ret) | (apply g_wpe; first | apply wpe_then_ret))
    refine end2 (by exact .cell 0 rfl rfl rfl rfl (.tmp rfl .nil)) ?_
    rw [tkV_ok h, h, hend]
  have h : nextI s a = tkI s (skI s a) := by rw [nextI, if_neg hend]
  rw [h]
  clear h
  obtain ⟨h37, hkk⟩ := hk2 (by omega)
  have hlt : skI s a < s.size := by omega
  have h60 := cut_min (s := s) (i := skI s a) (a := 60) (b := 60) hk0 hlt
  have h62 := cut_min (s := s) (i := skI s a) (a := 62) (b := 62) hk0 hlt
  rw [show ((UInt8.toNat 60 : Nat) : Int) = 60 from rfl] at h60
  rw [show ((UInt8.toNat 62 : Nat) : Int) = 62 from rfl] at h62
  have hmin : skI s a ≤ min (s.size : Int) (skI s a + 2) := by omega
  have hmin' : min (s.size : Int) (skI s a + 2) ≤ s.size := by omega
  repeat' (first | apply wpc_seq | apply wpe_seq | apply wpl_nil | apply wpc_region | (apply g_any; first | (apply gmv; refine smv rfl rfl ?_) | (apply gas; refine sas rfl rfl ?_) | (apply gex; refine sex rfl rfl ?_) | (apply gst; refine sst rfl rfl (by exact rfl) (by exact rfl) (by exact rfl) (by exact rfl) ?_) | (apply gbn; first | (apply gad; refine sad rfl rfl (by omega) (by omega) rfl ?_) | refine sbn rfl rfl ?_) | (apply gln; first | refine sls rfl rfl ?_) | (apply gmn; refine smn rfl rfl rfl ?_) | (apply gcl; first | refine scl rfl (skipR_fn _ _ _ hs) rfl ?_ | refine scl rfl (nameR_fn _ _ _ hs (by omega) (by omega)) rfl ?_ | refine scl rfl (plainR_fn _ _ _ hs (by omega) (by omega)) rfl ?_ | refine scl rfl (hexR15_fn _ _ _ hs (by omega) (by omega)) rfl ?_ | refine scl rfl (kindR_fn _ _) rfl ?_ | refine scl rfl (signR_fn _ _ _ _ _ _) rfl ?_ | refine scl rfl (wordR_fn _ _ _ hs (by omega) (by omega)) rfl ?_) | (apply gix; refine six rfl rfl (by omega) (by omega) rfl ?_) | (apply gal; refine sal rfl (fun _ => ?_)) | (apply gbd; refine sbd rfl rfl rfl ?_) | (apply gsl; first | refine scc rfl rfl rfl (by omega) (by omega) (by omega) rfl ?_)) | (apply g_wpc; first | apply wpc_block | (apply g_cond; first | (refine cdD rfl (fun hb => ?_) (fun hb => ?_) <;> (try (exfalso; first | (with_reducible exact absurd (by assumption) hb) | (with_reducible exact absurd hb (by assumption)) | omega)))) | apply wpc_skip | apply wpc_ret) | (apply g_wpe; first | apply wpe_block | apply wpe_then_ret | apply wpe_block_ret))
  all_goals (try simp only [h60, h62] at *)
  · have h : tkI s (skI s a) = ⟨4, 0, ⟨#[]⟩, skI s a + 1, 0⟩ := by unfold tkI; rw [if_pos (by omega)]
    refine end2 (by exact .cell 0 rfl rfl rfl rfl (.tmp rfl .nil)) ?_
    rw [tkV_ok h, h] <;> rfl
  · have h : tkI s (skI s a) = ⟨5, 0, ⟨#[]⟩, skI s a + 1, 0⟩ := by unfold tkI; rw [if_neg (by omega), if_pos (by omega)]
    refine end2 (by exact .cell 0 rfl rfl rfl rfl (.tmp rfl .nil)) ?_
    rw [tkV_ok h, h] <;> rfl
  · have h : tkI s (skI s a) = ⟨6, 0, ⟨#[]⟩, skI s a + 2, 0⟩ := by unfold tkI; rw [if_neg (by omega), if_neg (by omega), if_pos (by omega)]
    refine end2 (by exact .cell 0 rfl rfl rfl rfl (.tmp rfl .nil)) ?_
    rw [tkV_ok h, h] <;> rfl
  · have h : tkI s (skI s a) = ⟨7, 0, ⟨#[]⟩, skI s a + 2, 0⟩ := by unfold tkI; rw [if_neg (by omega), if_neg (by omega), if_neg (by omega), if_pos (by omega)]
    refine end2 (by exact .cell 0 rfl rfl rfl rfl (.tmp rfl .nil)) ?_
    rw [tkV_ok h, h] <;> rfl
  · have h : tkI s (skI s a) = tk3 2 (nmI s (skI s a + 1)) := by unfold tkI; rw [if_neg (by omega), if_neg (by omega), if_neg (by omega), if_neg (by omega), if_pos (by omega)]
    rw [h, tk3]
    by_cases he : (nmI s (skI s a + 1)).2.2 = 0
    · rw [if_pos he, if_pos he]
      repeat' (first | apply wpe_seq | apply wpl_nil | (apply g_any; first | (apply gas; refine sas rfl rfl ?_) | (apply gex; refine sex rfl rfl ?_) | (apply gst; refine sst rfl rfl (by exact rfl) (by exact rfl) (by exact rfl) (by exact rfl) ?_)) | (apply g_wpc; first | apply wpc_ret) | (apply g_wpe; first | apply wpe_then_ret | apply wpe_block_ret))
      exact end2 (by exact .cell 0 rfl rfl rfl rfl (.tmp rfl .nil)) (tkV_ok rfl _ _).symm
    · rw [if_neg he, if_neg he]
      repeat' (first | apply wpe_seq | apply wpl_nil | (apply g_any; first | (apply gas; refine sas rfl rfl ?_) | (apply gex; refine sex rfl rfl ?_) | (apply gst; refine sst rfl rfl (by exact rfl) (by exact rfl) (by exact rfl) (by exact rfl) ?_)) | (apply g_wpc; first | apply wpc_ret) | (apply g_wpe; first | apply wpe_then_ret | apply wpe_block_ret))
      exact end2 (by exact .cell 0 rfl rfl rfl rfl (.tmp rfl .nil)) (tkV_bad rfl he _ _).symm
  · have h : tkI s (skI s a) = tk3 3 (txI s (skI s a + 1)) := by unfold tkI; rw [if_neg (by omega), if_neg (by omega), if_neg (by omega), if_neg (by omega), if_neg (by omega), if_pos (by omega)]
    rw [h, tk3]
    by_cases he : (txI s (skI s a + 1)).2.2 = 0
    · rw [if_pos he, if_pos he]
      repeat' (first | apply wpe_seq | apply wpl_nil | (apply g_any; first | (apply gas; refine sas rfl rfl ?_) | (apply gex; refine sex rfl rfl ?_) | (apply gst; refine sst rfl rfl (by exact rfl) (by exact rfl) (by exact rfl) (by exact rfl) ?_)) | (apply g_wpc; first | apply wpc_ret) | (apply g_wpe; first | apply wpe_then_ret | apply wpe_block_ret))
      exact end2 (by exact .cell 0 rfl rfl rfl rfl (.tmp rfl .nil)) (tkV_ok rfl _ _).symm
    · rw [if_neg he, if_neg he]
      repeat' (first | apply wpe_seq | apply wpl_nil | (apply g_any; first | (apply gas; refine sas rfl rfl ?_) | (apply gex; refine sex rfl rfl ?_) | (apply gst; refine sst rfl rfl (by exact rfl) (by exact rfl) (by exact rfl) (by exact rfl) ?_)) | (apply g_wpc; first | apply wpc_ret) | (apply g_wpe; first | apply wpe_then_ret | apply wpe_block_ret))
      exact end2 (by exact .cell 0 rfl rfl rfl rfl (.tmp rfl .nil)) (tkV_bad rfl he _ _).symm
  · have h : tkI s (skI s a) = tk3 3 (hxI s (skI s a + 1)) := by unfold tkI; rw [if_neg (by omega), if_neg (by omega), if_neg (by omega), if_neg (by omega), if_neg (by omega), if_neg (by omega), if_pos (by omega)]
    rw [h, tk3]
    by_cases he : (hxI s (skI s a + 1)).2.2 = 0
    · rw [if_pos he, if_pos he]
      repeat' (first | apply wpe_seq | apply wpl_nil | (apply g_any; first | (apply gas; refine sas rfl rfl ?_) | (apply gex; refine sex rfl rfl ?_) | (apply gst; refine sst rfl rfl (by exact rfl) (by exact rfl) (by exact rfl) (by exact rfl) ?_)) | (apply g_wpc; first | apply wpc_ret) | (apply g_wpe; first | apply wpe_then_ret | apply wpe_block_ret))
      exact end2 (by exact .cell 0 rfl rfl rfl rfl (.tmp rfl .nil)) (tkV_ok rfl _ _).symm
    · rw [if_neg he, if_neg he]
      repeat' (first | apply wpe_seq | apply wpl_nil | (apply g_any; first | (apply gas; refine sas rfl rfl ?_) | (apply gex; refine sex rfl rfl ?_) | (apply gst; refine sst rfl rfl (by exact rfl) (by exact rfl) (by exact rfl) (by exact rfl) ?_)) | (apply g_wpc; first | apply wpc_ret) | (apply g_wpe; first | apply wpe_then_ret | apply wpe_block_ret))
      exact end2 (by exact .cell 0 rfl rfl rfl rfl (.tmp rfl .nil)) (tkV_bad rfl he _ _).symm
  · have h : tkI s (skI s a) = ⟨0, 0, ⟨#[]⟩, 0, 4⟩ := by unfold tkI; rw [if_neg ?_, if_neg ?_, if_neg (by omega), if_neg (by omega), if_neg (by omega), if_neg (by omega), if_neg (by omega), if_pos (by assumption)] <;> omega
    refine end2 (by exact .cell 0 rfl rfl rfl rfl (.tmp rfl .nil)) ?_
    rw [tkV_bad h (by decide)] <;> rfl
  · have h : tkI s (skI s a) = wdI s (skI s a) := by unfold tkI; rw [if_neg (by omega), if_neg (by omega), if_neg (by omega), if_neg (by omega), if_neg (by omega), if_neg (by omega), if_neg (by omega), if_neg (by omega)]
    rw [h]
    by_cases he : (wdI s (skI s a)).err = 0
    · rw [if_pos he]
      repeat' (first | apply wpe_seq | apply wpl_nil | (apply g_any; first | (apply gas; refine sas rfl rfl ?_) | (apply gex; refine sex rfl rfl ?_) | (apply gst; refine sst rfl rfl (by exact rfl) (by exact rfl) (by exact rfl) (by exact rfl) ?_)) | (apply g_wpc; first | apply wpc_ret))
      exact end2 (by exact .cell 0 rfl rfl rfl rfl (.tmp rfl .nil)) (if_pos he).symm
    · rw [if_neg he]
      repeat' (first | apply wpe_seq | apply wpl_nil | (apply g_any; first | (apply gas; refine sas rfl rfl ?_) | (apply gex; refine sex rfl rfl ?_) | (apply gst; refine sst rfl rfl (by exact rfl) (by exact rfl) (by exact rfl) (by exact rfl) ?_)) | (apply g_wpc; first | apply wpc_ret))
      exact end2 (by exact .cell 0 rfl rfl rfl rfl (.tmp rfl .nil)) (if_neg he).symm
end Go.Proofs.Ytgjhbambdnpcmaa
set_option linter.unusedVariables false
set_option linter.unusedSimpArgs false
namespace Go.Proofs.Ytgjhbambdnpcmaa
open Go Go.Eng
theorem nmN_range (s : ByteArray) : ∀ (n : Nat) (a : Int) (out : List Int), 0 ≤ a → a ≤ s.size → (nmN s n a out).2.2 = 0 → a ≤ (nmN s n a out).2.1 ∧ (nmN s n a out).2.1 ≤ s.size
  | 0, a, out, h0, h1, _ => by rw [nmN]; exact ⟨Int.le_refl _, h1⟩
  | n + 1, a, out, h0, h1, he => by
    rw [nmN] at he ⊢
    split at he
    · rename_i hc
      rw [if_pos hc]
      split at he
      · rename_i h35
        rw [if_pos h35]
        cases hesc : escI s (a + 1) with
        | none => rw [hesc] at he; dsimp only at he; exact absurd he (by decide)
        | some c =>
          rw [hesc] at he
          dsimp only at he ⊢
          have hsz : a + 1 + 2 ≤ s.size := by
            unfold escI at hesc
            split at hesc
            · omega
            · cases hesc
          split at he
          · exact absurd he (by decide)
          · rename_i hl
            rw [if_neg hl]
            have := nmN_range s n (a + 3) _ (by omega) (by omega) he
            omega
      · rename_i h35
        rw [if_neg h35]
        split at he
        · exact absurd he (by decide)
        · rename_i hl
          rw [if_neg hl]
          have := nmN_range s n (a + 1) _ (by omega) (by omega) he
          omega
    · rename_i hc
      rw [if_neg hc]
      exact ⟨Int.le_refl _, h1⟩
theorem stI_range {s : ByteArray} {a d : Int} (h0 : 0 ≤ a) (h1 : a < s.size) (hn : ¬ (stI s a d).2.1 < 0) : a < (stI s a d).2.1 ∧ (stI s a d).2.1 ≤ s.size := by
  have her := endsI_range s a
  have hmr := mnI_range (s := s) (a := a + 1) (by omega) (by omega)
  unfold stI at hn ⊢
  (repeat' split at hn)
  all_goals (simp only [*, if_true, if_false] at hn ⊢)
  all_goals (try dsimp only at hn ⊢)
  all_goals (try omega)
  all_goals (constructor <;> simp_all <;> omega)
theorem txN_range (s : ByteArray) : ∀ (n : Nat) (a d : Int) (out : List Int), 0 ≤ a → a ≤ s.size → (txN s n a d out).2.2 = 0 → a ≤ (txN s n a d out).2.1 ∧ (txN s n a d out).2.1 ≤ s.size
  | 0, a, d, out, h0, h1, he => by rw [txN] at he; exact absurd he (by decide)
  | n + 1, a, d, out, h0, h1, he => by
    rw [txN] at he ⊢
    by_cases c1 : a < s.size
    · rw [if_pos c1] at he ⊢
      by_cases c2 : (stI s a d).2.1 < 0
      · rw [if_pos c2] at he; exact absurd he (by decide)
      rw [if_neg c2] at he ⊢
      have hst := stI_range h0 c1 c2
      by_cases c3 : (stI s a d).2.2 = 0
      · rw [if_pos c3] at he ⊢; dsimp only; omega
      rw [if_neg c3] at he ⊢
      by_cases c4 : 65535 < (out ++ (stI s a d).1).length
      · rw [if_pos c4] at he; exact absurd he (by decide)
      rw [if_neg c4] at he ⊢
      have := txN_range s n _ _ _ (by omega) (by omega) he
      omega
    · rw [if_neg c1] at he; exact absurd he (by decide)
theorem hxN_range (s : ByteArray) : ∀ (n : Nat) (a : Int) (out : List Int) (half : Int), 0 ≤ a → a ≤ s.size → (hxN s n a out half).2.2 = 0 → a ≤ (hxN s n a out half).2.1 ∧ (hxN s n a out half).2.1 ≤ s.size
  | 0, a, out, half, h0, h1, he => by rw [hxN] at he; exact absurd he (by decide)
  | n + 1, a, out, half, h0, h1, he => by
    have ih := fun out half h1 => hxN_range s n (a + 1) out half (by omega) h1
    rw [hxN] at he ⊢
    by_cases c1 : a < s.size
    · rw [if_pos c1] at he ⊢
      by_cases c2 : bt s a = 62
      · rw [if_pos c2] at he ⊢
        by_cases c3 : half < 0
        · rw [if_pos c3] at he ⊢; dsimp only; omega
        rw [if_neg c3] at he ⊢
        by_cases c4 : 65535 < (out ++ [16 * half + 0]).length
        · rw [if_pos c4] at he; exact absurd he (by decide)
        rw [if_neg c4] at he ⊢; dsimp only; omega
      rw [if_neg c2] at he ⊢
      by_cases c3 : hexI (bt s a) < 0
      · rw [if_pos c3] at he ⊢
        by_cases c4 : kindI (bt s a) = 0
        · rw [if_pos c4] at he ⊢; have := ih _ _ (by omega) he; omega
        rw [if_neg c4] at he; exact absurd he (by decide)
      rw [if_neg c3] at he ⊢
      by_cases c4 : half < 0
      · rw [if_pos c4] at he ⊢; have := ih _ _ (by omega) he; omega
      rw [if_neg c4] at he ⊢
      by_cases c5 : 65535 < (out ++ [16 * half + hexI (bt s a)]).length
      · rw [if_pos c5] at he; exact absurd he (by decide)
      rw [if_neg c5] at he ⊢; have := ih _ _ (by omega) he; omega
    · rw [if_neg c1] at he; exact absurd he (by decide)
theorem tk3_range {k : Int} {x : List Int × Int × Int} {a z : Int} (h : x.2.2 = 0 → a ≤ x.2.1 ∧ x.2.1 ≤ z) (he : (tk3 k x).err = 0) : a ≤ (tk3 k x).e ∧ (tk3 k x).e ≤ z ∧ (tk3 k x).k = k := by
  unfold tk3 at he ⊢
  by_cases c : x.2.2 = 0
  · rw [if_pos c]; exact ⟨(h c).1, (h c).2, rfl⟩
  · rw [if_neg c] at he; exact absurd he c
theorem tkI_range {s : ByteArray} {a : Int} (h0 : 0 ≤ a) (h1 : a < s.size) (hk : kindI (bt s a) ≠ 0) (he : (tkI s a).err = 0) : a < (tkI s a).e ∧ (tkI s a).e ≤ s.size ∧ 1 ≤ (tkI s a).k ∧ (tkI s a).k ≤ 8 := by
  have hn := tk3_range (k := 2) (x := nmI s (a + 1)) (nmN_range s _ (a + 1) [] (by omega) (by omega))
  have ht := tk3_range (k := 3) (x := txI s (a + 1)) (txN_range s _ (a + 1) 1 [] (by omega) (by omega))
  have hx := tk3_range (k := 3) (x := hxI s (a + 1)) (hxN_range s _ (a + 1) [] (-1) (by omega) (by omega))
  have hsp := spanI_range (s := s) 2 h0 (by omega)
  unfold tkI at he ⊢
  by_cases c1 : bt s a = 91
  · rw [if_pos c1]; dsimp only; omega
  rw [if_neg c1] at he ⊢
  by_cases c2 : bt s a = 93
  · rw [if_pos c2]; dsimp only; omega
  rw [if_neg c2] at he ⊢
  by_cases c3 : bt s a = 60 ∧ a + 1 < s.size ∧ bt s (a + 1) = 60
  · rw [if_pos c3]; dsimp only; omega
  rw [if_neg c3] at he ⊢
  by_cases c4 : bt s a = 62 ∧ a + 1 < s.size ∧ bt s (a + 1) = 62
  · rw [if_pos c4]; dsimp only; omega
  rw [if_neg c4] at he ⊢
  by_cases c5 : bt s a = 47
  · rw [if_pos c5] at he ⊢; have := hn he; omega
  rw [if_neg c5] at he ⊢
  by_cases c6 : bt s a = 40
  · rw [if_pos c6] at he ⊢; have := ht he; omega
  rw [if_neg c6] at he ⊢
  by_cases c7 : bt s a = 60
  · rw [if_pos c7] at he ⊢; have := hx he; omega
  rw [if_neg c7] at he ⊢
  by_cases c8 : kindI (bt s a) = 1
  · rw [if_pos c8] at he; exact absurd he (by decide)
  rw [if_neg c8] at he ⊢
  have hk2 : kindI (bt s a) = 2 := by
    unfold kindI at hk c8 ⊢
    split
    · rename_i h; rw [if_pos h] at hk; exact absurd rfl hk
    · rename_i h
      rw [if_neg h] at c8
      split
      · rename_i h'; rw [if_pos h'] at c8; exact absurd rfl c8
      · rfl
  have hsp1 : 0 < spanI s 2 a := by
    unfold spanI
    rw [if_pos ⟨h0, h1⟩]
    obtain ⟨n, hn⟩ : ∃ n, ((s.size : Int) - a).toNat = n + 1 := ⟨((s.size : Int) - a).toNat - 1, by omega⟩
    have := spanN_range s 2 n (a + 1)
    rw [hn, spanN, if_pos hk2]
    omega
  unfold wdI at he ⊢
  by_cases d1 : (looseI (cut s a (a + spanI s 2 a))).2 = 0
  · rw [if_pos d1]; dsimp only; omega
  rw [if_neg d1] at he ⊢
  by_cases d2 : (looseI (cut s a (a + spanI s 2 a))).2 = 3
  · rw [if_pos d2] at he; exact absurd he (by decide)
  rw [if_neg d2] at he ⊢
  by_cases d3 : 127 < spanI s 2 a
  · rw [if_pos d3] at he; exact absurd he (by decide)
  rw [if_neg d3]; dsimp only; omega
theorem nextI_range {s : ByteArray} {a : Int} (he : (nextI s a).err = 0) : 0 ≤ (nextI s a).e ∧ (nextI s a).e ≤ s.size ∧ 0 ≤ (nextI s a).k ∧ (nextI s a).k ≤ 8 ∧ (a ≤ s.size → a ≤ (nextI s a).e ∧ ((nextI s a).k ≠ 0 → a < (nextI s a).e)) := by
  obtain ⟨hk0, hk01, hk1, hk2⟩ := skI_range s a
  unfold nextI at he ⊢
  by_cases c : skI s a = s.size
  · rw [if_pos c]; dsimp only; omega
  · rw [if_neg c] at he ⊢
    have hbig : s.size ≤ a → skI s a = s.size := fun h => by unfold skI; rw [show ((s.size : Int) - max 0 a).toNat = 0 by omega, skN]
    have := tkI_range hk0 (by omega) (hk2 (by omega)).2 he
    omega
end Go.Proofs.Ytgjhbambdnpcmaa
