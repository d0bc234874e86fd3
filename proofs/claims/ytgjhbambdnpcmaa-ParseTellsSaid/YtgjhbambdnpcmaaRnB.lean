/- Proved on the way: Contracts: the reference's Plain. What is read: in no dictionary a key twice; how large. -/
import Derived.Test.YtgjhbambdnpcmaaRnA
import Derived.Test.YtgjhbambdnpcmaaRfB
import Derived.Test.YtgjhbambdnpcmaaPnA
set_option linter.unusedVariables false
set_option linter.unusedSimpArgs false
namespace Go.Proofs.Ytgjhbambdnpcmaa
open Go Go.Eng Go.Srt
theorem rpl_leaf {k n g : Int} {s : ByteArray} {l : List Tr} {d : List PT} {k' n' g' : Int} {s' : ByteArray} (h : plT (.mk k n g s l d) = .mk k' n' g' s' [] []) {H : GH} : ∃ cs', Value.agg #[.int .i64 k', .int .i64 n', .int .i64 g', .string s', .slice none 0 0, .slice none 0 0] = .agg cs'.toArray ∧ (plT (.mk k n g s l d)).rep H cs' := by
  rw [h]; exact ⟨_, rfl, Tr.rep_leaf _ _ _ _⟩
theorem rplain_leaf (k n g : Int) (s : ByteArray) (l : List Tr) (d : List PT) (hk : k ≠ 5 ∧ k ≠ 6 ∧ k ≠ 8) : RVP (.mk k n g s l d) := by
  intro cs H hr
  rw [Tr.rep] at hr
  obtain ⟨A, c, B, e, rfl, _⟩ := hr
  refine fn_intro Try.func14 rfl rfl (fun W0 => ?_)
  by_cases c7 : k = 7
  · subst c7
    repeat' (first | apply wpc_seq | apply wpe_seq | apply wpl_nil | apply wpc_region | (apply g_any; first | (apply gas; refine sas rfl rfl ?_) | (apply gld; refine sld rfl (by exact rfl) (by exact rfl) rfl ?_) | (apply gfa; refine sfa rfl rfl ?_) | (apply gst; refine sst rfl rfl (by exact rfl) (by exact rfl) (by exact rfl) (by exact rfl) ?_) | (apply gbn; first | refine sbn rfl rfl ?_) | (apply gal; refine sal rfl (fun _ => ?_)) | (apply gbx; refine sbx rfl rfl rfl (fun _ => ?_)) | (apply gbd; refine sbd rfl rfl rfl ?_)) | (apply g_wpc; first | apply wpc_block | (apply g_cond; first | (refine cdD rfl (fun hb => ?_) (fun hb => ?_) <;> (try (exfalso; first | (with_reducible exact absurd (by assumption) hb) | (with_reducible exact absurd hb (by assumption)) | omega))))))
    refine wpc_heldU [2] [1, 3] [0, 2, 4, 6] mixed rfl ?_
    refine whu_free [0, 2] (fuel := 6) (listed' := #[true, false, true, false, false, false, false, false]) (by kernel_rfl) rfl (by kernel_rfl) ?_
    repeat' (first | (apply gt_any; first | (apply hfa; refine tfa rfl rfl ?_)))
    refine wpt_nil ?_
    refine whu_looks [1] (fuel := 5) (listed' := #[true, true, true, false, false, false, false, false]) (by kernel_rfl) rfl (by kernel_rfl) (HLe.refl _) (by repeat' (first | exact List.Sublist.slnil | apply List.Sublist.cons_cons | apply List.Sublist.cons)) ?_
    repeat' (first | (apply gt_any; first | (apply hld; refine tld rfl (by exact rfl) (by exact rfl) rfl ?_)))
    refine wpt_nil ?_
    refine whu_free [4] (fuel := 4) (listed' := #[true, true, true, false, true, false, false, false]) (by kernel_rfl) rfl (by kernel_rfl) ?_
    repeat' (first | (apply gt_any; first | (apply hfa; refine tfa rfl rfl ?_)))
    refine wpt_nil ?_
    refine whu_looks [3] (fuel := 3) (listed' := #[true, true, true, true, true, false, false, false]) (by kernel_rfl) rfl (by kernel_rfl) (HLe.refl _) (by repeat' (first | exact List.Sublist.slnil | apply List.Sublist.cons_cons | apply List.Sublist.cons)) ?_
    repeat' (first | (apply gt_any; first | (apply hld; refine tld rfl (by exact rfl) (by exact rfl) rfl ?_)))
    refine wpt_nil ?_
    refine whu_one 5 (listed' := #[true, true, true, true, true, true, false, false]) (by kernel_rfl) rfl (by kernel_rfl) ?_   -- [ref.go:163] -     := Op.store 3 t57 t54
    repeat' (first | apply wpl_nil | (apply g_any; first | (apply gst; refine sst rfl rfl (by exact rfl) (by exact rfl) (by exact rfl) (by exact rfl) ?_)))
    refine weu_hold (HLe.refl _) (by repeat' (first | exact List.Sublist.slnil | apply List.Sublist.cons_cons | apply List.Sublist.cons)) ?_
    refine whu_free [6] (fuel := 1) (listed' := #[true, true, true, true, true, true, true, false]) (by kernel_rfl) rfl (by kernel_rfl) ?_
    repeat' (first | (apply gt_any; first | (apply hfa; refine tfa rfl rfl ?_)))
    refine wpt_nil ?_
    refine whu_one 7 (listed' := #[true, true, true, true, true, true, true, true]) (by kernel_rfl) rfl (by kernel_rfl) ?_   -- [ref.go:163] -     := Op.store 3 t58 t56
    repeat' (first | apply wpl_nil | (apply g_any; first | (apply gst; refine sst rfl rfl (by exact rfl) (by exact rfl) (by exact rfl) (by exact rfl) ?_)))
    refine weu_last (by kernel_rfl) ?_
    refine whu_done (by kernel_rfl) ?_
    repeat' (first | apply wpc_seq | apply wpe_seq | apply wpl_nil | apply wpc_region | (apply g_any; first | (apply gld; refine sld rfl (by exact rfl) (by exact rfl) rfl ?_) | (apply gst; refine sst rfl rfl (by exact rfl) (by exact rfl) (by exact rfl) (by exact rfl) ?_)) | (apply g_wpc; first | apply wpc_ret) | (apply g_wpe; first | apply wpe_block))
    exact end1 (by exact .cell 1 rfl rfl rfl rfl .nil) (rpl_leaf (by rw [plT]; rfl))
  repeat' (first | apply wpc_seq | apply wpe_seq | apply wpl_nil | apply wpc_region | (apply g_any; first | (apply gas; refine sas rfl rfl ?_) | (apply gld; refine sld rfl (by exact rfl) (by exact rfl) rfl ?_) | (apply gfa; refine sfa rfl rfl ?_) | (apply gst; refine sst rfl rfl (by exact rfl) (by exact rfl) (by exact rfl) (by exact rfl) ?_) | (apply gbn; first | refine sbn rfl rfl ?_) | (apply gal; refine sal rfl (fun _ => ?_)) | (apply gbx; refine sbx rfl rfl rfl (fun _ => ?_)) | (apply gbd; refine sbd rfl rfl rfl ?_)) | (apply g_wpc; first | apply wpc_block | (apply g_cond; first | refine cdT rfl ?_ | (refine cdD rfl (fun hb => ?_) (fun hb => ?_) <;> (try (exfalso; first | (with_reducible exact absurd (by assumption) hb) | (with_reducible exact absurd hb (by assumption)) | omega)))) | apply wpc_skip | apply wpc_ret) | (apply g_wpe; first | apply wpe_block | apply wpe_then_ret | apply wpe_block_ret))
  · exact end1 (by exact .cell 1 rfl rfl rfl rfl .nil) (rpl_leaf (by rw [plT, if_pos (by omega)]))
  · exact end1 (by exact .cell 1 rfl rfl rfl rfl .nil) (rpl_leaf (by rw [plT, if_pos (by omega)]))
  · exact end1 (by exact .cell 1 rfl rfl rfl rfl .nil) (rpl_leaf (by rw [plT, if_neg (by omega), if_pos (by omega)]))
  · exact end1 (by exact .cell 1 rfl rfl rfl rfl .nil) (rpl_leaf (by rw [plT, if_neg (by omega), if_pos (by omega)]))
  · exact end1 (by exact .cell 1 rfl rfl rfl rfl .nil) (rpl_leaf (by rw [plT, if_neg (by omega), if_neg (by omega), if_neg (by omega), if_neg (by omega), if_neg (by omega), if_neg (by omega)]))
theorem rplain_dict (k : Int) (hk : k = 6 ∨ k = 8) (n g : Int) (s : ByteArray) (l : List Tr) (d : List PT) (hbig : d.length ≤ 1073741824) (hv : ∀ p ∈ d, RVP p.2) : RVP (.mk k n g s l d) := by
  intro cs H hr
  rw [Tr.rep] at hr
  obtain ⟨A, c, B, e, rfl, _, yss, hyr, hB⟩ := hr
  refine fn_intro Try.func14 rfl rfl (fun W0 => ?_)
  rcases hk with rfl | rfl
  · repeat' (first | apply wpc_seq | apply wpe_seq | apply wpl_nil | apply wpc_region | (apply g_any; first | (apply gas; refine sas rfl rfl ?_) | (apply gld; refine sld rfl (by exact rfl) (by exact rfl) rfl ?_) | (apply gfa; refine sfa rfl rfl ?_) | (apply gst; refine sst rfl rfl (by exact rfl) (by exact rfl) (by exact rfl) (by exact rfl) ?_) | (apply gbn; first | refine sbn rfl rfl ?_) | (apply gal; refine sal rfl (fun _ => ?_)) | (apply gbx; refine sbx rfl rfl rfl (fun _ => ?_)) | (apply gbd; refine sbd rfl rfl rfl ?_)) | (apply g_wpc; first | apply wpc_block | (apply g_cond; first | (refine cdD rfl (fun hb => ?_) (fun hb => ?_) <;> (try (exfalso; first | (with_reducible exact absurd (by assumption) hb) | (with_reducible exact absurd hb (by assumption)) | omega))))))
    refine scs 0 rfl rfl (rpairs_fn d B e yss H hbig hv hyr hB) rfl rfl (fun r H2 Lq hg2 hX => ?_)
    obtain ⟨A', c', zss, rfl, hz1, hz2⟩ := hX
    refine wpl_drop _ (List.sublist_append_right _ _) ?_
    repeat' (first | apply wpc_seq | apply wpe_seq | apply wpl_nil | apply wpc_region | (apply g_any; first | (apply gld; refine sld rfl (by exact rfl) (by exact rfl) rfl ?_) | (apply gfa; refine sfa rfl rfl ?_) | (apply gst; refine sst rfl rfl (by exact rfl) (by exact rfl) (by exact rfl) (by exact rfl) ?_)) | (apply g_wpc; first | apply wpc_ret) | (apply g_wpe; first | apply wpe_block))
    refine wpe_end (.inl rfl) (by exact .cell 1 rfl rfl rfl rfl .nil) [] (List.nil_sublist _) hg2 ⟨_, rfl, ?_⟩
    rw [show plT (.mk 6 n g s l d) = .mk 6 0 0 ⟨#[]⟩ [] (nnL (scL (plD d))) by rw [plT]; rfl]
    exact Tr.rep_dict hz1 hz2
  · repeat' (first | apply wpc_seq | apply wpe_seq | apply wpl_nil | apply wpc_region | (apply g_any; first | (apply gas; refine sas rfl rfl ?_) | (apply gld; refine sld rfl (by exact rfl) (by exact rfl) rfl ?_) | (apply gfa; refine sfa rfl rfl ?_) | (apply gst; refine sst rfl rfl (by exact rfl) (by exact rfl) (by exact rfl) (by exact rfl) ?_) | (apply gbn; first | refine sbn rfl rfl ?_) | (apply gal; refine sal rfl (fun _ => ?_)) | (apply gbx; refine sbx rfl rfl rfl (fun _ => ?_)) | (apply gbd; refine sbd rfl rfl rfl ?_)) | (apply g_wpc; first | apply wpc_block | (apply g_cond; first | (refine cdD rfl (fun hb => ?_) (fun hb => ?_) <;> (try (exfalso; first | (with_reducible exact absurd (by assumption) hb) | (with_reducible exact absurd hb (by assumption)) | omega))))))
    refine wpc_heldU [2] [1, 3] [0, 2, 5, 7] mixed rfl ?_
    refine whu_free [0, 2] (fuel := 7) (listed' := #[true, false, true, false, false, false, false, false, false]) (by kernel_rfl) rfl (by kernel_rfl) ?_
    repeat' (first | (apply gt_any; first | (apply hfa; refine tfa rfl rfl ?_)))
    refine wpt_nil ?_
    refine whu_looks [1] (fuel := 6) (listed' := #[true, true, true, false, false, false, false, false, false]) (by kernel_rfl) rfl (by kernel_rfl) (HLe.refl _) (by repeat' (first | exact List.Sublist.slnil | apply List.Sublist.cons_cons | apply List.Sublist.cons)) ?_
    repeat' (first | (apply gt_any; first | (apply hld; refine tld rfl (by exact rfl) (by exact rfl) rfl ?_)))
    refine wpt_nil ?_
    refine whu_free [5] (fuel := 5) (listed' := #[true, true, true, false, false, true, false, false, false]) (by kernel_rfl) rfl (by kernel_rfl) ?_
    repeat' (first | (apply gt_any; first | (apply hfa; refine tfa rfl rfl ?_)))
    refine wpt_nil ?_
    refine whu_looks [3] (fuel := 4) (listed' := #[true, true, true, true, false, true, false, false, false]) (by kernel_rfl) rfl (by kernel_rfl) (HLe.refl _) (by repeat' (first | exact List.Sublist.slnil | apply List.Sublist.cons_cons | apply List.Sublist.cons)) ?_
    repeat' (first | (apply gt_any; first | (apply hld; refine tld rfl (by exact rfl) (by exact rfl) rfl ?_)))
    refine wpt_nil ?_
    refine whu_one 4 (listed' := #[true, true, true, true, true, true, false, false, false]) (by kernel_rfl) rfl (by kernel_rfl) ?_   -- [ref.go:165] t65   := Op.call {callee=(Callee.value f30), args=[t64], argTypes=[24]}   :ty
    refine scs 0 rfl rfl (rpairs_fn d B e yss H hbig hv hyr hB) rfl rfl (fun r H2 Lq hg2 hX => ?_)
    obtain ⟨A', c', zss, rfl, hz1, hz2⟩ := hX
    refine wpl_drop _ (List.sublist_append_right _ _) ?_
    repeat' (first | apply wpl_nil)
    refine weu_hold (hg2.le) (by repeat' (first | exact List.Sublist.slnil | apply List.Sublist.cons_cons | apply List.Sublist.cons)) ?_
    refine whu_one 6 (listed' := #[true, true, true, true, true, true, true, false, false]) (by kernel_rfl) rfl (by kernel_rfl) ?_   -- [ref.go:165] -     := Op.store 9 t66 t62
    repeat' (first | apply wpl_nil | (apply g_any; first | (apply gst; refine sst rfl rfl (by exact rfl) (by exact rfl) (by exact rfl) (by exact rfl) ?_)))
    refine weu_hold (hg2.le) (by repeat' (first | exact List.Sublist.slnil | apply List.Sublist.cons_cons | apply List.Sublist.cons)) ?_
    refine whu_free [7] (fuel := 1) (listed' := #[true, true, true, true, true, true, true, true, false]) (by kernel_rfl) rfl (by kernel_rfl) ?_
    repeat' (first | (apply gt_any; first | (apply hfa; refine tfa rfl rfl ?_)))
    refine wpt_nil ?_
    refine whu_one 8 (listed' := #[true, true, true, true, true, true, true, true, true]) (by kernel_rfl) rfl (by kernel_rfl) ?_   -- [ref.go:165] -     := Op.store 24 t67 t65
    repeat' (first | apply wpl_nil | (apply g_any; first | (apply gst; refine sst rfl rfl (by exact rfl) (by exact rfl) (by exact rfl) (by exact rfl) ?_)))
    refine weu_last (by kernel_rfl) ?_
    refine whu_done (by kernel_rfl) ?_
    repeat' (first | apply wpc_seq | apply wpe_seq | apply wpl_nil | apply wpc_region | (apply g_any; first | (apply gld; refine sld rfl (by exact rfl) (by exact rfl) rfl ?_) | (apply gst; refine sst rfl rfl (by exact rfl) (by exact rfl) (by exact rfl) (by exact rfl) ?_)) | (apply g_wpc; first | apply wpc_ret) | (apply g_wpe; first | apply wpe_block))
    refine wpe_end (.inl rfl) (by exact .cell 1 rfl rfl rfl rfl .nil) [] (List.nil_sublist _) hg2 ⟨_, rfl, ?_⟩
    rw [show plT (.mk 8 n g s l d) = .mk 8 0 0 s [] (nnL (scL (plD d))) by rw [plT]; rfl]
    exact Tr.rep_dict hz1 hz2
theorem rplL_snoc (l : List Tr) (t : Tr) : plL (l ++ [t]) = plL l ++ [plT t] := by rw [plL_eq, plL_eq, List.map_append]; rfl
theorem rplain_list (n g : Int) (s : ByteArray) (l : List Tr) (d : List PT) (hbig : l.length ≤ 1073741824) (hv : ∀ t ∈ l, RVP t) : RVP (.mk 5 n g s l d) := by
  intro cs H hr
  rw [Tr.rep] at hr
  obtain ⟨A, c, B, e, rfl, ⟨yss, hyr, hA⟩, _⟩ := hr
  have hyl := Tr.repL_len hyr
  refine fn_intro Try.func14 rfl rfl (fun W0 => ?_)
  repeat' (first | apply wpc_seq | apply wpe_seq | apply wpl_nil | apply wpc_region | (apply g_any; first | (refine sb0 rfl (fun _ => ?_)) | (apply gas; refine sas rfl rfl ?_) | (apply gld; refine sld rfl (by exact rfl) (by exact rfl) rfl ?_) | (apply gfa; refine sfa rfl rfl ?_) | (apply gst; refine sst rfl rfl (by exact rfl) (by exact rfl) (by exact rfl) (by exact rfl) ?_) | (apply gbn; first | refine sbn rfl rfl ?_) | (apply gal; refine sal rfl (fun _ => ?_)) | (apply gbx; refine sbx rfl rfl rfl (fun _ => ?_)) | (apply gbd; refine sbd rfl rfl rfl ?_)) | (apply g_wpc; first | apply wpc_block | (apply g_cond; first | (refine cdD rfl (fun hb => ?_) (fun hb => ?_) <;> (try (exfalso; first | (with_reducible exact absurd (by assumption) hb) | (with_reducible exact absurd hb (by assumption)) | omega))))))
  rename_i g1 g2 g3 _ _ _ _ g4
  refine wpc_loopS (ι := Nat × List (List Value) × Option Addr × Nat × GH) (fun x => x.1 ≤ l.length ∧ Grow W0 H x.2.2.2.2 ∧ Tr.repL x.2.2.2.2 (plL (l.take x.1)) x.2.1) (fun x => l.length - x.1)
    (fun x => [(1, .pointer (some ⟨g1, 0, none⟩)), (2, .pointer (some ⟨g2, 0, none⟩)), (3, .pointer (some ⟨g3, 0, none⟩)), (4, .slice x.2.2.1 x.2.1.length x.2.2.2.1), (5, .int .i64 (x.1 : Nat))]) (fun x => x.2.2.2.2)
    (fun x => [.row 26 6 x.2.2.1 x.2.2.2.1 x.2.1, .blk g3 (.cells #[.int .i64 5, .int .i64 0, .int .i64 0, .string ⟨#[]⟩, .slice none 0 0, .slice none 0 0] 26 (0, 0)), .blk g2 (.cells #[.int .i64 0, .int .i64 0, .int .i64 0, .string ⟨#[]⟩, .slice none 0 0, .slice none 0 0] 26 (0, 0)), .blk g1 (.cells #[.int .i64 5, .int .i64 n, .int .i64 g, .string s, .slice A l.length c, .slice B d.length e] 26 (0, 0))]) (0, [], some ⟨g4, 0, none⟩, 0, H) ⟨Nat.zero_le _, Grow.refl _ _, by simp [plL, Tr.repL]⟩ ⟨rfl, rfl, rfl, rfl, rfl, trivial⟩ rfl (List.Sublist.refl _) ?_
  rintro ⟨j, xss, A2, c2, H1⟩ ⟨hj, hg1, hrep⟩
  dsimp only at hj hg1 hrep ⊢
  have hxl := (Tr.repL_len hrep).1
  rw [plL_eq, List.length_map, List.length_take] at hxl
  by_cases hlt : j < l.length
  case neg =>
    obtain rfl : j = l.length := by omega
    rw [List.take_of_length_le (Nat.le_refl _)] at hrep
    repeat' (first | apply wpc_seq | apply wpe_seq | apply wpl_nil | apply wpc_region | (apply g_any; first | (apply gmv; refine smv rfl rfl ?_) | (apply gld; refine sld rfl (by exact rfl) (by exact rfl) rfl ?_) | (apply gfa; refine sfa rfl rfl ?_) | (apply gst; refine sst rfl rfl (by exact rfl) (by exact rfl) (by exact rfl) (by exact rfl) ?_) | (apply gbn; first | refine sbn rfl rfl ?_) | (apply gln; first | refine slm rfl rfl ?_)) | (apply g_wpc; first | (apply g_cond; first | (refine cdD rfl (fun hb => ?_) (fun hb => ?_) <;> (try (exfalso; first | (with_reducible exact absurd (by assumption) hb) | (with_reducible exact absurd hb (by assumption)) | omega)))) | apply wpc_exit | apply wpc_ret) | (apply g_wpe; first | apply wpe_block | apply wpe_then_exit | apply wpe_block_eq | apply wpe_back_exit))
    refine wpe_freeze [] _ rfl ?_ (fun H2 hg2 hc => ?_)
    · intro b hb; cases hb
    refine wpe_end (.inl rfl) (by exact .cell 1 rfl rfl rfl rfl .nil) [] (List.nil_sublist _) (hg1.tr hg2) ⟨_, rfl, ?_⟩
    rw [show plT (.mk 5 n g s l d) = .mk 5 0 0 ⟨#[]⟩ (plL l) [] by rw [plT]; rfl]
    exact Tr.rep_list (Tr.repL_mono hg2.le hrep) hc
  obtain ⟨cs, hcs, hrj⟩ := Tr.repL_get (t := l[j]) hyr (List.getElem?_eq_getElem hlt)
  obtain ⟨k0, n0, g0, s0, B0, m0, c0', D0, m0', c0'', rfl⟩ := Tr.cells hrj
  rcases hA with ⟨_, rfl⟩ | ⟨ga, o, rfl, rfl | hc0⟩
  · simp at hcs
  · simp at hcs
  have hel := (hc0.el hyl.2 hcs).mono hg1.le
  have hnx : plL (l.take (j + 1)) = plL (l.take j) ++ [plT l[j]] := by rw [List.take_succ_eq_append_getElem hlt, rplL_snoc]
  repeat' (first | apply wpc_seq | apply wpe_seq | apply wpl_nil | apply wpc_region | (apply g_any; first | refine slh (f := 0) hel rfl (by omega) rfl rfl rfl ?_ | (apply gmv; refine smv rfl rfl ?_) | (apply gld; refine sld rfl (by exact rfl) (by exact rfl) rfl ?_) | (apply gfa; refine sfa rfl rfl ?_) | (apply gbn; first | refine sbn rfl rfl ?_) | (apply gln; first | refine slm rfl rfl ?_) | (apply gia; refine sia rfl rfl (by omega) (by omega) rfl ?_)) | (apply g_wpc; first | apply wpc_block | (apply g_cond; first | (refine cdD rfl (fun hb => ?_) (fun hb => ?_) <;> (try (exfalso; first | (with_reducible exact absurd (by assumption) hb) | (with_reducible exact absurd hb (by assumption)) | omega)))) | apply wpc_skip))
  refine scs 0 rfl rfl (hv _ (List.getElem_mem hlt) _ H1 (Tr.rep_mono hg1.le hrj)) rfl rfl (fun r H2 Lq hg2 hX => ?_)
  obtain ⟨cs', rfl, hrep2⟩ := hX
  obtain ⟨k1, n1, g1', s1, B1, m1, c1', D1, m1', c1'', rfl⟩ := Tr.cells hrep2
  refine wpl_drop _ (List.sublist_append_right _ _) ?_
  repeat' (first | apply wpe_seq | apply wpl_nil | apply wpc_region | (apply g_any; first | (refine sb1 rfl rfl rfl rfl rfl rfl rfl (fun _ => ?_)) | (refine sap rfl rfl rfl rfl rfl rfl rfl rfl (by omega) rfl (fun _ _ => ?_); refine wnL rfl ?_) | (apply gmv; refine smv rfl rfl ?_) | (apply gas; refine sas rfl rfl ?_) | (apply gbn; first | (apply gad; refine sad rfl rfl (by omega) (by omega) rfl ?_))) | (apply g_wpe; first | apply wpe_block))
  rename_i A3 c3
  exact wpe_back (j + 1, xss ++ [_], A3, c3, H2) ⟨by dsimp only; omega, hg1.tr hg2, by dsimp only; rw [hnx]; exact Tr.repL_snoc (Tr.repL_mono hg2.le hrep) hrep2⟩ (by dsimp only; omega) ⟨rfl, rfl, rfl, by simp only [List.length_append, List.length_singleton]; rfl, lki (by dsimp only; omega), trivial⟩ rfl (by repeat' (first | exact List.Sublist.slnil | apply List.Sublist.cons_cons | apply List.Sublist.cons))
/-- Plain by the reference, whatever the value. -/
theorem rplain_fn : ∀ (n : Nat) (t : Tr), t.sz ≤ n → t.sz ≤ 1073741824 → RVP t
  | 0, .mk k n g s l d, h, _ => by rw [Tr.sz] at h; omega
  | n + 1, .mk k n' g s l d, h, hb => by
    rw [Tr.sz] at h hb
    by_cases h5 : k = 5
    · subst h5
      refine rplain_list n' g s l d ?_ fun t ht => ?_
      · have := lenL l; omega
      · obtain ⟨i, hi, rfl⟩ := List.mem_iff_getElem.1 ht
        have := Tr.szL_get (List.getElem?_eq_getElem hi)
        exact rplain_fn n _ (by omega) (by omega)
    by_cases h6 : k = 6 ∨ k = 8
    · refine rplain_dict k h6 n' g s l d ?_ (fun p hp => ?_)
      · have := lenD d; omega
      · obtain ⟨i, hi, rfl⟩ := List.mem_iff_getElem.1 hp
        have := Tr.szD_get (k := d[i].1) (t := d[i].2) (List.getElem?_eq_getElem hi)
        exact rplain_fn n _ (by omega) (by omega)
    exact rplain_leaf k n' g s l d ⟨h5, fun h => h6 (.inl h), fun h => h6 (.inr h)⟩
end Go.Proofs.Ytgjhbambdnpcmaa
set_option linter.unusedVariables false
set_option linter.unusedSimpArgs false
namespace Go.Proofs.Ytgjhbambdnpcmaa
open Go Go.Eng
theorem uniqL_snoc : ∀ {l : List Tr} {t : Tr}, Tr.uniqL l → t.uniq → Tr.uniqL (l ++ [t])
  | [], t, _, h => by simp only [List.nil_append, Tr.uniqL]; exact ⟨h, trivial⟩
  | u :: r, t, h, h' => by
    rw [Tr.uniqL] at h
    simp only [List.cons_append, Tr.uniqL]
    exact ⟨h.1, uniqL_snoc h.2 h'⟩
theorem uniqD_snoc : ∀ {l : List PT} {k : ByteArray} {t : Tr}, Tr.uniqD l → t.uniq → Tr.uniqD (l ++ [(k, t)])
  | [], k, t, _, h => by simp only [List.nil_append, Tr.uniqD]; exact ⟨h, trivial⟩
  | (a, u) :: r, k, t, h, h' => by
    rw [Tr.uniqD] at h
    simp only [List.cons_append, Tr.uniqD]
    exact ⟨h.1, uniqD_snoc h.2 h'⟩
theorem szL_snoc : ∀ (l : List Tr) (t : Tr), Tr.szL (l ++ [t]) = Tr.szL l + t.sz
  | [], t => by simp [Tr.szL]
  | u :: r, t => by simp only [List.cons_append, Tr.szL]; rw [szL_snoc r]; omega
theorem szD_snoc : ∀ (l : List PT) (k : ByteArray) (t : Tr), Tr.szD (l ++ [(k, t)]) = Tr.szD l + t.sz
  | [], k, t => by simp [Tr.szD]
  | (a, u) :: r, k, t => by simp only [List.cons_append, Tr.szD]; rw [szD_snoc r]; omega
theorem leaf_uniq (k n g : Int) (s : ByteArray) : (Tr.mk k n g s [] []).uniq := by rw [Tr.uniq, Tr.uniqL, Tr.uniqD]; exact ⟨trivial, by simp, trivial⟩
theorem leaf_sz (k n g : Int) (s : ByteArray) : (Tr.mk k n g s [] []).sz = 1 := by simp [Tr.sz, Tr.szL, Tr.szD]
theorem nu_good (s : ByteArray) (n a : Int) : (nuI s n a).1.uniq ∧ (nuI s n a).1.sz = 1 := by
  obtain ⟨k, n', g, t, e, err, h⟩ := nu_leaf s n a
  rw [h]; exact ⟨leaf_uniq _ _ _ _, leaf_sz _ _ _ _⟩
theorem wo_good (t : ByteArray) (a : Int) : (woI t a).1.uniq ∧ (woI t a).1.sz = 1 := by
  obtain ⟨k, n', g, t, e, err, h⟩ := wo_leaf t a
  rw [h]; exact ⟨leaf_uniq _ _ _ _, leaf_sz _ _ _ _⟩
theorem fail_good (e : Int) : (failP e).1.uniq ∧ (failP e).1.sz = 1 := ⟨leaf_uniq _ _ _ _, leaf_sz _ _ _ _⟩
theorem rd_good (s : ByteArray) : ∀ n : Nat, (∀ (a w : Int), 0 ≤ a → 2 * (s.size - a) + 1 ≤ n → 0 < n → (rdN s n a w).1.uniq ∧ ((rdN s n a w).1.sz : Int) ≤ max 1 (s.size - a) ∧ ((rdN s n a w).2.2 = 0 → ((rdN s n a w).1.sz : Int) ≤ (rdN s n a w).2.1 - a)) ∧ (∀ (a w : Int) l, 0 ≤ a → a ≤ s.size → 2 * (s.size - a) + 2 ≤ n → Tr.uniqL l → (lsN s n a w l).1.uniq ∧ ((lsN s n a w l).1.sz : Int) ≤ 1 + Tr.szL l + (s.size - a) ∧ ((lsN s n a w l).2.2 = 0 → ((lsN s n a w l).1.sz : Int) ≤ 1 + Tr.szL l + ((lsN s n a w l).2.1 - a))) ∧ (∀ (a w : Int) d, 0 ≤ a → a ≤ s.size → 2 * (s.size - a) + 2 ≤ n → Tr.uniqD d → (d.map (·.1)).Nodup → (dcN s n a w d).1.uniq ∧ ((dcN s n a w d).1.sz : Int) ≤ 1 + Tr.szD d + (s.size - a) ∧ ((dcN s n a w d).2.2 = 0 → ((dcN s n a w d).1.sz : Int) ≤ 1 + Tr.szD d + ((dcN s n a w d).2.1 - a)))
  | 0 => ⟨fun a w _ h => by omega, fun a w l h0 h1 h => by omega, fun a w d h0 h1 h => by omega⟩
  | n + 1 => by
    obtain ⟨ih1, ih2, ih3⟩ := rd_good s n
    refine ⟨fun a w h0 hn _ => ?_, fun a w l h0 h1 hn hu => ?_, fun a w d h0 h1 hn hu hnd => ?_⟩
    · have ff := fun e => fail_good e
      have lz := leaf_sz
      have key : ∀ e : Int, (failP e).1.uniq ∧ ((failP e).1.sz : Int) ≤ max 1 (s.size - a) ∧ (e ≠ 0 → (failP e).2.2 = 0 → ((failP e).1.sz : Int) ≤ (failP e).2.1 - a) := fun e => ⟨(ff e).1, by rw [(ff e).2]; omega, fun h h' => absurd h' h⟩
      rw [rdN]
      by_cases c0 : ¬ (nextI s a).err = 0
      · rw [if_pos c0]; exact ⟨(key _).1, (key _).2.1, (key _).2.2 c0⟩
      rw [if_neg c0]
      have hr := nextI_range (s := s) (a := a) (by omega)
      by_cases c1 : (nextI s a).k = 0
      · rw [if_pos c1]; exact ⟨(key _).1, (key _).2.1, (key _).2.2 (by decide)⟩
      rw [if_neg c1]
      have hin : a < s.size := by
        by_cases h : s.size ≤ a
        · rw [next_beyond h] at c1; exact absurd rfl c1
        · omega
      by_cases c2 : (nextI s a).k = 1
      · rw [if_pos c2]
        have hg := nu_good s (nextI s a).n (nextI s a).e
        refine ⟨hg.1, by rw [hg.2]; omega, fun he => ?_⟩
        have := nuI_range (by omega) (by omega) he
        rw [hg.2]; omega
      rw [if_neg c2]
      by_cases c3 : (nextI s a).k = 2
      · rw [if_pos c3]; exact ⟨leaf_uniq _ _ _ _, by dsimp only; rw [lz]; omega, fun _ => by dsimp only; rw [lz]; omega⟩
      rw [if_neg c3]
      by_cases c4 : (nextI s a).k = 3
      · rw [if_pos c4]; exact ⟨leaf_uniq _ _ _ _, by dsimp only; rw [lz]; omega, fun _ => by dsimp only; rw [lz]; omega⟩
      rw [if_neg c4]
      by_cases c5 : (nextI s a).k = 8
      · rw [if_pos c5]
        have hg := wo_good (nextI s a).t (nextI s a).e
        refine ⟨hg.1, by rw [hg.2]; omega, fun he => ?_⟩
        have := woI_range he
        rw [hg.2]; omega
      rw [if_neg c5]
      by_cases c6 : (nextI s a).k = 4
      · rw [if_pos c6]
        by_cases d : 64 ≤ w
        · rw [if_pos d]; exact ⟨(key _).1, (key _).2.1, (key _).2.2 (by decide)⟩
        rw [if_neg d]
        have := ih2 (nextI s a).e (w + 1) [] (by omega) (by omega) (by omega) (by simp [Tr.uniqL])
        rw [Tr.szL] at this
        exact ⟨this.1, by omega, fun he => by have := this.2.2 he; omega⟩
      rw [if_neg c6]
      by_cases c7 : (nextI s a).k = 6
      · rw [if_pos c7]
        by_cases d : 64 ≤ w
        · rw [if_pos d]; exact ⟨(key _).1, (key _).2.1, (key _).2.2 (by decide)⟩
        rw [if_neg d]
        have := ih3 (nextI s a).e (w + 1) [] (by omega) (by omega) (by omega) (by simp [Tr.uniqD]) (by simp)
        rw [Tr.szD] at this
        exact ⟨this.1, by omega, fun he => by have := this.2.2 he; omega⟩
      rw [if_neg c7]
      exact ⟨(key _).1, (key _).2.1, (key _).2.2 (by decide)⟩
    · have key : ∀ e : Int, (failP e).1.uniq ∧ ((failP e).1.sz : Int) ≤ 1 + Tr.szL l + (s.size - a) ∧ (e ≠ 0 → (failP e).2.2 = 0 → ((failP e).1.sz : Int) ≤ 1 + Tr.szL l + ((failP e).2.1 - a)) := fun e => ⟨(fail_good e).1, by rw [(fail_good e).2]; omega, fun h h' => absurd h' h⟩
      rw [lsN]
      by_cases c0 : ¬ (nextI s a).err = 0
      · rw [if_pos c0]; exact ⟨(key _).1, (key _).2.1, (key _).2.2 c0⟩
      rw [if_neg c0]
      have hr := nextI_range (s := s) (a := a) (by omega)
      by_cases c1 : (nextI s a).k = 5
      · rw [if_pos c1]
        have e1 : (Tr.mk 5 0 0 ⟨#[]⟩ l []).sz = 1 + Tr.szL l := by simp [Tr.sz, Tr.szD]
        refine ⟨?_, by dsimp only; rw [e1]; omega, fun _ => by dsimp only; rw [e1]; omega⟩
        dsimp only
        rw [Tr.uniq, Tr.uniqD]; exact ⟨hu, by simp, trivial⟩
      rw [if_neg c1]
      by_cases c2 : ¬ (rdN s n a w).2.2 = 0
      · rw [if_pos c2]; exact ⟨(key _).1, (key _).2.1, (key _).2.2 c2⟩
      rw [if_neg c2]
      have hrd := ih1 a w h0 (by omega) (by omega)
      have hrg := ((rd_range s n).1 a w h1 (by omega) (by omega)).resolve_right (by omega)
      have hsz := hrd.2.2 (by omega)
      have := ih2 (rdN s n a w).2.1 w (l ++ [(rdN s n a w).1]) (by omega) (by omega) (by omega) (uniqL_snoc hu hrd.1)
      rw [szL_snoc] at this
      refine ⟨this.1, ?_, fun he => ?_⟩
      · have h2 := this.2.1; omega
      · have h2 := this.2.2 he; omega
    · have key : ∀ e : Int, (failP e).1.uniq ∧ ((failP e).1.sz : Int) ≤ 1 + Tr.szD d + (s.size - a) ∧ (e ≠ 0 → (failP e).2.2 = 0 → ((failP e).1.sz : Int) ≤ 1 + Tr.szD d + ((failP e).2.1 - a)) := fun e => ⟨(fail_good e).1, by rw [(fail_good e).2]; omega, fun h h' => absurd h' h⟩
      rw [dcN]
      by_cases c0 : ¬ (nextI s a).err = 0
      · rw [if_pos c0]; exact ⟨(key _).1, (key _).2.1, (key _).2.2 c0⟩
      rw [if_neg c0]
      have hr := nextI_range (s := s) (a := a) (by omega)
      by_cases c1 : (nextI s a).k = 0
      · rw [if_pos c1]; exact ⟨(key _).1, (key _).2.1, (key _).2.2 (by decide)⟩
      rw [if_neg c1]
      by_cases c2 : (nextI s a).k = 7
      · rw [if_pos c2]
        have e1 : (Tr.mk 6 0 0 ⟨#[]⟩ [] d).sz = 1 + Tr.szD d := by simp [Tr.sz, Tr.szL]
        refine ⟨?_, by dsimp only; rw [e1]; omega, fun _ => by dsimp only; rw [e1]; omega⟩
        dsimp only
        rw [Tr.uniq, Tr.uniqL]; exact ⟨trivial, hnd, hu⟩
      rw [if_neg c2]
      by_cases c3 : ¬ (nextI s a).k = 2
      · rw [if_pos c3]; exact ⟨(key _).1, (key _).2.1, (key _).2.2 (by decide)⟩
      rw [if_neg c3]
      by_cases c4 : (d.any fun p => decide ((nextI s a).t = p.1)) = true
      · rw [if_pos c4]; exact ⟨(key _).1, (key _).2.1, (key _).2.2 (by decide)⟩
      rw [if_neg c4]
      by_cases c5 : ¬ (rdN s n (nextI s a).e w).2.2 = 0
      · rw [if_pos c5]; exact ⟨(key _).1, (key _).2.1, (key _).2.2 c5⟩
      rw [if_neg c5]
      have hrd := ih1 (nextI s a).e w (by omega) (by omega) (by omega)
      have hrg := ((rd_range s n).1 (nextI s a).e w (by omega) (by omega) (by omega)).resolve_right (by omega)
      have hsz := hrd.2.2 (by omega)
      have := ih3 (rdN s n (nextI s a).e w).2.1 w (d ++ [((nextI s a).t, (rdN s n (nextI s a).e w).1)]) (by omega) (by omega) (by omega) (uniqD_snoc hu hrd.1) (by
        rw [List.map_append, List.nodup_append]
        refine ⟨hnd, by simp, fun x hx y hy e => c4 ?_⟩
        simp only [List.map_cons, List.map_nil, List.mem_singleton] at hy
        obtain ⟨p, hp, rfl⟩ := List.mem_map.1 hx
        rw [List.any_eq_true]
        exact ⟨p, hp, by simp [e, hy]⟩)
      rw [szD_snoc] at this
      refine ⟨this.1, ?_, fun he => ?_⟩
      · have h2 := this.2.1; omega
      · have h2 := this.2.2 he; omega
end Go.Proofs.Ytgjhbambdnpcmaa
