/- Proved on the way: Contracts: value.Plain of what holds others. Contracts: the reference's Equal, at two values of one tree. -/
import Derived.Test.YtgjhbambdnpcmaaPnA
import Derived.Test.YtgjhbambdnpcmaaLxA
import Derived.Test.YtgjhbambdnpcmaaGoC
set_option linter.unusedVariables false
set_option linter.unusedSimpArgs false
namespace Go.Proofs.Ytgjhbambdnpcmaa
open Go Go.Eng Go.Srt
theorem plain_dict (k : Int) (hk : k = 6 ∨ k = 8) (n g : Int) (s : ByteArray) (l : List Tr) (d : List PT) (hbig : d.length ≤ 1073741824) (hv : ∀ p ∈ d, VP p.2) (hn : (d.map (·.1)).Nodup) : VP (.mk k n g s l d) := by
  intro cs H hr
  rw [Tr.rep] at hr
  obtain ⟨A, c, B, e, rfl, _, yss, hyr, hB⟩ := hr
  refine fn_intro Try.func12 rfl rfl (fun W0 => ?_)
  have hh := has_fn k H
  rcases hk with rfl | rfl
  · rw [show hasI 6 = (false, false, false, false, true, true) from rfl] at hh
    repeat' (first | apply wpc_seq | apply wpe_seq | apply wpl_nil | apply wpc_region | (apply g_any; first | (apply gmv; refine smv rfl rfl ?_) | (apply gas; refine sas rfl rfl ?_) | (apply gld; refine sld rfl (by exact rfl) (by exact rfl) rfl ?_) | (apply gfa; refine sfa rfl rfl ?_) | (apply gex; refine sex rfl rfl ?_) | (apply gst; refine sst rfl rfl (by exact rfl) (by exact rfl) (by exact rfl) (by exact rfl) ?_) | (apply gcl; first | refine scl rfl (hh) rfl ?_) | (apply gun; refine sun rfl rfl ?_) | (apply gal; refine sal rfl (fun _ => ?_)) | (apply gbx; refine sbx rfl rfl rfl (fun _ => ?_)) | (apply gbd; refine sbd rfl rfl rfl ?_)) | (apply g_wpc; first | (apply g_cond; first | refine cdT rfl ?_ | refine cdF rfl ?_) | apply wpc_skip))
    refine scs 0 rfl rfl (plairs_fn d B e yss H hbig hv hn hyr hB) rfl rfl (fun r H2 Lq hg2 hX => ?_)
    obtain ⟨A', c', zss, rfl, hz1, hz2⟩ := hX
    refine wpl_drop _ (List.sublist_append_right _ _) ?_
    repeat' (first | apply wpc_seq | apply wpe_seq | apply wpl_nil | apply wpc_region | (apply g_any; first | (apply gld; refine sld rfl (by exact rfl) (by exact rfl) rfl ?_) | (apply gfa; refine sfa rfl rfl ?_) | (apply gst; refine sst rfl rfl (by exact rfl) (by exact rfl) (by exact rfl) (by exact rfl) ?_)) | (apply g_wpc; first | apply wpc_ret))
    refine wpe_end (.inl rfl) (by exact .cell 2 rfl rfl rfl rfl .nil) [] (List.nil_sublist _) hg2 ⟨_, rfl, ?_⟩
    rw [show plT (.mk 6 n g s l d) = .mk 6 0 0 ⟨#[]⟩ [] (nnL (scL (plD d))) by rw [plT]; rfl]
    exact Tr.rep_dict hz1 hz2
  · rw [show hasI 8 = (false, false, true, false, true, true) from rfl] at hh
    repeat' (first | apply wpc_seq | apply wpe_seq | apply wpl_nil | apply wpc_region | (apply g_any; first | (apply gmv; refine smv rfl rfl ?_) | (apply gas; refine sas rfl rfl ?_) | (apply gld; refine sld rfl (by exact rfl) (by exact rfl) rfl ?_) | (apply gfa; refine sfa rfl rfl ?_) | (apply gex; refine sex rfl rfl ?_) | (apply gst; refine sst rfl rfl (by exact rfl) (by exact rfl) (by exact rfl) (by exact rfl) ?_) | (apply gcl; first | refine scl rfl (hh) rfl ?_) | (apply gun; refine sun rfl rfl ?_) | (apply gal; refine sal rfl (fun _ => ?_)) | (apply gbx; refine sbx rfl rfl rfl (fun _ => ?_)) | (apply gbd; refine sbd rfl rfl rfl ?_)) | (apply g_wpc; first | (apply g_cond; first | refine cdT rfl ?_ | refine cdF rfl ?_) | apply wpc_skip))
    refine scs 0 rfl rfl (plairs_fn d B e yss H hbig hv hn hyr hB) rfl rfl (fun r H2 Lq hg2 hX => ?_)
    obtain ⟨A', c', zss, rfl, hz1, hz2⟩ := hX
    refine wpl_drop _ (List.sublist_append_right _ _) ?_
    repeat' (first | apply wpc_seq | apply wpe_seq | apply wpl_nil | apply wpc_region | (apply g_any; first | (apply gld; refine sld rfl (by exact rfl) (by exact rfl) rfl ?_) | (apply gfa; refine sfa rfl rfl ?_) | (apply gst; refine sst rfl rfl (by exact rfl) (by exact rfl) (by exact rfl) (by exact rfl) ?_)) | (apply g_wpc; first | apply wpc_ret))
    refine wpe_end (.inl rfl) (by exact .cell 2 rfl rfl rfl rfl .nil) [] (List.nil_sublist _) hg2 ⟨_, rfl, ?_⟩
    rw [show plT (.mk 8 n g s l d) = .mk 8 0 0 s [] (nnL (scL (plD d))) by rw [plT]; rfl]
    exact Tr.rep_dict hz1 hz2
theorem plL_snoc (l : List Tr) (t : Tr) : plL (l ++ [t]) = plL l ++ [plT t] := by rw [plL_eq, plL_eq, List.map_append]; rfl
theorem plain_list (n g : Int) (s : ByteArray) (l : List Tr) (d : List PT) (hbig : l.length ≤ 1073741824) (hv : ∀ t ∈ l, VP t) : VP (.mk 5 n g s l d) := by
  intro cs H hr
  rw [Tr.rep] at hr
  obtain ⟨A, c, B, e, rfl, ⟨yss, hyr, hA⟩, _⟩ := hr
  have hyl := Tr.repL_len hyr
  refine fn_intro Try.func12 rfl rfl (fun W0 => ?_)
  have hh := has_fn 5 H
  rw [show hasI 5 = (false, false, false, true, false, true) from rfl] at hh
  repeat' (first | apply wpc_seq | apply wpe_seq | apply wpl_nil | apply wpc_region | (apply g_any; first | (apply gmv; refine smv rfl rfl ?_) | (apply gas; refine sas rfl rfl ?_) | (apply gld; refine sld rfl (by exact rfl) (by exact rfl) rfl ?_) | (apply gfa; refine sfa rfl rfl ?_) | (apply gex; refine sex rfl rfl ?_) | (apply gst; refine sst rfl rfl (by exact rfl) (by exact rfl) (by exact rfl) (by exact rfl) ?_) | (apply gln; first | refine slm rfl rfl ?_) | (apply gcl; first | refine scl rfl (hh) rfl ?_) | (apply gun; refine sun rfl rfl ?_) | (apply gal; refine sal rfl (fun _ => ?_)) | (apply gbx; refine sbx rfl rfl rfl (fun _ => ?_)) | (apply gbd; refine sbd rfl rfl rfl ?_)) | (apply g_wpc; first | apply wpc_block | (apply g_cond; first | refine cdT rfl ?_ | refine cdF rfl ?_) | apply wpc_skip))
  rename_i g1 g2 g3 g5
  refine wrC 26 6 ?_
  refine wrc [1] rfl ?_
  refine wpc_loopS (ι := Nat × List (List Value) × Option Addr × Nat × GH) (fun x => x.1 ≤ l.length ∧ Grow W0 H x.2.2.2.2 ∧ Tr.repL x.2.2.2.2 (plL (l.take x.1)) x.2.1) (fun x => l.length - x.1)
    (fun x => [(38, .slice A l.length c), (39, .int .i64 (l.length : Nat)), (40, .int .i64 (x.1 : Nat)), (5, .pointer (some ⟨g5, 0, none⟩)), (2, .pointer (some ⟨g2, 0, none⟩)), (3, .pointer (some ⟨g3, 0, none⟩))]) (fun x => x.2.2.2.2)
    (fun x => [.blk g5 (.cells #[.int .i64 5, .int .i64 0, .int .i64 0, .string ⟨#[]⟩, .slice x.2.2.1 x.2.1.length x.2.2.2.1, .slice none 0 0] 26 (0, 0)), .row 26 6 x.2.2.1 x.2.2.2.1 x.2.1, .blk g3 (.cells #[.bool false, .bool false, .bool false, .bool true, .bool false] 60 (0, 0)), .blk g2 (.cells #[.int .i64 0, .int .i64 0, .int .i64 0, .string ⟨#[]⟩, .slice none 0 0, .slice none 0 0] 26 (0, 0))]) (0, [], none, 0, H) ⟨Nat.zero_le _, Grow.refl _ _, by simp [plL, Tr.repL]⟩ ⟨rfl, rfl, rfl, rfl, rfl, rfl, trivial⟩ rfl (by repeat' (first | exact List.Sublist.slnil | apply List.Sublist.cons_cons | apply List.Sublist.cons)) ?_
  rintro ⟨j, xss, A2, c2, H1⟩ ⟨hj, hg1, hrep⟩
  dsimp only at hj hg1 hrep ⊢
  have hxl := (Tr.repL_len hrep).1
  rw [plL_eq, List.length_map, List.length_take] at hxl
  by_cases hlt : j < l.length
  case neg =>
    obtain rfl : j = l.length := by omega
    rw [List.take_of_length_le (Nat.le_refl _)] at hrep
    repeat' (first | apply wpc_seq | apply wpe_seq | apply wpl_nil | apply wpc_region | (apply g_any; first | (apply gld; refine sld rfl (by exact rfl) (by exact rfl) rfl ?_) | (apply gfa; refine sfa rfl rfl ?_) | (apply gst; refine sst rfl rfl (by exact rfl) (by exact rfl) (by exact rfl) (by exact rfl) ?_) | (apply gbn; first | refine sbn rfl rfl ?_)) | (apply g_wpc; first | (apply g_cond; first | refine cdF rfl ?_ | (refine cdD rfl (fun hb => ?_) (fun hb => ?_) <;> (try (exfalso; first | (with_reducible exact absurd (by assumption) hb) | (with_reducible exact absurd hb (by assumption)) | omega)))) | apply wpc_skip | apply wpc_exit | apply wpc_ret) | (apply g_wpe; first | apply wpe_then_exit | apply wpe_block_eq | apply wpe_back_exit))
    refine wpe_freeze [.blk g5 (.cells #[.int .i64 5, .int .i64 0, .int .i64 0, .string ⟨#[]⟩, .slice A2 xss.length c2, .slice none 0 0] 26 (0, 0))] [.blk g3 (.cells #[.bool false, .bool false, .bool false, .bool true, .bool false] 60 (0, 0)), .blk g2 (.cells #[.int .i64 5, .int .i64 0, .int .i64 0, .string ⟨#[]⟩, .slice A2 xss.length c2, .slice none 0 0] 26 (0, 0))] rfl ?_ (fun H2 hg2 hc => ?_)
    · intro b hb; cases hb
    refine wpe_end (.inl rfl) (by exact .cell 2 rfl rfl rfl rfl .nil) [] (List.nil_sublist _) (hg1.tr hg2) ⟨_, rfl, ?_⟩
    rw [show plT (.mk 5 n g s l d) = .mk 5 0 0 ⟨#[]⟩ (plL l) [] by rw [plT]; rfl]
    exact Tr.rep_list (Tr.repL_mono hg2.le hrep) hc
  obtain ⟨cs, hcs, hrj⟩ := Tr.repL_get (t := l[j]) hyr (List.getElem?_eq_getElem hlt)
  obtain ⟨k0, n0, g0, s0, B0, m0, c0', D0, m0', c0'', rfl⟩ := Tr.cells hrj
  rcases hA with ⟨_, rfl⟩ | ⟨ga, o, rfl, rfl | hc0⟩
  · simp at hcs
  · simp at hcs
  have hel := (hc0.el hyl.2 hcs).mono hg1.le
  have hnx : plL (l.take (j + 1)) = plL (l.take j) ++ [plT l[j]] := by rw [take_snoc hlt, plL_snoc]
  repeat' (first | apply wpc_seq | apply wpe_seq | apply wpl_nil | apply wpc_region | (apply g_any; first | refine slh (f := 0) hel rfl (by omega) rfl rfl rfl ?_ | (apply gst; refine sst rfl rfl (by exact rfl) (by exact rfl) (by exact rfl) (by exact rfl) ?_) | (apply gbn; first | refine sbn rfl rfl ?_) | (apply gal; refine sal rfl (fun _ => ?_)) | (apply gia; refine sia rfl rfl (by omega) (by omega) rfl ?_)) | (apply g_wpc; first | apply wpc_block | (apply g_cond; first | (refine cdD rfl (fun hb => ?_) (fun hb => ?_) <;> (try (exfalso; first | (with_reducible exact absurd (by assumption) hb) | (with_reducible exact absurd hb (by assumption)) | omega)))) | apply wpc_skip))
  rename_i g7
  refine wpc_heldU [0, 1] [1, 2] [0, 6] mixed rfl ?_
  refine whu_free [0] (fuel := 7) (listed' := #[true, false, false, false, false, false, false, false]) (by kernel_rfl) rfl (by kernel_rfl) ?_
  repeat' (first | (apply gt_any; first | (apply hfa; refine tfa rfl rfl ?_)))
  refine wpt_nil ?_
  refine whu_looks [1, 2] (fuel := 5) (listed' := #[true, true, true, false, false, false, false, false]) (by kernel_rfl) rfl (by kernel_rfl) (HLe.refl _) (by repeat' (first | exact List.Sublist.slnil | apply List.Sublist.cons_cons | apply List.Sublist.cons)) ?_
  repeat' (first | (apply gt_any; first | (apply hld; refine tld rfl (by exact rfl) (by exact rfl) rfl ?_)))
  refine wpt_nil ?_
  refine whu_one 3 (listed' := #[true, true, true, true, false, false, false, false]) (by kernel_rfl) rfl (by kernel_rfl) ?_   -- [value.go:142] t47   := Op.call {callee=(Callee.value f12), args=[t46], argTypes=[26]}   :
  refine scs 0 rfl rfl (hv _ (List.getElem_mem hlt) _ H1 (Tr.rep_mono hg1.le hrj)) rfl rfl (fun r H2 Lq hg2 hX => ?_)
  obtain ⟨cs', rfl, hrep2⟩ := hX
  obtain ⟨k1, n1, g1, s1, B1, m1, c1', D1, m1', c1'', rfl⟩ := Tr.cells hrep2
  refine wpl_drop _ (List.sublist_append_right _ _) ?_
  repeat' (first | apply wpl_nil)
  refine weu_hold (hg2.le) (by repeat' (first | exact List.Sublist.slnil | apply List.Sublist.cons_cons | apply List.Sublist.cons)) ?_
  refine whu_one 4 (listed' := #[true, true, true, true, true, false, false, false]) (by kernel_rfl) rfl (by kernel_rfl) ?_   -- [value.go:142] t48   := Op.buildSlice 23 1 [(tuple 0 t47)]   :ty23
  repeat' (first | apply wpl_nil | (apply g_any; first | (refine sb1 rfl rfl rfl rfl rfl rfl rfl (fun _ => ?_))))
  refine weu_hold (hg2.le) (by repeat' (first | exact List.Sublist.slnil | apply List.Sublist.cons_cons | apply List.Sublist.cons)) ?_
  refine whu_one 5 (listed' := #[true, true, true, true, true, true, false, false]) (by kernel_rfl) rfl (by kernel_rfl) ?_   -- [value.go:142] t49   := Op.call {callee=(Callee.builtin Builtin.append), args=[t45, t48], 
  repeat' (first | apply wpl_nil | (apply g_any; first | (refine sap rfl rfl rfl rfl rfl rfl rfl rfl (by omega) rfl (fun _ _ => ?_); refine wnL rfl ?_)))
  refine weu_hold (hg2.le) (by repeat' (first | exact List.Sublist.slnil | apply List.Sublist.cons_cons | apply List.Sublist.cons)) ?_
  refine whu_free [6] (fuel := 1) (listed' := #[true, true, true, true, true, true, true, false]) (by kernel_rfl) rfl (by kernel_rfl) ?_
  repeat' (first | (apply gt_any; first | (apply hfa; refine tfa rfl rfl ?_)))
  refine wpt_nil ?_
  refine whu_one 7 (listed' := #[true, true, true, true, true, true, true, true]) (by kernel_rfl) rfl (by kernel_rfl) ?_   -- [value.go:142] -     := Op.store 23 t50 t49
  repeat' (first | apply wpl_nil | (apply g_any; first | (apply gst; refine sst rfl rfl (by exact rfl) (by exact rfl) (by exact rfl) (by exact rfl) ?_)))
  refine weu_last (by kernel_rfl) ?_
  refine whu_done (by kernel_rfl) ?_
  repeat' (first | apply wpe_seq | apply wpl_nil | apply wpc_region | (apply g_any; first | (apply gmv; refine smv rfl rfl ?_) | (apply gbn; first | (apply gad; refine sad rfl rfl (by omega) (by omega) rfl ?_))) | (apply g_wpe; first | apply wpe_block))
  rename_i A3 c3
  exact wpe_back (j + 1, xss ++ [_], A3, c3, H2) ⟨by dsimp only; omega, hg1.tr hg2, by dsimp only; rw [hnx]; exact Tr.repL_snoc (Tr.repL_mono hg2.le hrep) hrep2⟩ (by dsimp only; omega) ⟨rfl, rfl, lki (by dsimp only; omega), rfl, rfl, rfl, trivial⟩ rfl (by simp only [List.length_append, List.length_singleton]; exact (by repeat' (first | exact List.Sublist.slnil | apply List.Sublist.cons_cons | apply List.Sublist.cons)))
theorem sz_pos : ∀ t : Tr, 1 ≤ t.sz
  | .mk _ _ _ _ _ _ => by rw [Tr.sz]; omega
theorem szL_len : ∀ l : List Tr, l.length ≤ Tr.szL l
  | [] => Nat.le_refl _
  | t :: r => by have := sz_pos t; have := szL_len r; rw [Tr.szL, List.length_cons]; omega
theorem szD_len : ∀ d : List PT, d.length ≤ Tr.szD d
  | [] => Nat.le_refl _
  | (_, t) :: r => by have := sz_pos t; have := szD_len r; rw [Tr.szD, List.length_cons]; omega
/-- Plain, whatever the value. -/
theorem plain_fn : ∀ (n : Nat) (t : Tr), t.sz ≤ n → t.sz ≤ 1073741824 → t.uniq → VP t
  | 0, .mk k n g s l d, h, _, _ => by rw [Tr.sz] at h; omega
  | n + 1, .mk k n' g s l d, h, hb, hu => by
    rw [Tr.sz] at h hb
    rw [Tr.uniq] at hu
    by_cases h5 : k = 5
    · subst h5
      refine plain_list n' g s l d ?_ fun t ht => ?_
      · have := szL_len l; omega
      · obtain ⟨i, hi, rfl⟩ := List.mem_iff_getElem.1 ht
        have := Tr.szL_get (List.getElem?_eq_getElem hi)
        exact plain_fn n _ (by omega) (by omega) (uniqL_mem hu.1 _ (List.getElem_mem hi))
    by_cases h6 : k = 6 ∨ k = 8
    · refine plain_dict k h6 n' g s l d ?_ (fun p hp => ?_) hu.2.1
      · have := szD_len d; omega
      · obtain ⟨i, hi, rfl⟩ := List.mem_iff_getElem.1 hp
        have := Tr.szD_get (k := d[i].1) (t := d[i].2) (List.getElem?_eq_getElem hi)
        exact plain_fn n _ (by omega) (by omega) (uniqD_mem hu.2.2 _ (List.getElem_mem hi))
    exact plain_leaf k n' g s l d ⟨h5, fun h => h6 (.inl h), fun h => h6 (.inr h)⟩
end Go.Proofs.Ytgjhbambdnpcmaa
set_option linter.unusedVariables false
set_option linter.unusedSimpArgs false
namespace Go.Proofs.Ytgjhbambdnpcmaa
open Go Go.Eng
theorem posT : ∀ t : Tr, 1 ≤ t.sz
  | .mk _ _ _ _ _ _ => by rw [Tr.sz]; omega
theorem lenL : ∀ l : List Tr, l.length ≤ Tr.szL l
  | [] => Nat.le_refl _
  | t :: r => by have := posT t; have := lenL r; rw [Tr.szL, List.length_cons]; omega
theorem lenD : ∀ d : List (ByteArray × Tr), d.length ≤ Tr.szD d
  | [] => Nat.le_refl _
  | (_, t) :: r => by have := posT t; have := lenD r; rw [Tr.szD, List.length_cons]; omega
set_option maxRecDepth 100000 in
theorem equal_fn : ∀ (q : Nat) (t : Tr) (cs cs' : List Value) (H : GH), t.sz ≤ q → t.sz ≤ 1073741824 → t.rep H cs → t.rep H cs' → CtV Try.prog 8 [.agg cs.toArray, .agg cs'.toArray] H (.bool true)
  | 0, .mk k n g s l d, cs, cs', H, h, _, _, _ => by rw [Tr.sz] at h; omega
  | q + 1, .mk k n g s l d, cs, cs', H, h, hbig, hr, hr' => by
    rw [Tr.sz] at h hbig
    rw [Tr.rep] at hr hr'
    obtain ⟨A, c, B, e, rfl, ⟨ys, hy, hA⟩, zs, hz, hB⟩ := hr
    obtain ⟨A', c', B', e', rfl, ⟨ys', hy', hA'⟩, zs', hz', hB'⟩ := hr'
    have hyl := (Tr.repL_len hy).2
    have hyl' := (Tr.repL_len hy').2
    have hzl := (Tr.repD_len hz).2
    have hzl' := (Tr.repD_len hz').2
    have hll : l.length ≤ 1073741824 := by have := lenL l; omega
    have hdl : d.length ≤ 1073741824 := by have := lenD d; omega
    refine fn_intro Try.func8 rfl rfl (fun W0 => ?_)
    repeat' (first | apply wpc_seq | apply wpe_seq | apply wpl_nil | apply wpc_region | (apply g_any; first | (apply gmv; refine smv rfl rfl ?_) | (apply gas; refine sas rfl rfl ?_) | (apply gld; refine sld rfl (by exact rfl) (by exact rfl) rfl ?_) | (apply gfa; refine sfa rfl rfl ?_) | (apply gbn; first | refine sbn rfl rfl ?_) | (apply gln; first | refine slm rfl rfl ?_) | (apply gpk; refine spk rfl rfl ?_) | (apply gbx; refine sbx rfl rfl rfl (fun _ => ?_)) | (apply g_guard; first | refine wpl_wanted (wants_ff rfl rfl rfl) ?_ | refine wpl_skip (wants_ft rfl rfl rfl) rfl ?_ | (refine gsD rfl rfl rfl (fun hb => ?_) (fun hb => ?_) <;> (try (exfalso; first | (with_reducible exact absurd (by assumption) hb) | (with_reducible exact absurd hb (by assumption)) | omega))))) | (apply g_wpc; first | apply wpc_block | (apply g_cond; first | refine cdT rfl ?_ | (refine cdD rfl (fun hb => ?_) (fun hb => ?_) <;> (try (exfalso; first | (with_reducible exact absurd (by assumption) hb) | (with_reducible exact absurd hb (by assumption)) | omega)))) | apply wpc_skip | apply wpc_ret) | (apply g_wpe; first | apply wpe_then_ret))
    all_goals first | exact absurd rfl (show ¬ s = s by assumption) | skip
    rename_i g2 g3 _ _ _ _ _
    refine wpc_loopS (ι := Nat) (fun j => j ≤ l.length) (fun j => l.length - j)
      (fun j => [(5, .int .i64 (j : Nat)), (2, .pointer (some ⟨g2, 0, none⟩)), (3, .pointer (some ⟨g3, 0, none⟩))]) (fun _ => H)
      (fun _ => [.blk g3 (.cells #[.int .i64 k, .int .i64 n, .int .i64 g, .string s, .slice A' l.length c', .slice B' d.length e'] 26 (0, 0)), .blk g2 (.cells #[.int .i64 k, .int .i64 n, .int .i64 g, .string s, .slice A l.length c, .slice B d.length e] 26 (0, 0))]) 0 (Nat.zero_le _) ⟨rfl, rfl, rfl, trivial⟩ rfl (by repeat' (first | exact List.Sublist.slnil | apply List.Sublist.cons_cons | apply List.Sublist.cons)) ?_
    intro j hj
    by_cases hlt : j < l.length
    case pos =>
      obtain ⟨u, hu, hru⟩ := Tr.repL_get (t := l[j]) hy (List.getElem?_eq_getElem hlt)
      obtain ⟨u', hu', hru'⟩ := Tr.repL_get (t := l[j]) hy' (List.getElem?_eq_getElem hlt)
      obtain ⟨k0, n0, g0, s0, B0, m0, c0, D0, m0', c0', rfl⟩ := Tr.cells hru
      obtain ⟨k1, n1, g1, s1, B1, m1, c1, D1, m1', c1', rfl⟩ := Tr.cells hru'
      rcases hA with ⟨_, rfl⟩ | ⟨ga, o, rfl, rfl | hc0⟩
      · simp at hu
      · simp at hu
      rcases hA' with ⟨_, rfl⟩ | ⟨ga', o', rfl, rfl | hc0'⟩
      · simp at hu'
      · simp at hu'
      have hel := hc0.el hyl hu
      have hel' := hc0'.el hyl' hu'
      have hsz := Tr.szL_get (List.getElem?_eq_getElem hlt)
      have ih := equal_fn q l[j] _ _ H (by omega) (by omega) hru hru'
      repeat' (first | apply wpc_seq | apply wpe_seq | apply wpl_nil | apply wpc_region | (apply g_any; first | (apply gmv; refine smv rfl rfl ?_) | (apply gas; refine sas rfl rfl ?_) | (apply gld; refine sld rfl (by exact rfl) (by exact rfl) rfl ?_) | (apply gfa; refine sfa rfl rfl ?_) | (apply gbn; first | (apply gad; refine sad rfl rfl (by omega) (by omega) rfl ?_) | refine sbn rfl rfl ?_) | (apply gln; first | refine slm rfl rfl ?_)) | (apply g_wpc; first | apply wpc_block | (apply g_cond; first | refine cdF rfl ?_ | (refine cdD rfl (fun hb => ?_) (fun hb => ?_) <;> (try (exfalso; first | (with_reducible exact absurd (by assumption) hb) | (with_reducible exact absurd hb (by assumption)) | omega)))) | apply wpc_skip | (apply g_draw; refine wpc_quiet mixed (by kernel_rfl) ?_)) | (apply g_wpe; first | apply wpe_block) | apply wpq_nil | (apply gq_any; first | refine qlh (f := 0) hel rfl (by omega) rfl rfl rfl ?_ | refine qlh (f := 0) hel' rfl (by omega) rfl rfl rfl ?_ | (apply kmv; refine qmv rfl rfl ?_) | (apply kld; refine qld rfl (by exact rfl) (by exact rfl) rfl ?_) | (apply kfa; refine qfa rfl rfl ?_) | (apply kcl; first | refine qcl rfl (ih) rfl ?_) | (apply kun; refine qun rfl rfl ?_) | (apply kia; refine qia rfl rfl (by omega) (by omega) rfl ?_)))
      exact wpe_back (j + 1) (by omega) (by omega) ⟨lki (by omega), rfl, rfl, trivial⟩ rfl (List.Sublist.refl _)
    obtain rfl : j = l.length := by omega
    repeat' (first | apply wpc_seq | apply wpe_seq | apply wpl_nil | apply wpc_region | (apply g_any; first | (apply gmv; refine smv rfl rfl ?_) | (apply gas; refine sas rfl rfl ?_) | (apply gld; refine sld rfl (by exact rfl) (by exact rfl) rfl ?_) | (apply gfa; refine sfa rfl rfl ?_) | (apply gbn; first | refine sbn rfl rfl ?_) | (apply gln; first | refine slm rfl rfl ?_)) | (apply g_wpc; first | apply wpc_block | (apply g_cond; first | (refine cdD rfl (fun hb => ?_) (fun hb => ?_) <;> (try (exfalso; first | (with_reducible exact absurd (by assumption) hb) | (with_reducible exact absurd hb (by assumption)) | omega)))) | apply wpc_exit) | (apply g_wpe; first | apply wpe_then_exit | apply wpe_block_eq | apply wpe_back_exit))
    refine wpc_loopS (ι := Nat) (fun j => j ≤ d.length) (fun j => d.length - j)
      (fun j => [(6, .int .i64 (j : Nat)), (2, .pointer (some ⟨g2, 0, none⟩)), (3, .pointer (some ⟨g3, 0, none⟩))]) (fun _ => H)
      (fun _ => [.blk g3 (.cells #[.int .i64 k, .int .i64 n, .int .i64 g, .string s, .slice A' l.length c', .slice B' d.length e'] 26 (0, 0)), .blk g2 (.cells #[.int .i64 k, .int .i64 n, .int .i64 g, .string s, .slice A l.length c, .slice B d.length e] 26 (0, 0))]) 0 (Nat.zero_le _) ⟨rfl, rfl, rfl, trivial⟩ rfl (by repeat' (first | exact List.Sublist.slnil | apply List.Sublist.cons_cons | apply List.Sublist.cons)) ?_
    intro j hj
    by_cases hlt : j < d.length
    case neg =>
      obtain rfl : j = d.length := by omega
      repeat' (first | apply wpc_seq | apply wpe_seq | apply wpl_nil | apply wpc_region | (apply g_any; first | (apply gmv; refine smv rfl rfl ?_) | (apply gas; refine sas rfl rfl ?_) | (apply gld; refine sld rfl (by exact rfl) (by exact rfl) rfl ?_) | (apply gfa; refine sfa rfl rfl ?_) | (apply gbn; first | refine sbn rfl rfl ?_) | (apply gln; first | refine slm rfl rfl ?_)) | (apply g_wpc; first | (apply g_cond; first | (refine cdD rfl (fun hb => ?_) (fun hb => ?_) <;> (try (exfalso; first | (with_reducible exact absurd (by assumption) hb) | (with_reducible exact absurd hb (by assumption)) | omega)))) | apply wpc_exit | apply wpc_ret) | (apply g_wpe; first | apply wpe_then_exit | apply wpe_block_eq | apply wpe_back_exit))
      exact wpe_end (.inl rfl) (by exact .tmp rfl .nil) [] (List.nil_sublist _) (Grow.refl _ _) rfl
    obtain ⟨u, hu, hru⟩ := Tr.repD_get (key := d[j].1) (t := d[j].2) hz (List.getElem?_eq_getElem hlt)
    obtain ⟨u', hu', hru'⟩ := Tr.repD_get (key := d[j].1) (t := d[j].2) hz' (List.getElem?_eq_getElem hlt)
    obtain ⟨k0, n0, g0, s0, B0, m0, c0, D0, m0', c0', rfl⟩ := Tr.cells hru
    obtain ⟨k1, n1, g1, s1, B1, m1, c1, D1, m1', c1', rfl⟩ := Tr.cells hru'
    rcases hB with ⟨_, rfl⟩ | ⟨ga, o, rfl, rfl | hc0⟩
    · simp at hu
    · simp at hu
    rcases hB' with ⟨_, rfl⟩ | ⟨ga', o', rfl, rfl | hc0'⟩
    · simp at hu'
    · simp at hu'
    have hel := hc0.el hzl hu
    have hel' := hc0'.el hzl' hu'
    have hsz := Tr.szD_get (k := d[j].1) (t := d[j].2) (List.getElem?_eq_getElem hlt)
    have ih := equal_fn q d[j].2 _ _ H (by omega) (by omega) hru hru'
    repeat' (first | apply wpc_seq | apply wpe_seq | apply wpl_nil | apply wpc_region | (apply g_any; first | (apply gmv; refine smv rfl rfl ?_) | (apply gas; refine sas rfl rfl ?_) | (apply gld; refine sld rfl (by exact rfl) (by exact rfl) rfl ?_) | (apply gfa; refine sfa rfl rfl ?_) | (apply gbn; first | (apply gad; refine sad rfl rfl (by omega) (by omega) rfl ?_) | refine sbn rfl rfl ?_) | (apply gln; first | refine slm rfl rfl ?_)) | (apply g_wpc; first | apply wpc_block | (apply g_cond; first | refine cdT rfl ?_ | refine cdF rfl ?_ | (refine cdD rfl (fun hb => ?_) (fun hb => ?_) <;> (try (exfalso; first | (with_reducible exact absurd (by assumption) hb) | (with_reducible exact absurd hb (by assumption)) | omega)))) | apply wpc_skip | apply wpc_ret | (apply g_draw; refine wpc_quiet mixed (by kernel_rfl) ?_)) | (apply g_wpe; first | apply wpe_block | apply wpe_then_ret | apply wpe_block_ret | apply wpe_back_ret) | apply wpq_nil | (apply gq_any; first | refine qlh (f := 0) hel rfl (by omega) rfl rfl rfl ?_ | refine qlh (f := 0) hel' rfl (by omega) rfl rfl rfl ?_ | refine qlh (f := 1) hel rfl (by omega) rfl rfl rfl ?_ | refine qlh (f := 1) hel' rfl (by omega) rfl rfl rfl ?_ | (apply kmv; refine qmv rfl rfl ?_) | (apply kld; refine qld rfl (by exact rfl) (by exact rfl) rfl ?_) | (apply kfa; refine qfa rfl rfl ?_) | (apply kbn; first | refine qbn rfl rfl ?_) | (apply kcl; first | refine qcl rfl (ih) rfl ?_) | (apply kpk; refine qpk rfl rfl ?_) | (apply kun; refine qun rfl rfl ?_) | (apply kia; refine qia rfl rfl (by omega) (by omega) rfl ?_) | (apply gq_guard; first | refine wpq_wanted (wants_ff rfl rfl rfl) ?_ | refine wpq_skip (wants_ft rfl rfl rfl) rfl ?_ | (refine ksD rfl rfl rfl (fun hb => ?_) (fun hb => ?_) <;> (try (exfalso; first | (with_reducible exact absurd (by assumption) hb) | (with_reducible exact absurd hb (by assumption)) | omega))))))
    all_goals first | exact absurd rfl (show ¬ d[j].1 = d[j].1 by assumption) | skip
    exact wpe_back (j + 1) (by omega) (by omega) ⟨lki (by omega), rfl, rfl, trivial⟩ rfl (List.Sublist.refl _)
end Go.Proofs.Ytgjhbambdnpcmaa
