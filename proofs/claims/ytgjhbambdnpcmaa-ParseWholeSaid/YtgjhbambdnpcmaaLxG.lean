/- Proved on the way: Contracts: texts of digits, the scanner's. Contracts: texts of digits, the scanner's. -/
import Derived.Test.YtgjhbambdnpcmaaLxF
set_option linter.unusedVariables false
set_option linter.unusedSimpArgs false
namespace Go.Proofs.Ytgjhbambdnpcmaa
open Go Go.Eng
theorem lor8_hex {a b : Int} (h0 : 0 ≤ a) (h1 : a ≤ 15) (h2 : 0 ≤ b) (h3 : b ≤ 15) : lor .u8 (16 * a) b = 16 * a + b := by
  have key : ∀ x y : Fin 16, lor .u8 (16 * (x.val : Int)) y.val = 16 * x.val + y.val := by decide +kernel
  obtain ⟨n, rfl⟩ := Int.eq_ofNat_of_zero_le h0
  obtain ⟨m, rfl⟩ := Int.eq_ofNat_of_zero_le h2
  exact key ⟨n, by omega⟩ ⟨m, by omega⟩
theorem put0_fn (s : ByteArray) (i d n : Int) (g gn gs : Nat) (out : List Int) (A : Option Addr) (c : Nat) (H : GH) (hd0 : 0 ≤ d) (hd1 : d ≤ 15) (hn0 : 0 ≤ n) (hn1 : n ≤ 200000) (hev : n % 2 = 0) (ho : out.length ≤ 65536) :
    CtL Try.prog 74 [.int .i64 d, .pointer (some ⟨gn, 0, none⟩), .pointer (some ⟨gs, 0, none⟩)] H [.blk gn (.cells #[.int .i64 n] 3 (0, 0)), .blk gs (.cells #[.pointer (some ⟨g, 0, none⟩)] 67 (0, 0)), .blk g (.cells #[.string s, .int .i64 i, .slice A out.length c] 70 (0, 0)), .row 5 1 A c (bys out)]
    (fun r L' => r = .tuple #[] ∧ ∃ A' c', L' = [.blk gn (.cells #[.int .i64 (n + 1)] 3 (0, 0)), .blk gs (.cells #[.pointer (some ⟨g, 0, none⟩)] 67 (0, 0)), .blk g (.cells #[.string s, .int .i64 i, .slice A' (out ++ [d * 16]).length c'] 70 (0, 0)), .row 5 1 A' c' (bys (out ++ [d * 16]))]) := by
  refine fn_intro Try.func74 rfl rfl (fun w => ?_)
  have hw : IntKind.i64.wrap (d * 16) = d * 16 := wrap_in (by omega) (by omega)
  repeat' (first | apply wpc_seq | apply wpe_seq | apply wpl_nil | apply wpc_region | (apply g_any; first | (apply gld; refine sld rfl (by exact rfl) (by exact rfl) rfl ?_) | (apply gst; refine sst rfl rfl (by exact rfl) (by exact rfl) (by exact rfl) (by exact rfl) ?_) | (apply gbn; first | (apply gad; refine sad rfl rfl (by omega) (by omega) rfl ?_) | refine sbn rfl rfl ?_ | refine srm rfl rfl (by omega) (by omega) rfl ?_)) | (apply g_wpc; first | (apply g_cond; first | (refine cdD rfl (fun hb => ?_) (fun hb => ?_) <;> (try (exfalso; first | (with_reducible exact absurd (by assumption) hb) | (with_reducible exact absurd hb (by assumption)) | omega))))))
  refine wpc_held [.blk gs (.cells #[.pointer (some ⟨g, 0, none⟩)] 67 (0, 0)), .blk g (.cells #[.string s, .int .i64 i, .slice A out.length c] 70 (0, 0))] 10 mixed ?_
  refine wph_takes [0, 1, 2, 3, 4, 5, 6, 7] (fuel := 5) (listed' := #[true, true, true, true, true, true, true, true, false, false, false, false, false]) (by kernel_rfl) rfl (by kernel_rfl) (HLe.refl _) (by repeat' (first | exact List.Sublist.slnil | apply List.Sublist.cons_cons | apply List.Sublist.cons)) ?_
  repeat' (first | (apply gt_any; first | (apply hmv; refine tmv rfl rfl ?_) | (apply hld; refine tld rfl (by exact rfl) (by exact rfl) rfl ?_) | (apply hfa; refine tfa rfl rfl ?_) | (apply hbn; first | refine tsh rfl rfl rfl ?_) | (apply hnc; refine tnc rfl rfl ?_) | (apply hcv; first | refine tc8 rfl (by omega) (by omega) rfl ?_)))
  refine wpt_nil ?_
  refine wph_one 8 (listed' := #[true, true, true, true, true, true, true, true, true, false, false, false, false]) (by kernel_rfl) rfl (by kernel_rfl) ?_   -- [token.go:173] t17   := Op.buildSlice 68 1 [(tuple 0 t16)]   :ty68
  repeat' (first | apply wpl_nil | (apply g_any; first | (refine sb1 rfl rfl rfl rfl rfl rfl rfl (fun _ => ?_))))
  refine wpe_hold (HLe.refl _) (by repeat' (first | exact List.Sublist.slnil | apply List.Sublist.cons_cons | apply List.Sublist.cons)) ?_
  refine wph_one 9 (listed' := #[true, true, true, true, true, true, true, true, true, true, false, false, false]) (by kernel_rfl) rfl (by kernel_rfl) ?_   -- [token.go:173] t18   := Op.call {callee=(Callee.builtin Builtin.append), args=[t13, t17], 
  repeat' (first | apply wpl_nil | (apply g_any; first | (refine sapb rfl rfl (by omega) rfl rfl (by omega) rfl (fun _ _ => ?_); refine wnL rfl ?_)))
  refine wpe_hold (HLe.refl _) (by repeat' (first | exact List.Sublist.slnil | apply List.Sublist.cons_cons | apply List.Sublist.cons)) ?_
  refine wph_after [10, 11] (fuel := 1) (listed' := #[true, true, true, true, true, true, true, true, true, true, true, true, false]) (by kernel_rfl) rfl (by kernel_rfl) ?_
  repeat' (first | (apply gt_any; first | (apply hfa; refine tfa rfl rfl ?_) | (apply hnc; refine tnc rfl rfl ?_)))
  refine wpt_nil ?_
  refine wph_one 12 (listed' := #[true, true, true, true, true, true, true, true, true, true, true, true, true]) (by kernel_rfl) rfl (by kernel_rfl) ?_   -- [token.go:173] -     := Op.store 68 t20 t18
  repeat' (first | apply wpl_nil | (apply g_any; first | (apply gst; refine sst rfl rfl (by exact rfl) (by exact rfl) (by exact rfl) (by exact rfl) ?_)))
  refine wpe_last (by kernel_rfl) ?_
  refine wph_done (by kernel_rfl) ?_
  repeat' (first | apply wpe_seq | (apply g_wpc; first | apply wpc_ret) | (apply g_wpe; first | apply wpe_then_ret))
  · rename_i g1 A1 c1
    refine wpe_end (.inl rfl) (by exact .nil) _ (List.Sublist.cons _ (List.Sublist.refl _)) (Grow.refl _ _) ?_
    rw [hw]
    exact ⟨rfl, A1, c1, rfl⟩
theorem put1_fn (s : ByteArray) (i d n h : Int) (g gn gs : Nat) (pre : List Int) (A : Option Addr) (c : Nat) (H : GH) (hd0 : 0 ≤ d) (hd1 : d ≤ 15) (hn0 : 0 ≤ n) (hn1 : n ≤ 200000) (hev : n % 2 = 1) (hh0 : 0 ≤ h) (hh1 : h ≤ 15) (ho : pre.length ≤ 65536) :
    CtL Try.prog 74 [.int .i64 d, .pointer (some ⟨gn, 0, none⟩), .pointer (some ⟨gs, 0, none⟩)] H [.blk gn (.cells #[.int .i64 n] 3 (0, 0)), .blk gs (.cells #[.pointer (some ⟨g, 0, none⟩)] 67 (0, 0)), .blk g (.cells #[.string s, .int .i64 i, .slice A (pre ++ [16 * h]).length c] 70 (0, 0)), .row 5 1 A c (bys (pre ++ [16 * h]))]
    (fun r L' => r = .tuple #[] ∧ L' = [.blk gn (.cells #[.int .i64 (n + 1)] 3 (0, 0)), .blk gs (.cells #[.pointer (some ⟨g, 0, none⟩)] 67 (0, 0)), .blk g (.cells #[.string s, .int .i64 i, .slice A (pre ++ [16 * h + d]).length c] 70 (0, 0)), .row 5 1 A c (bys (pre ++ [16 * h + d]))]) := by
  refine fn_intro Try.func74 rfl rfl (fun w => ?_)
  refine wpc_rowsome [_, _, _] [] rfl (by simp [bys]) (fun ga hA => ?_)
  subst hA
  generalize hout : pre ++ [16 * h] = out
  have hol : out.length = pre.length + 1 := by rw [← hout]; simp
  have hlast : out[pre.length]? = some (16 * h) := by rw [← hout]; simp
  have hlast' : ∀ o, o = pre.length → out[o]? = some (16 * h) := fun o h => h ▸ hlast
  have hlor : lor .u8 (16 * h) d = 16 * h + d := lor8_hex hh0 hh1 hd0 hd1
  repeat' (first | apply wpc_seq | apply wpe_seq | apply wpl_nil | apply wpc_region | (apply g_any; first | (apply gld; refine sld rfl (by exact rfl) (by exact rfl) rfl ?_) | (apply gst; refine sst rfl rfl (by exact rfl) (by exact rfl) (by exact rfl) (by exact rfl) ?_) | (apply gbn; first | (apply gad; refine sad rfl rfl (by omega) (by omega) rfl ?_) | refine sbn rfl rfl ?_ | refine srm rfl rfl (by omega) (by omega) rfl ?_)) | (apply g_wpc; first | (apply g_cond; first | (refine cdD rfl (fun hb => ?_) (fun hb => ?_) <;> (try (exfalso; first | (with_reducible exact absurd (by assumption) hb) | (with_reducible exact absurd hb (by assumption)) | omega)))) | apply wpc_skip))
  refine wpc_held [.blk gs (.cells #[.pointer (some ⟨g, 0, none⟩)] 67 (0, 0)), .blk g (.cells #[.string s, .int .i64 i, .slice (some ⟨ga, 0, none⟩) out.length c] 70 (0, 0)), .row 5 1 (some ⟨ga, 0, none⟩) c (bys out)] 16 mixed ?_
  refine wph_takes [0, 1, 2, 3, 4, 5, 6, 7, 8, 9, 10, 11, 12, 13, 14, 15] (fuel := 1) (listed' := #[true, true, true, true, true, true, true, true, true, true, true, true, true, true, true, true, false]) (by kernel_rfl) rfl (by kernel_rfl) (HLe.refl _) (by repeat' (first | exact List.Sublist.slnil | apply List.Sublist.cons_cons | apply List.Sublist.cons)) ?_
  repeat' (first | (apply gt_any; first | refine tlb rfl (hlast' _ (by omega)) rfl ?_ | (apply hmv; refine tmv rfl rfl ?_) | (apply hld; refine tld rfl (by exact rfl) (by exact rfl) rfl ?_) | (apply hfa; refine tfa rfl rfl ?_) | (apply hbn; first | (apply hsb; refine tsb rfl rfl (by omega) (by omega) rfl ?_) | refine tor rfl rfl rfl ?_) | (apply hln; first | refine tlm rfl rfl ?_) | (apply hnc; refine tnc rfl rfl ?_) | (apply hcv; first | refine tc8 rfl (by omega) (by omega) rfl ?_) | (apply hia; refine tia rfl rfl (by omega) (by omega) rfl ?_)))
  refine wpt_nil ?_
  refine wph_one 16 (listed' := #[true, true, true, true, true, true, true, true, true, true, true, true, true, true, true, true, true]) (by kernel_rfl) rfl (by kernel_rfl) ?_   -- [token.go:176] -     := Op.store 5 t36 t35
  refine ssb_ rfl rfl (by omega) ?_
  refine wnL rfl ?_
  repeat' (first | apply wpl_nil)
  refine wpe_last (by kernel_rfl) ?_
  refine wph_done (by kernel_rfl) ?_
  skip
  refine wpe_end (.inr rfl) (by exact .nil) _ (List.Sublist.refl _) (Grow.refl _ _) ?_
  have hset : out.set (0 + ((out.length : Int) - 1).toNat * 1) (lor .u8 (16 * h) d) = pre ++ [16 * h + d] := by
    rw [hlor, show 0 + ((out.length : Int) - 1).toNat * 1 = pre.length by omega, ← hout]
    simp
  rw [hset, show out.length = (pre ++ [16 * h + d]).length by rw [hol]; simp]
  exact ⟨rfl, rfl⟩
end Go.Proofs.Ytgjhbambdnpcmaa
set_option linter.unusedVariables false
set_option linter.unusedSimpArgs false
namespace Go.Proofs.Ytgjhbambdnpcmaa
open Go Go.Eng
/-- What the scanner holds: whole bytes, and half a byte. -/
def withHalf (out : List Int) (half : Int) : List Int := if half < 0 then out else out ++ [16 * half]
theorem hexS_fn (s : ByteArray) (i0 : Int) (g : Nat) (H : GH) (hs : s.size ≤ 140737488351232) (h0 : 0 ≤ i0) (h1 : i0 < s.size) : CtL Try.prog 58 [.pointer (some ⟨g, 0, none⟩)] H [.blk g (.cells #[.string s, .int .i64 i0, .slice none 0 0] 70 (0, 0)), .row 5 1 none 0 (bys [])]
    (fun r L' => if (hxI s (i0 + 1)).2.2 = 0 then ∃ V, L' = [.blk g (.cells #[.string s, .int .i64 (hxI s (i0 + 1)).2.1, V] 70 (0, 0))] ∧ r = .tuple #[.agg #[.int .i64 3, .int .i64 0, .string (bstr (hxI s (i0 + 1)).1), .int .i64 0, .int .i64 0], .int .i64 0]
      else r = .tuple #[.agg #[.int .i64 0, .int .i64 0, .string ⟨#[]⟩, .int .i64 0, .int .i64 0], .int .i64 (hxI s (i0 + 1)).2.2]) := by
  refine fn_intro Try.func58 rfl rfl (fun w => ?_)
  repeat' (first | apply wpc_seq | apply wpe_seq | apply wpl_nil | apply wpc_region | (apply g_any; first | (apply gas; refine sas rfl rfl ?_) | (apply gld; refine sld rfl (by exact rfl) (by exact rfl) rfl ?_) | (apply gfa; refine sfa rfl rfl ?_) | (apply gst; refine sst rfl rfl (by exact rfl) (by exact rfl) (by exact rfl) (by exact rfl) ?_) | (apply gbn; first | (apply gad; refine sad rfl rfl (by omega) (by omega) rfl ?_)) | (apply gnc; refine snc rfl rfl ?_) | (apply gal; refine sal rfl (fun _ => ?_)) | (apply gbx; refine sbx rfl rfl rfl (fun _ => ?_)) | (apply gmf; refine smf rfl rfl rfl ?_)))
  rename_i gs gr gn
  refine wpl_perm [.blk gr (.cells #[.int .i64 0, .int .i64 0, .string ⟨#[]⟩, .int .i64 0, .int .i64 0] 51 (0, 0)), .blk gn (.cells #[.int .i64 0] 3 (0, 0)), .blk gs (.cells #[.pointer (some ⟨g, 0, none⟩)] 67 (0, 0)), .blk g (.cells #[.string s, .int .i64 (i0 + 1), .slice none ([] : List Int).length 0] 70 (0, 0)), .row 5 1 none 0 (bys ([] : List Int))] (List.Perm.swap _ _ _) ?_
  refine scq 3 rfl rfl (more_fn s (i0 + 1) g _ _ hs (by omega) (by omega)) rfl rfl (fun r Lq hX => ?_)
  obtain ⟨rfl, rfl⟩ := hX
  refine wnL rfl ?_
  obtain ⟨b0, ok0, hr, hcase⟩ : ∃ b ok, (if i0 + 1 < (s.size : Int) then Value.tuple #[.int .u8 (bt s (i0 + 1)), .bool true] else .tuple #[.int .u8 0, .bool false]) = .tuple #[.int .u8 b, .bool ok] ∧ (i0 + 1 < s.size ∧ b = bt s (i0 + 1) ∧ ok = true ∨ i0 + 1 = s.size ∧ b = 0 ∧ ok = false) := by
    by_cases h : i0 + 1 < (s.size : Int)
    · exact ⟨_, _, if_pos h, .inl ⟨h, rfl, rfl⟩⟩
    · exact ⟨_, _, if_neg h, .inr ⟨by omega, rfl, rfl⟩⟩
  rw [hr]
  repeat' (first | apply wpe_seq | apply wpl_nil | (apply g_any; first | (apply gmv; refine smv rfl rfl ?_) | (apply gas; refine sas rfl rfl ?_) | (apply gex; refine sex rfl rfl ?_)) | (apply g_wpc; first | apply wpc_block))
  refine wpc_less (l' := [(6, .int .u8 b0), (7, .bool ok0), (5, .func (.func 74) #[] #[.pointer (some ⟨gn, 0, none⟩), .pointer (some ⟨gs, 0, none⟩)]), (1, .pointer (some ⟨gs, 0, none⟩)), (2, .pointer (some ⟨gr, 0, none⟩)), (4, .pointer (some ⟨gn, 0, none⟩))]) ⟨rfl, rfl, rfl, rfl, rfl, rfl, trivial⟩ (List.Sublist.refl _) ?_
  refine weC [.blk gr (.cells #[.int .i64 0, .int .i64 0, .string ⟨#[]⟩, .int .i64 0, .int .i64 0] 51 (0, 0)), .blk gn (.cells #[.int .i64 0] 3 (0, 0)), .blk gs (.cells #[.pointer (some ⟨g, 0, none⟩)] 67 (0, 0)), .blk g (.cells #[.string s, .int .i64 (i0 + 1), .slice none (withHalf [] (-1)).length 0] 70 (0, 0)), .row 5 1 none 0 (bys (withHalf [] (-1)))] rfl ?_
  refine wpc_loop (ι := Int × Int × Bool × Int × List Int × Int × Option Addr × Nat) (fun x => (x.1 < s.size ∧ x.2.1 = bt s x.1 ∧ x.2.2.1 = true ∨ x.1 = s.size ∧ x.2.1 = 0 ∧ x.2.2.1 = false) ∧ 0 ≤ x.1 ∧ x.2.2.2.2.1.length ≤ 65535 ∧ -1 ≤ x.2.2.2.2.2.1 ∧ x.2.2.2.2.2.1 ≤ 15 ∧ (x.2.2.2.2.2.1 < 0 → x.2.2.2.1 = 2 * x.2.2.2.2.1.length) ∧ (0 ≤ x.2.2.2.2.2.1 → x.2.2.2.1 = 2 * x.2.2.2.2.1.length + 1) ∧ ∃ m : Nat, s.size - x.1 ≤ (m : Int) ∧ hxI s (i0 + 1) = hxN s m x.1 x.2.2.2.2.1 x.2.2.2.2.2.1) (fun x => (s.size - x.1).toNat)
    (fun x => [(6, .int .u8 x.2.1), (7, .bool x.2.2.1), (5, .func (.func 74) #[] #[.pointer (some ⟨gn, 0, none⟩), .pointer (some ⟨gs, 0, none⟩)]), (1, .pointer (some ⟨gs, 0, none⟩)), (2, .pointer (some ⟨gr, 0, none⟩)), (4, .pointer (some ⟨gn, 0, none⟩))]) (fun _ => H)
    (fun x => [.blk gr (.cells #[.int .i64 0, .int .i64 0, .string ⟨#[]⟩, .int .i64 0, .int .i64 0] 51 (0, 0)), .blk gn (.cells #[.int .i64 x.2.2.2.1] 3 (0, 0)), .blk gs (.cells #[.pointer (some ⟨g, 0, none⟩)] 67 (0, 0)), .blk g (.cells #[.string s, .int .i64 x.1, .slice x.2.2.2.2.2.2.1 (withHalf x.2.2.2.2.1 x.2.2.2.2.2.1).length x.2.2.2.2.2.2.2] 70 (0, 0)), .row 5 1 x.2.2.2.2.2.2.1 x.2.2.2.2.2.2.2 (bys (withHalf x.2.2.2.2.1 x.2.2.2.2.2.1))]) ?_ (i0 + 1, b0, ok0, 0, [], -1, none, 0) ⟨hcase, by dsimp only; omega, by simp, by simp, by simp, by simp, by simp, (s.size - (i0 + 1)).toNat, by dsimp only; omega, rfl⟩
  rintro ⟨i, b, ok, n, out, half, A, c⟩ ⟨hc, hi0, ho, hh0, hh1, hn0, hn1, m, hm, hx⟩
  dsimp only at hc hi0 ho hh0 hh1 hn0 hn1 hm hx ⊢
  rcases hc with ⟨hlt, rfl, rfl⟩ | ⟨rfl, rfl, rfl⟩
  case inr =>
    have hx' : hxI s (i0 + 1) = ([], 0, 5) := by
      cases m with
      | zero => rw [hx, hxN]
      | succ m => rw [hx, hxN, if_neg (by omega)]
    repeat' (first | apply wpc_seq | apply wpe_seq | apply wpl_nil | apply wpc_region | (apply g_any; first | (apply gmv; refine smv rfl rfl ?_) | (apply gas; refine sas rfl rfl ?_) | (apply gex; refine sex rfl rfl ?_) | (apply gst; refine sst rfl rfl (by exact rfl) (by exact rfl) (by exact rfl) (by exact rfl) ?_) | (apply gcl; first | refine scl rfl (bad_fn _ _) rfl ?_)) | (apply g_wpc; first | (apply g_cond; first | refine cdF rfl ?_) | apply wpc_exit | apply wpc_ret) | (apply g_wpe; first | apply wpe_then_exit | apply wpe_block_eq | apply wpe_back_exit))
    refine wpe_end (.inl rfl) (by exact .cell 0 rfl rfl rfl rfl (.tmp rfl .nil)) [] (List.nil_sublist _) (Grow.refl _ _) ?_
    rw [hx']; rfl
  cases m with
  | zero => exfalso; omega
  | succ m =>
  rw [hxN, if_pos hlt] at hx
  have hr := hexI_range (bt s i)
  have hbr := bt_range s i
  have e62 : bt s i = 62 → hexI (bt s i) = -1 := fun h => by rw [h]; rfl
  have hwl : (half < 0 → (withHalf out half).length = out.length) ∧ (0 ≤ half → (withHalf out half).length = out.length + 1) := by
    unfold withHalf
    constructor
    · intro h; rw [if_pos h]
    · intro h; rw [if_neg (by omega)]; simp
  repeat' (first | apply wpc_seq | apply wpe_seq | apply wpl_nil | apply wpc_region | (apply g_any; first | (apply gmv; refine smv rfl rfl ?_) | (apply gas; refine sas rfl rfl ?_) | (apply gld; refine sld rfl (by exact rfl) (by exact rfl) rfl ?_) | (apply gfa; refine sfa rfl rfl ?_) | (apply gex; refine sex rfl rfl ?_) | (apply gst; refine sst rfl rfl (by exact rfl) (by exact rfl) (by exact rfl) (by exact rfl) ?_) | (apply gbn; first | (apply gad; refine sad rfl rfl (by omega) (by omega) rfl ?_) | refine sbn rfl rfl ?_ | refine squ rfl rfl (by omega) (by omega) (by omega) rfl ?_) | (apply gln; first | refine slm rfl rfl ?_) | (apply gcl; first | refine scl rfl (kind_fn _ _) rfl ?_ | refine scl rfl ((hex_fn _ _ (bt_range _ _).1 (bt_range _ _).2)) rfl ?_ | refine scl rfl (bad_fn _ _) rfl ?_) | (apply gnc; refine snc rfl rfl ?_)) | (apply g_wpc; first | apply wpc_block | (apply g_cond; first | refine cdT rfl ?_ | (refine cdD rfl (fun hb => ?_) (fun hb => ?_) <;> (try (exfalso; first | (with_reducible exact absurd (by assumption) hb) | (with_reducible exact absurd hb (by assumption)) | omega)))) | apply wpc_skip | apply wpc_ret) | (apply g_wpe; first | apply wpe_block | apply wpe_then_ret | apply wpe_block_ret | apply wpe_back_ret))
  · rw [if_pos (by assumption), if_neg (by omega), if_pos (by rw [List.length_append, List.length_singleton]; omega)] at hx
    refine wpe_end (.inl rfl) (by exact .cell 0 rfl rfl rfl rfl (.tmp rfl .nil)) [] (List.nil_sublist _) (Grow.refl _ _) ?_
    rw [hx]; rfl
  · rw [if_pos (by assumption)] at hx
    have hx' : hxI s (i0 + 1) = (withHalf out half, i + 1, 0) := by
      by_cases h : half < 0
      · rw [hx, if_pos h, withHalf, if_pos h]
      · rw [hx, if_neg h, if_neg (by rw [List.length_append, List.length_singleton]; omega), withHalf, if_neg h, Int.add_zero]
    refine scq 3 rfl rfl (told_fn 3 s (i + 1) g (withHalf out half) A c _) rfl rfl (fun r Lq hX => ?_)
    obtain ⟨rfl, rfl⟩ := hX
    refine wnL rfl ?_
    repeat' (first | apply wpe_seq | apply wpl_nil | (apply g_any; first | (apply gas; refine sas rfl rfl ?_) | (apply gex; refine sex rfl rfl ?_) | (apply gst; refine sst rfl rfl (by exact rfl) (by exact rfl) (by exact rfl) (by exact rfl) ?_)) | (apply g_wpc; first | apply wpc_ret) | (apply g_wpe; first | apply wpe_then_ret | apply wpe_block_ret | apply wpe_back_ret))
    refine wpe_end (.inl rfl) (by exact .cell 0 rfl rfl rfl rfl (.tmp rfl .nil)) _ (List.Sublist.cons _ (List.Sublist.cons _ (List.Sublist.cons _ (List.Sublist.refl _)))) (Grow.refl _ _) ?_
    rw [hx']
    exact ⟨_, rfl, rfl⟩
  · rw [if_neg (by assumption), if_neg (by omega)] at hx
    by_cases h : half < 0
    · rw [if_pos h] at hx
      rw [show withHalf out half = out by rw [withHalf, if_pos h]]
      refine scq 1 rfl rfl (put0_fn s (i + 1) (hexI (bt s i)) n g gn gs out A c _ (by omega) (by omega) (by omega) (by omega) (by omega) (by omega)) rfl rfl (fun r Lq hX => ?_)
      obtain ⟨rfl, A1, c1, rfl⟩ := hX
      rw [show out ++ [hexI (bt s i) * 16] = withHalf out (hexI (bt s i)) by rw [withHalf, if_neg (by omega), Int.mul_comm]]
      refine wnL rfl ?_
      repeat' (first | apply wpc_seq | apply wpe_seq | apply wpl_nil | apply wpc_region | (apply g_any; first | (apply gld; refine sld rfl (by exact rfl) (by exact rfl) rfl ?_) | (apply gbn; first | refine sbn rfl rfl ?_ | refine squ rfl rfl (by omega) (by omega) (by omega) rfl ?_)) | (apply g_wpc; first | (apply g_cond; first | (refine cdD rfl (fun hb => ?_) (fun hb => ?_) <;> (try (exfalso; first | (with_reducible exact absurd (by assumption) hb) | (with_reducible exact absurd hb (by assumption)) | omega)))) | apply wpc_skip) | (apply g_wpe; first | apply wpe_block))
      refine scq 3 rfl rfl (more_fn s (i + 1) g _ _ hs (by omega) (by omega)) rfl rfl (fun r Lq hX => ?_)
      obtain ⟨rfl, rfl⟩ := hX
      refine wnL rfl ?_
      by_cases hn1 : i + 1 < (s.size : Int)
      · rw [if_pos hn1]
        repeat' (first | apply wpl_nil | (apply g_any; first | (apply gmv; refine smv rfl rfl ?_) | (apply gas; refine sas rfl rfl ?_) | (apply gex; refine sex rfl rfl ?_)))
        exact wpe_back (i + 1, bt s (i + 1), true, n + 1, out, hexI (bt s i), A1, c1) ⟨.inl ⟨hn1, rfl, rfl⟩, by dsimp only; omega, by dsimp only; omega, by dsimp only; omega, by dsimp only; omega, by dsimp only; omega, by dsimp only; omega, m, by dsimp only; omega, hx⟩ (by dsimp only; omega) ⟨rfl, rfl, rfl, rfl, rfl, rfl, trivial⟩ rfl (List.Sublist.refl _)
      · rw [if_neg hn1]
        repeat' (first | apply wpl_nil | (apply g_any; first | (apply gmv; refine smv rfl rfl ?_) | (apply gas; refine sas rfl rfl ?_) | (apply gex; refine sex rfl rfl ?_)))
        exact wpe_back (i + 1, 0, false, n + 1, out, hexI (bt s i), A1, c1) ⟨.inr ⟨by dsimp only; omega, rfl, rfl⟩, by dsimp only; omega, by dsimp only; omega, by dsimp only; omega, by dsimp only; omega, by dsimp only; omega, by dsimp only; omega, m, by dsimp only; omega, hx⟩ (by dsimp only; omega) ⟨rfl, rfl, rfl, rfl, rfl, rfl, trivial⟩ rfl (List.Sublist.refl _)
    · rw [if_neg h] at hx
      rw [show withHalf out half = out ++ [16 * half] by rw [withHalf, if_neg h]]
      refine scq 1 rfl rfl (put1_fn s (i + 1) (hexI (bt s i)) n half g gn gs out A c _ (by omega) (by omega) (by omega) (by omega) (by omega) (by omega) (by omega) (by omega)) rfl rfl (fun r Lq hX => ?_)
      obtain ⟨rfl, rfl⟩ := hX
      rw [show out ++ [16 * half + hexI (bt s i)] = withHalf (out ++ [16 * half + hexI (bt s i)]) (-1) by rw [withHalf, if_pos (by omega)]]
      refine wnL rfl ?_
      have hl1 : (out ++ [16 * half + hexI (bt s i)]).length = out.length + 1 := by simp
      repeat' (first | apply wpc_seq | apply wpe_seq | apply wpl_nil | apply wpc_region | (apply g_any; first | (apply gas; refine sas rfl rfl ?_) | (apply gld; refine sld rfl (by exact rfl) (by exact rfl) rfl ?_) | (apply gex; refine sex rfl rfl ?_) | (apply gst; refine sst rfl rfl (by exact rfl) (by exact rfl) (by exact rfl) (by exact rfl) ?_) | (apply gbn; first | refine sbn rfl rfl ?_ | refine squ rfl rfl (by omega) (by omega) (by omega) rfl ?_) | (apply gcl; first | refine scl rfl (bad_fn _ _) rfl ?_)) | (apply g_wpc; first | (apply g_cond; first | (refine cdD rfl (fun hb => ?_) (fun hb => ?_) <;> (try (exfalso; first | (with_reducible exact absurd (by assumption) hb) | (with_reducible exact absurd hb (by assumption)) | omega)))) | apply wpc_skip | apply wpc_ret) | (apply g_wpe; first | apply wpe_block | apply wpe_then_ret | apply wpe_block_ret | apply wpe_back_ret))
      · rw [if_pos (by omega)] at hx
        refine wpe_end (.inl rfl) (by exact .cell 0 rfl rfl rfl rfl (.tmp rfl .nil)) [] (List.nil_sublist _) (Grow.refl _ _) ?_
        rw [hx]; rfl
      · rw [if_neg (by omega)] at hx
        refine scq 3 rfl rfl (more_fn s (i + 1) g _ _ hs (by omega) (by omega)) rfl rfl (fun r Lq hX => ?_)
        obtain ⟨rfl, rfl⟩ := hX
        refine wnL rfl ?_
        by_cases hn1 : i + 1 < (s.size : Int)
        · rw [if_pos hn1]
          repeat' (first | apply wpl_nil | (apply g_any; first | (apply gmv; refine smv rfl rfl ?_) | (apply gas; refine sas rfl rfl ?_) | (apply gex; refine sex rfl rfl ?_)))
          exact wpe_back (i + 1, bt s (i + 1), true, n + 1, out ++ [16 * half + hexI (bt s i)], -1, A, c) ⟨.inl ⟨hn1, rfl, rfl⟩, by dsimp only; omega, by dsimp only; omega, by dsimp only; omega, by dsimp only; omega, by dsimp only; omega, by dsimp only; omega, m, by dsimp only; omega, hx⟩ (by dsimp only; omega) ⟨rfl, rfl, rfl, rfl, rfl, rfl, trivial⟩ rfl (List.Sublist.refl _)
        · rw [if_neg hn1]
          repeat' (first | apply wpl_nil | (apply g_any; first | (apply gmv; refine smv rfl rfl ?_) | (apply gas; refine sas rfl rfl ?_) | (apply gex; refine sex rfl rfl ?_)))
          exact wpe_back (i + 1, 0, false, n + 1, out ++ [16 * half + hexI (bt s i)], -1, A, c) ⟨.inr ⟨by dsimp only; omega, rfl, rfl⟩, by dsimp only; omega, by dsimp only; omega, by dsimp only; omega, by dsimp only; omega, by dsimp only; omega, by dsimp only; omega, m, by dsimp only; omega, hx⟩ (by dsimp only; omega) ⟨rfl, rfl, rfl, rfl, rfl, rfl, trivial⟩ rfl (List.Sublist.refl _)
  · rw [if_neg (by assumption), if_pos (by omega), if_neg (by assumption)] at hx
    refine wpe_end (.inl rfl) (by exact .cell 0 rfl rfl rfl rfl (.tmp rfl .nil)) [] (List.nil_sublist _) (Grow.refl _ _) ?_
    rw [hx]; rfl
  · rw [if_neg (by assumption), if_pos (by omega), if_pos (by omega)] at hx
    refine scq 3 rfl rfl (more_fn s (i + 1) g _ _ hs (by omega) (by omega)) rfl rfl (fun r Lq hX => ?_)
    obtain ⟨rfl, rfl⟩ := hX
    refine wnL rfl ?_
    by_cases hn1 : i + 1 < (s.size : Int)
    · rw [if_pos hn1]
      repeat' (first | apply wpl_nil | (apply g_any; first | (apply gmv; refine smv rfl rfl ?_) | (apply gas; refine sas rfl rfl ?_) | (apply gex; refine sex rfl rfl ?_)))
      exact wpe_back (i + 1, bt s (i + 1), true, n, out, half, A, c) ⟨.inl ⟨hn1, rfl, rfl⟩, by dsimp only; omega, by dsimp only; omega, by dsimp only; omega, by dsimp only; omega, by dsimp only; omega, by dsimp only; omega, m, by dsimp only; omega, hx⟩ (by dsimp only; omega) ⟨rfl, rfl, rfl, rfl, rfl, rfl, trivial⟩ rfl (List.Sublist.refl _)
    · rw [if_neg hn1]
      repeat' (first | apply wpl_nil | (apply g_any; first | (apply gmv; refine smv rfl rfl ?_) | (apply gas; refine sas rfl rfl ?_) | (apply gex; refine sex rfl rfl ?_)))
      exact wpe_back (i + 1, 0, false, n, out, half, A, c) ⟨.inr ⟨by dsimp only; omega, rfl, rfl⟩, by dsimp only; omega, by dsimp only; omega, by dsimp only; omega, by dsimp only; omega, by dsimp only; omega, by dsimp only; omega, m, by dsimp only; omega, hx⟩ (by dsimp only; omega) ⟨rfl, rfl, rfl, rfl, rfl, rfl, trivial⟩ rfl (List.Sublist.refl _)
end Go.Proofs.Ytgjhbambdnpcmaa
