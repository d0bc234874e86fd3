/- Proved on the way: Contracts: slices.CompactFunc of pairs whose keys differ; value.has; plain values. Plain values, plainly. Contracts: plain pairs. Contracts: value.Plain. -/
import Derived.Test.YtgjhbambdnpcmaaSoD
import Derived.Test.YtgjhbambdnpcmaaGoC
import Derived.Test.YtgjhbambdnpcmaaSoA
set_option linter.unusedVariables false
set_option linter.unusedSimpArgs false
namespace Go.Proofs.Ytgjhbambdnpcmaa
open Go Go.Eng Go.Srt
abbrev eqF : Value := .func (.func 49) #[] #[]
theorem compact_fn (A : Option Addr) (n c : Nat) (xss : List (List Value)) (H : GH) (hn : xss.length = n) (hbig : n ≤ 1099511627776) (hp : ∀ xs ∈ xss, PairC xs) (hnd : (xss.map keyC).Nodup) :
    CtL Try.prog 48 [.slice A n c, eqF] H [.row 40 7 A c xss] (fun r L' => r = .slice A n c ∧ L' = [.row 40 7 A c xss]) := by
  refine fn_intro Try.func48 rfl rfl (fun w => ?_)
  by_cases h2 : n < 2
  · repeat' (first | apply wpc_seq | apply wpe_seq | apply wpl_nil | apply wpc_region | (apply g_any; first | (apply gmv; refine smv rfl rfl ?_) | (apply gas; refine sas rfl rfl ?_) | (apply gbn; first | refine sbn rfl rfl ?_) | (apply gln; first | refine slm rfl rfl ?_)) | (apply g_wpc; first | (apply g_cond; first | (refine cdD rfl (fun hb => ?_) (fun hb => ?_) <;> (try (exfalso; first | (with_reducible exact absurd (by assumption) hb) | (with_reducible exact absurd hb (by assumption)) | omega)))) | apply wpc_ret) | (apply g_wpe; first | apply wpe_then_ret))
    exact wpe_end (.inl rfl) (by exact .tmp rfl .nil) _ (List.Sublist.refl _) (Grow.refl _ _) ⟨rfl, rfl⟩
  repeat' (first | apply wpc_seq | apply wpe_seq | apply wpl_nil | apply wpc_region | (apply g_any; first | (apply gmv; refine smv rfl rfl ?_) | (apply gas; refine sas rfl rfl ?_) | (apply gbn; first | refine sbn rfl rfl ?_) | (apply gln; first | refine slm rfl rfl ?_)) | (apply g_wpc; first | apply wpc_block | (apply g_cond; first | (refine cdD rfl (fun hb => ?_) (fun hb => ?_) <;> (try (exfalso; first | (with_reducible exact absurd (by assumption) hb) | (with_reducible exact absurd hb (by assumption)) | omega)))) | apply wpc_skip))
  refine wpc_loopS (ι := Nat) (fun j => 1 ≤ j ∧ j ≤ n) (fun j => n - j)
    (fun j => [(5, .int .i64 (j : Nat)), (0, .slice A n c), (1, eqF)]) (fun _ => H) (fun _ => [.row 40 7 A c xss]) 1 ⟨Nat.le_refl _, by omega⟩ ⟨rfl, rfl, rfl, trivial⟩ rfl (List.Sublist.refl _) ?_
  rintro j ⟨hj1, hj⟩
  by_cases hlt : j < n
  case neg =>
    repeat' (first | apply wpc_seq | apply wpe_seq | apply wpl_nil | apply wpc_region | (apply g_any; first | (apply gmv; refine smv rfl rfl ?_) | (apply gas; refine sas rfl rfl ?_) | (apply gbn; first | refine sbn rfl rfl ?_) | (apply gln; first | refine slm rfl rfl ?_)) | (apply g_wpc; first | (apply g_cond; first | (refine cdD rfl (fun hb => ?_) (fun hb => ?_) <;> (try (exfalso; first | (with_reducible exact absurd (by assumption) hb) | (with_reducible exact absurd hb (by assumption)) | omega)))) | apply wpc_exit | apply wpc_ret) | (apply g_wpe; first | apply wpe_then_exit | apply wpe_block_eq | apply wpe_back_exit))
    exact wpe_end (.inl rfl) (by exact .tmp rfl .nil) _ (List.Sublist.refl _) (Grow.refl _ _) ⟨rfl, rfl⟩
  refine wpc_rowsome [] [] rfl (fun h => by rw [h] at hn; simp at hn; omega) (fun g hg => ?_)
  subst hg
  have hlj : j < xss.length := by omega
  have hlj' : j - 1 < xss.length := by omega
  obtain ⟨kx, a1, a2, a3, a4, a5, a6, a7, a8, a9, a10, ex⟩ := hp xss[j] (List.getElem_mem hlj)
  obtain ⟨ky, b1, b2, b3, b4, b5, b6, b7, b8, b9, b10, ey⟩ := hp xss[j - 1] (List.getElem_mem hlj')
  have gx := (List.getElem?_eq_getElem hlj).trans (congrArg some ex)
  have gy := (List.getElem?_eq_getElem hlj').trans (congrArg some ey)
  have hne : ¬ kx = ky := by
    intro h
    have h1 := List.pairwise_iff_getElem.1 hnd (j - 1) j (by simp; omega) (by simp; omega) (by omega)
    rw [List.getElem_map, List.getElem_map, ex, ey] at h1
    exact h1 h.symm
  repeat' (first | apply wpc_seq | apply wpe_seq | apply wpl_nil | apply wpc_region | (apply g_any; first | (apply gmv; refine smv rfl rfl ?_) | (apply gas; refine sas rfl rfl ?_) | (apply gbn; first | (apply gad; refine sad rfl rfl (by omega) (by omega) rfl ?_) | refine sbn rfl rfl ?_) | (apply gln; first | refine slm rfl rfl ?_)) | (apply g_wpc; first | apply wpc_block | (apply g_cond; first | (refine cdD rfl (fun hb => ?_) (fun hb => ?_) <;> (try (exfalso; first | (with_reducible exact absurd (by assumption) hb) | (with_reducible exact absurd hb (by assumption)) | omega)))) | apply wpc_skip | (apply g_draw; refine wpc_quiet mixed (by kernel_rfl) ?_)) | (apply g_wpe; first | apply wpe_block) | apply wpq_nil | (apply gq_any; first | refine qlf j rfl gx 0 rfl rfl (by omega) rfl ?_ | refine qlf (j - 1) rfl gy 0 rfl rfl (by omega) rfl ?_ | (apply kmv; refine qmv rfl rfl ?_) | (apply kbn; first | (apply ksb; refine qsb rfl rfl (by omega) (by omega) rfl ?_)) | (apply kcl; first | refine qcl rfl (eqP_fn _ _ _ _ _ _ _ _ _ _ _ _ _ _ _) rfl ?_) | (apply kia; refine qia rfl rfl (by omega) (by omega) rfl ?_)))
  exact wpe_back (j + 1) ⟨by omega, by omega⟩ (by omega) ⟨lki (by omega), rfl, rfl, trivial⟩ rfl (List.Sublist.refl _)
/-- Which fields a kind has. -/
def hasI (k : Int) : Bool × Bool × Bool × Bool × Bool × Bool :=
  if k = 0 then (false, false, false, false, false, true) else if k = 1 ∨ k = 2 then (true, false, false, false, false, true) else if k = 3 ∨ k = 4 then (false, false, true, false, false, true) else if k = 5 then (false, false, false, true, false, true) else if k = 6 then (false, false, false, false, true, true) else if k = 7 then (true, true, false, false, false, true) else if k = 8 then (false, false, true, false, true, true) else (false, false, false, false, false, false)
theorem has_fn (k : Int) (H : GH) : CtV Try.prog 24 [.int .i64 k] H (.tuple #[.agg #[.bool (hasI k).1, .bool (hasI k).2.1, .bool (hasI k).2.2.1, .bool (hasI k).2.2.2.1, .bool (hasI k).2.2.2.2.1], .bool (hasI k).2.2.2.2.2]) := by
  refine fn_intro Try.func24 rfl rfl (fun w => ?_)
  unfold hasI
  repeat' (first | apply wpc_seq | apply wpe_seq | apply wpl_nil | apply wpc_region | (apply g_any; first | (apply gmv; refine smv rfl rfl ?_) | (apply gas; refine sas rfl rfl ?_) | (apply gst; refine sst rfl rfl (by exact rfl) (by exact rfl) (by exact rfl) (by exact rfl) ?_) | (apply gbn; first | refine sbn rfl rfl ?_) | (apply gal; refine sal rfl (fun _ => ?_)) | (apply gbd; refine sbd rfl rfl rfl ?_)) | (apply g_wpc; first | apply wpc_block | (apply g_cond; first | refine cdT rfl ?_ | (refine cdD rfl (fun hb => ?_) (fun hb => ?_) <;> (try (exfalso; first | (with_reducible exact absurd (by assumption) hb) | (with_reducible exact absurd hb (by assumption)) | omega)))) | apply wpc_skip | apply wpc_ret) | (apply g_wpe; first | apply wpe_block | apply wpe_then_ret | apply wpe_block_ret))
  all_goals (refine end2 (by exact .cell 0 rfl rfl rfl rfl (.tmp rfl .nil)) ?_)
  · rw [if_pos (by omega)]
  · rw [if_neg (by omega), if_pos (by omega)]
  · rw [if_neg (by omega), if_pos (by omega)]
  · rw [if_neg (by omega), if_neg (by omega), if_pos (by omega)]
  · rw [if_neg (by omega), if_neg (by omega), if_pos (by omega)]
  · rw [if_neg (by omega), if_neg (by omega), if_neg (by omega), if_pos (by omega)]
  · rw [if_neg (by omega), if_neg (by omega), if_neg (by omega), if_neg (by omega), if_pos (by omega)]
  · rw [if_neg (by omega), if_neg (by omega), if_neg (by omega), if_neg (by omega), if_neg (by omega), if_pos (by omega)]
  · rw [if_neg (by omega), if_neg (by omega), if_neg (by omega), if_neg (by omega), if_neg (by omega), if_neg (by omega), if_pos (by omega)]
  · rw [if_neg (by omega), if_neg (by omega), if_neg (by omega), if_neg (by omega), if_neg (by omega), if_neg (by omega), if_neg (by omega)]
end Go.Proofs.Ytgjhbambdnpcmaa
set_option linter.unusedVariables false
set_option linter.unusedSimpArgs false
namespace Go.Eng
open Go Go.Srt
abbrev PT := ByteArray × Tr
def Tr.kind : Tr → Int | .mk k _ _ _ _ _ => k
def putL : List PT → PT → List PT
  | [], p => [p]
  | q :: r, p => if q.1 = p.1 then q :: r else if ltB p.1 q.1 = true then p :: q :: r else q :: putL r p
/-- Pairs by rising keys, of each key the first. -/
def scL (d : List PT) : List PT := d.foldl putL []
/-- Without those that are null. -/
def nnL (d : List PT) : List PT := d.filter fun p => decide (p.2.kind ≠ 0)
mutual
def plT : Tr → Tr
  | .mk k n g s l d => if k = 1 ∨ k = 2 then .mk k n 0 ⟨#[]⟩ [] [] else if k = 3 ∨ k = 4 then .mk k 0 0 s [] [] else if k = 5 then .mk 5 0 0 ⟨#[]⟩ (plL l) [] else if k = 6 then .mk 6 0 0 ⟨#[]⟩ [] (nnL (scL (plD d))) else if k = 7 then .mk 7 n g ⟨#[]⟩ [] [] else if k = 8 then .mk 8 0 0 s [] (nnL (scL (plD d))) else .mk 0 0 0 ⟨#[]⟩ [] []
def plL : List Tr → List Tr
  | [] => []
  | t :: r => plT t :: plL r
def plD : List PT → List PT
  | [] => []
  | (k, t) :: r => (k, plT t) :: plD r
end
mutual
/-- In no dictionary a key stands twice. -/
def Tr.uniq : Tr → Prop
  | .mk _ _ _ _ l d => Tr.uniqL l ∧ (d.map (·.1)).Nodup ∧ Tr.uniqD d
def Tr.uniqL : List Tr → Prop
  | [] => True
  | t :: r => t.uniq ∧ Tr.uniqL r
def Tr.uniqD : List PT → Prop
  | [] => True
  | (_, t) :: r => t.uniq ∧ Tr.uniqD r
end
theorem plL_eq : ∀ l, plL l = l.map plT
  | [] => rfl
  | t :: r => by rw [plL, plL_eq r]; rfl
theorem plD_eq : ∀ d, plD d = d.map fun p => (p.1, plT p.2)
  | [] => rfl
  | (k, t) :: r => by rw [plD, plD_eq r]; rfl
theorem uniqL_mem : ∀ {l : List Tr}, Tr.uniqL l → ∀ t ∈ l, t.uniq
  | [], _, t, h => by cases h
  | u :: r, hu, t, h => by
    rw [Tr.uniqL] at hu
    rcases List.mem_cons.1 h with rfl | h
    · exact hu.1
    · exact uniqL_mem hu.2 t h
theorem uniqD_mem : ∀ {d : List PT}, Tr.uniqD d → ∀ p ∈ d, p.2.uniq
  | [], _, t, h => by cases h
  | (k, u) :: r, hu, t, h => by
    rw [Tr.uniqD] at hu
    rcases List.mem_cons.1 h with rfl | h
    · exact hu.1
    · exact uniqD_mem hu.2 t h
theorem putL_map (f : Tr → Tr) : ∀ (l : List PT) (p : PT), putL (l.map fun q => (q.1, f q.2)) (p.1, f p.2) = (putL l p).map fun q => (q.1, f q.2)
  | [], p => rfl
  | q :: r, p => by
    simp only [List.map_cons, putL]
    by_cases h1 : q.1 = p.1
    · rw [if_pos h1, if_pos h1]; rfl
    · rw [if_neg h1, if_neg h1]
      by_cases h2 : ltB p.1 q.1 = true
      · rw [if_pos h2, if_pos h2]; rfl
      · rw [if_neg h2, if_neg h2, putL_map f r p]; rfl
theorem foldl_map (f : Tr → Tr) : ∀ (d l : List PT), (d.map fun q => (q.1, f q.2)).foldl putL (l.map fun q => (q.1, f q.2)) = (d.foldl putL l).map fun q => (q.1, f q.2)
  | [], l => rfl
  | p :: r, l => by simp only [List.map_cons, List.foldl_cons]; rw [putL_map f l p, foldl_map f r]
theorem scL_plD (d : List PT) : scL (plD d) = plD (scL d) := by
  rw [plD_eq, plD_eq]
  exact foldl_map plT d []
/-- What a row of pairs, put in, is. -/
def Rising (l : List PT) : Prop := l.Pairwise fun x y => ltB x.1 y.1 = true
theorem Rising.asc {l : List PT} (h : Rising l) : Asc ltB (fun p : PT => p.1) l := h.imp fun h => ordB.asymm h
theorem Rising.nodup {l : List PT} (h : Rising l) : (l.map (·.1)).Nodup := by
  rw [List.Nodup, List.pairwise_map]
  exact h.imp fun {x y} h e => by rw [e, ordB.irrefl] at h; cases h
theorem putL_mem : ∀ (l : List PT) (p x : PT), x ∈ putL l p → x = p ∨ x ∈ l
  | [], p, x, h => by simp [putL] at h; exact .inl h
  | q :: r, p, x, h => by
    simp only [putL] at h
    split at h
    · exact .inr h
    · split at h
      · simpa using h
      · rcases List.mem_cons.1 h with rfl | h
        · exact .inr (by simp)
        · rcases putL_mem r p x h with h | h
          · exact .inl h
          · exact .inr (by simp [h])
theorem putL_old : ∀ (l : List PT) (p x : PT), x ∈ l → x ∈ putL l p
  | q :: r, p, x, h => by
    simp only [putL]
    split
    · exact h
    · split
      · simp only [List.mem_cons] at h ⊢; exact .inr h
      · rcases List.mem_cons.1 h with rfl | h
        · simp
        · simp [putL_old r p x h]
theorem putL_new : ∀ (l : List PT) (p : PT), p.1 ∉ l.map (·.1) → p ∈ putL l p
  | [], p, _ => by simp [putL]
  | q :: r, p, h => by
    simp only [List.map_cons, List.mem_cons, not_or] at h
    simp only [putL]
    rw [if_neg (fun e => h.1 e.symm)]
    split
    · simp
    · simp [putL_new r p h.2]
theorem putL_rising : ∀ (l : List PT) (p : PT), Rising l → Rising (putL l p)
  | [], p, _ => List.pairwise_singleton _ _
  | q :: r, p, h => by
    have h' := List.pairwise_cons.1 h
    simp only [putL]
    split
    · exact h
    · rename_i hne
      split
      · rename_i hlt
        exact List.pairwise_cons.2 ⟨fun y hy => by
          rcases List.mem_cons.1 hy with rfl | hy
          · exact hlt
          · exact ordB.trans _ _ _ hlt (h'.1 y hy), h⟩
      · rename_i hnlt
        refine List.pairwise_cons.2 ⟨fun y hy => ?_, putL_rising r p h'.2⟩
        rcases putL_mem r p y hy with rfl | hy
        · cases hc : ltB q.1 y.1 with
          | true => rfl
          | false => exact absurd (ordB.tri _ _ hc (by cases h3 : ltB y.1 q.1 with | false => rfl | true => exact absurd h3 hnlt)) hne
        · exact h'.1 y hy
theorem fold_rising : ∀ (d l : List PT), Rising l → Rising (d.foldl putL l)
  | [], l, h => h
  | p :: r, l, h => fold_rising r _ (putL_rising l p h)
theorem fold_mem : ∀ (d l : List PT), (∀ p ∈ d, p.1 ∉ l.map (·.1)) → (d.map (·.1)).Nodup → ∀ x, x ∈ d.foldl putL l ↔ x ∈ d ∨ x ∈ l
  | [], l, _, _, x => by simp
  | p :: r, l, h, hn, x => by
    simp only [List.map_cons, List.nodup_cons] at hn
    have hp := h p (by simp)
    rw [List.foldl_cons, fold_mem r (putL l p) (fun q hq hc => by
      obtain ⟨y, hy, hyq⟩ := List.mem_map.1 hc
      rcases putL_mem l p y hy with rfl | hy
      · exact hn.1 (List.mem_map.2 ⟨q, hq, hyq.symm⟩)
      · exact h q (by simp [hq]) (List.mem_map.2 ⟨y, hy, hyq⟩)) hn.2 x]
    constructor
    · rintro (h1 | h1)
      · exact .inl (by simp [h1])
      · rcases putL_mem l p x h1 with rfl | h1
        · exact .inl (by simp)
        · exact .inr h1
    · rintro (h1 | h1)
      · rcases List.mem_cons.1 h1 with rfl | h1
        · exact .inr (putL_new l x hp)
        · exact .inl h1
      · exact .inr (putL_old l p x h1)
theorem scL_rising (d : List PT) : Rising (scL d) := fold_rising d [] List.Pairwise.nil
theorem scL_mem {d : List PT} (h : (d.map (·.1)).Nodup) (x : PT) : x ∈ scL d ↔ x ∈ d := by
  rw [scL, fold_mem d [] (by simp) h x]; simp
/-- One of each key. -/
theorem filter_one : ∀ {l : List PT}, (l.map (·.1)).Nodup → ∀ k, (∃ x ∈ l, x.1 = k ∧ l.filter (fun x => decide (x.1 = k)) = [x]) ∨ ((∀ x ∈ l, x.1 ≠ k) ∧ l.filter (fun x => decide (x.1 = k)) = [])
  | [], _, k => .inr ⟨by simp, rfl⟩
  | y :: r, h, k => by
    simp only [List.map_cons, List.nodup_cons] at h
    by_cases hy : y.1 = k
    · refine .inl ⟨y, by simp, hy, ?_⟩
      rw [List.filter_cons, if_pos (by simp [hy])]
      congr 1
      rw [List.filter_eq_nil_iff]
      intro x hx
      simp only [decide_eq_true_eq]
      intro e
      exact h.1 (List.mem_map.2 ⟨x, hx, e.trans hy.symm⟩)
    · rcases filter_one h.2 k with ⟨x, hx, e, hf⟩ | ⟨hn, hf⟩
      · exact .inl ⟨x, by simp [hx], e, by rw [List.filter_cons, if_neg (by simp [hy]), hf]⟩
      · exact .inr ⟨fun x hx => by
          rcases List.mem_cons.1 hx with rfl | hx
          · exact hy
          · exact hn x hx, by rw [List.filter_cons, if_neg (by simp [hy]), hf]⟩
/-- There is but one such row. -/
theorem rising_eq {l m : List PT} (hl : Asc ltB (fun p : PT => p.1) l) (hln : (l.map (·.1)).Nodup) (hm : Rising m) (h : ∀ x, x ∈ l ↔ x ∈ m) : l = m := by
  refine unique ordB hl hm.asc fun k => ?_
  rcases filter_one hln k with ⟨x, hx, e, hf⟩ | ⟨hn, hf⟩ <;> rcases filter_one hm.nodup k with ⟨y, hy, e', hf'⟩ | ⟨hn', hf'⟩
  · rw [hf, hf']
    have h1 := (h x).1 hx
    have : x ∈ m.filter (fun x => decide (x.1 = k)) := List.mem_filter.2 ⟨h1, by simp [e]⟩
    rw [hf'] at this
    rw [List.mem_singleton.1 this]
  · exact absurd e (hn' x ((h x).1 hx))
  · exact absurd e' (hn y ((h y).2 hy))
  · rw [hf, hf']
end Go.Eng
set_option linter.unusedVariables false
set_option linter.unusedSimpArgs false
namespace Go.Proofs.Ytgjhbambdnpcmaa
open Go Go.Eng Go.Srt
theorem nodup_of {α : Type} {key : α → ByteArray} : ∀ {l : List α}, (∀ k, (l.filter fun x => decide (key x = k)).length ≤ 1) → (l.map key).Nodup
  | [], _ => by simp
  | x :: r, h => by
    rw [List.map_cons, List.nodup_cons]
    refine ⟨fun hm => ?_, nodup_of fun k => ?_⟩
    · obtain ⟨y, hy, e⟩ := List.mem_map.1 hm
      have h1 := h (key x)
      rw [List.filter_cons, if_pos (by simp)] at h1
      have h2 : y ∈ r.filter fun z => decide (key z = key x) := List.mem_filter.2 ⟨hy, by simp [e]⟩
      have := List.length_pos_of_mem h2
      simp only [List.length_cons] at h1
      omega
    · have h1 := h k
      rw [List.filter_cons] at h1
      split at h1
      · simp only [List.length_cons] at h1; omega
      · exact h1
theorem nodup_filter {α : Type} {key : α → ByteArray} : ∀ {l : List α}, (l.map key).Nodup → ∀ k, (l.filter fun x => decide (key x = k)).length ≤ 1
  | [], _, k => by simp
  | x :: r, h, k => by
    rw [List.map_cons, List.nodup_cons] at h
    rw [List.filter_cons]
    split
    · rename_i hk
      simp only [decide_eq_true_eq] at hk
      have : (r.filter fun x => decide (key x = k)) = [] := by
        rw [List.filter_eq_nil_iff]
        intro y hy
        simp only [decide_eq_true_eq]
        intro e
        exact h.1 (List.mem_map.2 ⟨y, hy, e.trans hk.symm⟩)
      rw [this]; simp
    · exact nodup_filter h.2 k
theorem repD_pairC {H : GH} : ∀ {d : List PT} {yss : List (List Value)}, Tr.repD H d yss → ∀ ys ∈ yss, PairC ys
  | [], [], _, ys, h => by cases h
  | (k, t) :: r, y :: z, hr, ys, h => by
    rw [Tr.repD] at hr
    rcases List.mem_cons.1 h with rfl | h
    · obtain ⟨x', rfl, h1⟩ := hr.1
      obtain ⟨k1, n1, g1, s1, A1, m1, c1, B1, m2, c2, rfl⟩ := Tr.cells h1
      exact ⟨_, _, _, _, _, _, _, _, _, _, _, rfl⟩
    · exact repD_pairC hr.2 ys h
  | [], _ :: _, h, _, _ => by simp [Tr.repD] at h
  | _ :: _, [], h, _, _ => by simp [Tr.repD] at h
theorem repD_keys {H : GH} : ∀ {d : List PT} {yss : List (List Value)}, Tr.repD H d yss → yss.map keyC = d.map (·.1)
  | [], [], _ => rfl
  | (k, t) :: r, y :: z, hr => by
    rw [Tr.repD] at hr
    obtain ⟨x', rfl, h1⟩ := hr.1
    simp only [List.map_cons, repD_keys hr.2]; rfl
  | [], _ :: _, h => by simp [Tr.repD] at h
  | _ :: _, [], h => by simp [Tr.repD] at h
theorem repD_map {H : GH} (f : List Value → PT) : ∀ {Z : List (List Value)}, (∀ y ∈ Z, ∃ x', y = .string (f y).1 :: x' ∧ (f y).2.rep H x') → Tr.repD H (Z.map f) Z
  | [], _ => by simp [Tr.repD]
  | y :: r, h => by
    simp only [List.map_cons]
    rw [Tr.repD]
    exact ⟨h y (by simp), repD_map f fun z hz => h z (by simp [hz])⟩
theorem find_of {d : List PT} (h : (d.map (·.1)).Nodup) {p : PT} (hp : p ∈ d) : d.find? (fun q => decide (q.1 = p.1)) = some p := by
  induction d with
  | nil => cases hp
  | cons q r ih =>
    rw [List.map_cons, List.nodup_cons] at h
    rw [List.find?_cons]
    rcases List.mem_cons.1 hp with rfl | hp
    · simp
    · have : ¬ q.1 = p.1 := fun e => h.1 (List.mem_map.2 ⟨p, hp, e.symm⟩)
      simp only [this, decide_false]
      exact ih h.2 hp
/-- A row of pairs that was sorted. -/
theorem sorted_rep {H : GH} {d : List PT} {yss Y : List (List Value)} (hr : Tr.repD H d yss) (hn : (d.map (·.1)).Nodup) (hY : Asc ltB keyC Y) (hal : Alike keyC yss Y) : Tr.repD H (scL d) Y ∧ (Y.map keyC).Nodup := by
  have hk := repD_keys hr
  have hYn : (Y.map keyC).Nodup := nodup_of fun k => by rw [← hal k]; exact nodup_filter (by rw [hk]; exact hn) k
  have hlen := Tr.repD_len hr
  -- each in its place
  have key : ∀ y ∈ Y, ∃ t x', (keyC y, t) ∈ d ∧ y = .string (keyC y) :: x' ∧ t.rep H x' := fun y hy => by
    obtain ⟨i, hi, rfl⟩ := List.mem_iff_getElem.1 (hal.symm.mem hy)
    obtain ⟨cs, h1, h2⟩ := Tr.repD_get (i := i) (key := (d[i]'(by omega)).1) (t := (d[i]'(by omega)).2) hr (List.getElem?_eq_getElem _)
    rw [List.getElem?_eq_getElem hi] at h1
    have h3 := Option.some.inj h1
    rw [h3]
    exact ⟨_, cs, List.getElem_mem _, rfl, h2⟩
  have conv : ∀ p ∈ d, ∃ y ∈ Y, keyC y = p.1 := fun p hp => by
    obtain ⟨i, hi, rfl⟩ := List.mem_iff_getElem.1 hp
    obtain ⟨cs, h1, h2⟩ := Tr.repD_get (i := i) (key := d[i].1) (t := d[i].2) hr (List.getElem?_eq_getElem _)
    exact ⟨_, hal.mem (List.mem_of_getElem? h1), rfl⟩
  let f : List Value → PT := fun y => (keyC y, ((d.find? (fun q => decide (q.1 = keyC y))).getD default).2)
  have hf : ∀ y ∈ Y, f y ∈ d ∧ ∃ x', y = .string (f y).1 :: x' ∧ (f y).2.rep H x' := fun y hy => by
    obtain ⟨t, x', h1, h2, h3⟩ := key y hy
    have e : f y = (keyC y, t) := by
      show (keyC y, _) = _
      have := find_of hn h1
      dsimp only at this
      rw [this]; rfl
    rw [e]
    exact ⟨h1, x', h2, h3⟩
  have e : Y.map f = scL d := by
    refine rising_eq ?_ (by rw [List.map_map]; exact hYn) (scL_rising d) fun x => ?_
    · rw [Asc, List.pairwise_map]; exact hY
    · rw [scL_mem hn x, List.mem_map]
      constructor
      · rintro ⟨y, hy, rfl⟩; exact (hf y hy).1
      · intro hx
        obtain ⟨y, hy, e⟩ := conv x hx
        refine ⟨y, hy, ?_⟩
        show (keyC y, _) = x
        rw [e, find_of hn hx]; rfl
  rw [← e]
  exact ⟨repD_map f fun y hy => (hf y hy).2, hYn⟩
/-- Plain, by the program. -/
def VP (t : Tr) : Prop := ∀ (cs : List Value) (H : GH), t.rep H cs → Ct Try.prog 12 [.agg cs.toArray] H [] (fun r H' L' => ∃ cs', r = .agg cs'.toArray ∧ (plT t).rep H' cs')
theorem take_snoc {α : Type} {l : List α} {j : Nat} (h : j < l.length) : l.take (j + 1) = l.take j ++ [l[j]] := List.take_succ_eq_append_getElem h
theorem rep_kind {H : GH} {t : Tr} {k : Int} {r : List Value} (h : t.rep H (.int .i64 k :: r)) : t.kind = k := by
  cases t with
  | mk k' n g s l d =>
    rw [Tr.rep] at h
    obtain ⟨A, c, B, e, h0, _⟩ := h
    simp only [List.cons.injEq, Value.int.injEq] at h0
    exact h0.1.2.symm
theorem nn_snoc (l : List PT) (p : PT) : nnL (plD (l ++ [p])) = nnL (plD l) ++ if (plT p.2).kind = 0 then [] else [(p.1, plT p.2)] := by
  rw [plD_eq, plD_eq, List.map_append, nnL, List.filter_append]
  congr 1
  by_cases h : (plT p.2).kind = 0 <;> simp [h]
theorem plairs_fn (d : List PT) (A : Option Addr) (c : Nat) (yss : List (List Value)) (H : GH) (hbig : d.length ≤ 1073741824) (hv : ∀ p ∈ d, VP p.2) (hn : (d.map (·.1)).Nodup) (hr : Tr.repD H d yss) (hA : sliceAt H A yss) :
    Ct Try.prog 25 [.slice A d.length c] H [] (fun r H' L' => ∃ A' c' zss, r = .slice A' zss.length c' ∧ Tr.repD H' (nnL (scL (plD d))) zss ∧ sliceAt H' A' zss) := by
  refine fn_intro Try.func25 rfl rfl (fun W0 => ?_)
  have hyl := (Tr.repD_len hr).1
  repeat' (first | apply wpc_seq | apply wpe_seq | apply wpl_nil | apply wpc_region | (apply g_any; first | (apply gmv; refine smv rfl rfl ?_) | (apply gas; refine sas rfl rfl ?_)))
  refine scq 0 rfl rfl (clone_fn A d.length c yss H hyl (by omega) (repD_pairC hr) hA) rfl rfl (fun r Lq hX => ?_)
  obtain ⟨A1, c1, rfl, rfl⟩ := hX
  refine wnL rfl ?_
  repeat' (first | apply wpc_seq | apply wpe_seq | apply wpl_nil | apply wpc_region | (apply g_any; first | (apply gmv; refine smv rfl rfl ?_) | (apply gas; refine sas rfl rfl ?_)))
  refine scq 0 rfl rfl (sortS_fn A1 d.length c1 yss H hyl (by omega) (repD_pairC hr)) rfl rfl (fun r Lq hX => ?_)
  obtain ⟨rfl, Y, rfl, hY1, hY2, hY3⟩ := hX
  obtain ⟨hsr, hYn⟩ := sorted_rep hr hn hY1 hY2
  have hpY : ∀ ys ∈ Y, PairC ys := fun ys h => repD_pairC hr ys (hY2.symm.mem h)
  refine wnL rfl ?_
  repeat' (first | apply wpc_seq | apply wpe_seq | apply wpl_nil | apply wpc_region | (apply g_any; first | (apply gmv; refine smv rfl rfl ?_)))
  refine scq 0 rfl rfl (compact_fn A1 d.length c1 Y H hY3 (by omega) hpY hYn) rfl rfl (fun r Lq hX => ?_)
  obtain ⟨rfl, rfl⟩ := hX
  refine wnL rfl ?_
  repeat' (first | apply wpc_seq | apply wpe_seq | apply wpl_nil | apply wpc_region | (apply g_any; first | (apply gmv; refine smv rfl rfl ?_) | (apply gas; refine sas rfl rfl ?_) | (apply gln; first | refine slm rfl rfl ?_)) | (apply g_wpc; first | apply wpc_block))
  refine wrC 40 7 ?_
  refine wrc [1] rfl ?_
  have hsl := (Tr.repD_len hsr).1
  refine wpc_loopS (ι := Nat × List (List Value) × Option Addr × Nat × GH) (fun x => x.1 ≤ d.length ∧ Grow W0 H x.2.2.2.2 ∧ Tr.repD x.2.2.2.2 (nnL (plD ((scL d).take x.1))) x.2.1 ∧ x.2.1.length ≤ x.1) (fun x => d.length - x.1)
    (fun x => [(4, .slice x.2.2.1 x.2.1.length x.2.2.2.1), (14, .slice A1 d.length c1), (15, .int .i64 (d.length : Nat)), (16, .int .i64 (x.1 : Nat))]) (fun x => x.2.2.2.2) (fun x => [.row 40 7 A1 c1 Y, .row 40 7 x.2.2.1 x.2.2.2.1 x.2.1]) (0, [], none, 0, H) ⟨Nat.zero_le _, Grow.refl _ _, by simp [plD, nnL, Tr.repD], by simp⟩ ⟨rfl, rfl, rfl, rfl, trivial⟩ rfl (List.Sublist.refl _) ?_
  rintro ⟨j, xss, A2, c2, H1⟩ ⟨hj, hg1, hrep, hxl⟩
  dsimp only at hj hg1 hrep hxl ⊢
  by_cases hlt : j < d.length
  case neg =>
    obtain rfl : j = d.length := by omega
    rw [List.take_of_length_le (by omega), ← scL_plD] at hrep
    repeat' (first | apply wpc_seq | apply wpe_seq | apply wpl_nil | apply wpc_region | (apply g_any; first | (apply gmv; refine smv rfl rfl ?_) | (apply gas; refine sas rfl rfl ?_) | (apply gbn; first | refine sbn rfl rfl ?_)) | (apply g_wpc; first | (apply g_cond; first | (refine cdD rfl (fun hb => ?_) (fun hb => ?_) <;> (try (exfalso; first | (with_reducible exact absurd (by assumption) hb) | (with_reducible exact absurd hb (by assumption)) | omega)))) | apply wpc_exit | apply wpc_ret) | (apply g_wpe; first | apply wpe_then_exit | apply wpe_block_eq | apply wpe_back_exit))
    refine wpe_freeze [.row 40 7 A1 c1 Y] [] rfl ?_ (fun H2 hg2 hc => ?_)
    · intro b hb; cases hb
    exact wpe_end (.inl rfl) (by exact .tmp rfl .nil) [] (List.nil_sublist _) (hg1.tr hg2) ⟨A2, c2, xss, rfl, Tr.repD_mono hg2.le hrep, hc⟩
  have hlS : j < (scL d).length := by omega
  obtain ⟨cs, hcs, hrj⟩ := Tr.repD_get (key := (scL d)[j].1) (t := (scL d)[j].2) hsr (List.getElem?_eq_getElem hlS)
  obtain ⟨k0, n0, g0, s0, B0, m0, c0', D0, m0', c0'', rfl⟩ := Tr.cells hrj
  refine wpc_rowsome [] [_] rfl (fun h => by rw [h] at hY3; simp at hY3; omega) (fun ga hga => ?_)
  subst hga
  repeat' (first | apply wpc_seq | apply wpe_seq | apply wpl_nil | apply wpc_region | (apply g_any; first | refine slf j rfl hcs 0 rfl rfl (by omega) rfl ?_ | (apply gld; refine sld rfl (by exact rfl) (by exact rfl) rfl ?_) | (apply gfa; refine sfa rfl rfl ?_) | (apply gst; refine sst rfl rfl (by exact rfl) (by exact rfl) (by exact rfl) (by exact rfl) ?_) | (apply gbn; first | refine sbn rfl rfl ?_) | (apply gal; refine sal rfl (fun _ => ?_)) | (apply gia; refine sia rfl rfl (by omega) (by omega) rfl ?_)) | (apply g_wpc; first | apply wpc_block | (apply g_cond; first | (refine cdD rfl (fun hb => ?_) (fun hb => ?_) <;> (try (exfalso; first | (with_reducible exact absurd (by assumption) hb) | (with_reducible exact absurd hb (by assumption)) | omega)))) | apply wpc_skip))
  rename_i g6
  have hmem : (scL d)[j] ∈ d := (scL_mem hn _).1 (List.getElem_mem hlS)
  refine scs 3 rfl rfl (hv _ hmem _ H1 (Tr.rep_mono hg1.le hrj)) rfl rfl (fun r H2 Lq hg2 hX => ?_)
  obtain ⟨cs', rfl, hrep2⟩ := hX
  obtain ⟨k1, n1, g1, s1, B1, m1, c1', D1, m1', c1'', rfl⟩ := Tr.cells hrep2
  have hkd := rep_kind hrep2
  have hnx : nnL (plD ((scL d).take (j + 1))) = nnL (plD ((scL d).take j)) ++ if (plT (scL d)[j].2).kind = 0 then [] else [((scL d)[j].1, plT (scL d)[j].2)] := by
    rw [take_snoc hlS, nn_snoc]
  refine wpl_drop _ (by rw [List.append_nil]; exact List.sublist_append_left _ _) ?_
  repeat' (first | apply wpc_seq | apply wpe_seq | apply wpl_nil | apply wpc_region | (apply g_any; first | (refine sb1 rfl rfl rfl rfl rfl rfl rfl (fun _ => ?_)) | (refine sap rfl rfl rfl rfl rfl rfl rfl rfl (by omega) rfl (fun _ _ => ?_); refine wnL rfl ?_) | (apply gmv; refine smv rfl rfl ?_) | (apply gas; refine sas rfl rfl ?_) | (apply gld; refine sld rfl (by exact rfl) (by exact rfl) rfl ?_) | (apply gfa; refine sfa rfl rfl ?_) | (apply gst; refine sst rfl rfl (by exact rfl) (by exact rfl) (by exact rfl) (by exact rfl) ?_) | (apply gbn; first | (apply gad; refine sad rfl rfl (by omega) (by omega) rfl ?_) | refine sbn rfl rfl ?_) | (apply gal; refine sal rfl (fun _ => ?_)) | (apply gbd; refine sbd rfl rfl rfl ?_)) | (apply g_wpc; first | (apply g_cond; first | (refine cdD rfl (fun hb => ?_) (fun hb => ?_) <;> (try (exfalso; first | (with_reducible exact absurd (by assumption) hb) | (with_reducible exact absurd hb (by assumption)) | omega)))) | apply wpc_skip) | (apply g_wpe; first | apply wpe_block))
  · rename_i A3 c3
    rw [if_neg (by rw [hkd]; omega)] at hnx
    exact wpe_back (j + 1, xss ++ [_], A3, c3, H2) ⟨by dsimp only; omega, hg1.tr hg2, by dsimp only; rw [hnx]; exact Tr.repD_snoc (Tr.repD_mono hg2.le hrep) hrep2, by simp only [List.length_append, List.length_singleton]; omega⟩ (by dsimp only; omega) ⟨by simp only [List.length_append, List.length_singleton]; rfl, rfl, rfl, lki (by dsimp only; omega), trivial⟩ rfl (by repeat' (first | exact List.Sublist.slnil | apply List.Sublist.cons_cons | apply List.Sublist.cons))
  · rw [if_pos (by rw [hkd]; omega), List.append_nil] at hnx
    exact wpe_back (j + 1, xss, A2, c2, H2) ⟨by dsimp only; omega, hg1.tr hg2, by dsimp only; rw [hnx]; exact Tr.repD_mono hg2.le hrep, by dsimp only; omega⟩ (by dsimp only; omega) ⟨rfl, rfl, rfl, lki (by dsimp only; omega), trivial⟩ rfl (by repeat' (first | exact List.Sublist.slnil | apply List.Sublist.cons_cons | apply List.Sublist.cons))
end Go.Proofs.Ytgjhbambdnpcmaa
set_option linter.unusedVariables false
set_option linter.unusedSimpArgs false
namespace Go.Proofs.Ytgjhbambdnpcmaa
open Go Go.Eng Go.Srt
theorem pl_leaf {k n g : Int} {s : ByteArray} {l : List Tr} {d : List PT} {k' n' g' : Int} {s' : ByteArray} (h : plT (.mk k n g s l d) = .mk k' n' g' s' [] []) {H : GH} : ∃ cs', Value.agg #[.int .i64 k', .int .i64 n', .int .i64 g', .string s', .slice none 0 0, .slice none 0 0] = .agg cs'.toArray ∧ (plT (.mk k n g s l d)).rep H cs' := by
  rw [h]; exact ⟨_, rfl, Tr.rep_leaf _ _ _ _⟩
theorem plain_leaf (k n g : Int) (s : ByteArray) (l : List Tr) (d : List PT) (hk : k ≠ 5 ∧ k ≠ 6 ∧ k ≠ 8) : VP (.mk k n g s l d) := by
  intro cs H hr
  rw [Tr.rep] at hr
  obtain ⟨A, c, B, e, rfl, _⟩ := hr
  refine fn_intro Try.func12 rfl rfl (fun W0 => ?_)
  by_cases c0 : k = 0
  · subst c0
    have e1 : plT (.mk 0 n g s l d) = .mk 0 0 0 ⟨#[]⟩ [] [] := by rw [plT]; rfl
    have hh := has_fn 0 H
    rw [show hasI 0 = (false, false, false, false, false, true) from rfl] at hh
    repeat' (first | apply wpc_seq | apply wpe_seq | apply wpl_nil | apply wpc_region | (apply g_any; first | (apply gmv; refine smv rfl rfl ?_) | (apply gas; refine sas rfl rfl ?_) | (apply gld; refine sld rfl (by exact rfl) (by exact rfl) rfl ?_) | (apply gfa; refine sfa rfl rfl ?_) | (apply gex; refine sex rfl rfl ?_) | (apply gst; refine sst rfl rfl (by exact rfl) (by exact rfl) (by exact rfl) (by exact rfl) ?_) | (apply gcl; first | refine scl rfl (hh) rfl ?_) | (apply gun; refine sun rfl rfl ?_) | (apply gal; refine sal rfl (fun _ => ?_)) | (apply gbx; refine sbx rfl rfl rfl (fun _ => ?_)) | (apply gbd; refine sbd rfl rfl rfl ?_)) | (apply g_wpc; first | (apply g_cond; first | refine cdF rfl ?_) | apply wpc_skip | apply wpc_ret))
    exact end1 (by exact .cell 2 rfl rfl rfl rfl .nil) (pl_leaf e1)
  by_cases c1 : k = 1
  · subst c1
    have e1 : plT (.mk 1 n g s l d) = .mk 1 n 0 ⟨#[]⟩ [] [] := by rw [plT]; rfl
    have hh := has_fn 1 H
    rw [show hasI 1 = (true, false, false, false, false, true) from rfl] at hh
    repeat' (first | apply wpc_seq | apply wpe_seq | apply wpl_nil | apply wpc_region | (apply g_any; first | (apply gmv; refine smv rfl rfl ?_) | (apply gas; refine sas rfl rfl ?_) | (apply gld; refine sld rfl (by exact rfl) (by exact rfl) rfl ?_) | (apply gfa; refine sfa rfl rfl ?_) | (apply gex; refine sex rfl rfl ?_) | (apply gst; refine sst rfl rfl (by exact rfl) (by exact rfl) (by exact rfl) (by exact rfl) ?_) | (apply gcl; first | refine scl rfl (hh) rfl ?_) | (apply gun; refine sun rfl rfl ?_) | (apply gal; refine sal rfl (fun _ => ?_)) | (apply gbx; refine sbx rfl rfl rfl (fun _ => ?_)) | (apply gbd; refine sbd rfl rfl rfl ?_)) | (apply g_wpc; first | (apply g_cond; first | refine cdT rfl ?_ | refine cdF rfl ?_) | apply wpc_skip | apply wpc_ret))
    exact end1 (by exact .cell 2 rfl rfl rfl rfl .nil) (pl_leaf e1)
  by_cases c2 : k = 2
  · subst c2
    have e1 : plT (.mk 2 n g s l d) = .mk 2 n 0 ⟨#[]⟩ [] [] := by rw [plT]; rfl
    have hh := has_fn 2 H
    rw [show hasI 2 = (true, false, false, false, false, true) from rfl] at hh
    repeat' (first | apply wpc_seq | apply wpe_seq | apply wpl_nil | apply wpc_region | (apply g_any; first | (apply gmv; refine smv rfl rfl ?_) | (apply gas; refine sas rfl rfl ?_) | (apply gld; refine sld rfl (by exact rfl) (by exact rfl) rfl ?_) | (apply gfa; refine sfa rfl rfl ?_) | (apply gex; refine sex rfl rfl ?_) | (apply gst; refine sst rfl rfl (by exact rfl) (by exact rfl) (by exact rfl) (by exact rfl) ?_) | (apply gcl; first | refine scl rfl (hh) rfl ?_) | (apply gun; refine sun rfl rfl ?_) | (apply gal; refine sal rfl (fun _ => ?_)) | (apply gbx; refine sbx rfl rfl rfl (fun _ => ?_)) | (apply gbd; refine sbd rfl rfl rfl ?_)) | (apply g_wpc; first | (apply g_cond; first | refine cdT rfl ?_ | refine cdF rfl ?_) | apply wpc_skip | apply wpc_ret))
    exact end1 (by exact .cell 2 rfl rfl rfl rfl .nil) (pl_leaf e1)
  by_cases c3 : k = 3
  · subst c3
    have e1 : plT (.mk 3 n g s l d) = .mk 3 0 0 s [] [] := by rw [plT]; rfl
    have hh := has_fn 3 H
    rw [show hasI 3 = (false, false, true, false, false, true) from rfl] at hh
    repeat' (first | apply wpc_seq | apply wpe_seq | apply wpl_nil | apply wpc_region | (apply g_any; first | (apply gmv; refine smv rfl rfl ?_) | (apply gas; refine sas rfl rfl ?_) | (apply gld; refine sld rfl (by exact rfl) (by exact rfl) rfl ?_) | (apply gfa; refine sfa rfl rfl ?_) | (apply gex; refine sex rfl rfl ?_) | (apply gst; refine sst rfl rfl (by exact rfl) (by exact rfl) (by exact rfl) (by exact rfl) ?_) | (apply gcl; first | refine scl rfl (hh) rfl ?_) | (apply gun; refine sun rfl rfl ?_) | (apply gal; refine sal rfl (fun _ => ?_)) | (apply gbx; refine sbx rfl rfl rfl (fun _ => ?_)) | (apply gbd; refine sbd rfl rfl rfl ?_)) | (apply g_wpc; first | (apply g_cond; first | refine cdT rfl ?_ | refine cdF rfl ?_) | apply wpc_skip | apply wpc_ret))
    exact end1 (by exact .cell 2 rfl rfl rfl rfl .nil) (pl_leaf e1)
  by_cases c4 : k = 4
  · subst c4
    have e1 : plT (.mk 4 n g s l d) = .mk 4 0 0 s [] [] := by rw [plT]; rfl
    have hh := has_fn 4 H
    rw [show hasI 4 = (false, false, true, false, false, true) from rfl] at hh
    repeat' (first | apply wpc_seq | apply wpe_seq | apply wpl_nil | apply wpc_region | (apply g_any; first | (apply gmv; refine smv rfl rfl ?_) | (apply gas; refine sas rfl rfl ?_) | (apply gld; refine sld rfl (by exact rfl) (by exact rfl) rfl ?_) | (apply gfa; refine sfa rfl rfl ?_) | (apply gex; refine sex rfl rfl ?_) | (apply gst; refine sst rfl rfl (by exact rfl) (by exact rfl) (by exact rfl) (by exact rfl) ?_) | (apply gcl; first | refine scl rfl (hh) rfl ?_) | (apply gun; refine sun rfl rfl ?_) | (apply gal; refine sal rfl (fun _ => ?_)) | (apply gbx; refine sbx rfl rfl rfl (fun _ => ?_)) | (apply gbd; refine sbd rfl rfl rfl ?_)) | (apply g_wpc; first | (apply g_cond; first | refine cdT rfl ?_ | refine cdF rfl ?_) | apply wpc_skip | apply wpc_ret))
    exact end1 (by exact .cell 2 rfl rfl rfl rfl .nil) (pl_leaf e1)
  by_cases c7 : k = 7
  · subst c7
    have e1 : plT (.mk 7 n g s l d) = .mk 7 n g ⟨#[]⟩ [] [] := by rw [plT]; rfl
    have hh := has_fn 7 H
    rw [show hasI 7 = (true, true, false, false, false, true) from rfl] at hh
    repeat' (first | apply wpc_seq | apply wpe_seq | apply wpl_nil | apply wpc_region | (apply g_any; first | (apply gmv; refine smv rfl rfl ?_) | (apply gas; refine sas rfl rfl ?_) | (apply gld; refine sld rfl (by exact rfl) (by exact rfl) rfl ?_) | (apply gfa; refine sfa rfl rfl ?_) | (apply gex; refine sex rfl rfl ?_) | (apply gst; refine sst rfl rfl (by exact rfl) (by exact rfl) (by exact rfl) (by exact rfl) ?_) | (apply gcl; first | refine scl rfl (hh) rfl ?_) | (apply gun; refine sun rfl rfl ?_) | (apply gal; refine sal rfl (fun _ => ?_)) | (apply gbx; refine sbx rfl rfl rfl (fun _ => ?_)) | (apply gbd; refine sbd rfl rfl rfl ?_)) | (apply g_wpc; first | (apply g_cond; first | refine cdT rfl ?_ | refine cdF rfl ?_) | apply wpc_skip | apply wpc_ret))
    exact end1 (by exact .cell 2 rfl rfl rfl rfl .nil) (pl_leaf e1)
  have e1 : plT (.mk k n g s l d) = .mk 0 0 0 ⟨#[]⟩ [] [] := by
    rw [plT, if_neg (by omega), if_neg (by omega), if_neg (by omega), if_neg (by omega), if_neg (by omega), if_neg (by omega)]
  have hh := has_fn k H
  rw [show hasI k = (false, false, false, false, false, false) by rw [hasI, if_neg (by omega), if_neg (by omega), if_neg (by omega), if_neg (by omega), if_neg (by omega), if_neg (by omega), if_neg (by omega)]] at hh
  repeat' (first | apply wpc_seq | apply wpe_seq | apply wpl_nil | apply wpc_region | (apply g_any; first | (apply gmv; refine smv rfl rfl ?_) | (apply gas; refine sas rfl rfl ?_) | (apply gld; refine sld rfl (by exact rfl) (by exact rfl) rfl ?_) | (apply gfa; refine sfa rfl rfl ?_) | (apply gex; refine sex rfl rfl ?_) | (apply gst; refine sst rfl rfl (by exact rfl) (by exact rfl) (by exact rfl) (by exact rfl) ?_) | (apply gcl; first | refine scl rfl (hh) rfl ?_) | (apply gun; refine sun rfl rfl ?_) | (apply gal; refine sal rfl (fun _ => ?_)) | (apply gbx; refine sbx rfl rfl rfl (fun _ => ?_)) | (apply gbd; refine sbd rfl rfl rfl ?_)) | (apply g_wpc; first | (apply g_cond; first | refine cdT rfl ?_) | apply wpc_ret) | (apply g_wpe; first | apply wpe_then_ret))
  exact end1 (by exact .cell 1 rfl rfl rfl rfl .nil) (pl_leaf e1)
end Go.Proofs.Ytgjhbambdnpcmaa
