/- Proved on the way: Sorting that is stable, plainly. Sorting that is stable, plainly: blocks, pieces that change places, the order of texts. Contracts: what is handed to the sort, pieces that change places. Contracts: rotation, insertion. -/
import Init.Data.List.Lemmas
import Derived.Test.YtgjhbambdnpcmaaGoC
import Derived.Test.YtgjhbambdnpcmaaLxA
import Derived.Test.YtgjhbambdnpcmaaGoD
set_option linter.unusedVariables false
set_option linter.unusedSectionVars false
namespace Go.Srt
variable {α : Type} {κ : Type} [DecidableEq κ]
/-- A strict order, told by a Bool, that parts whatever two keys are not one. -/
structure Ord (lt : κ → κ → Bool) : Prop where
  irrefl : ∀ a, lt a a = false
  trans : ∀ a b c, lt a b = true → lt b c = true → lt a c = true
  tri : ∀ a b, lt a b = false → lt b a = false → a = b
variable {lt : κ → κ → Bool} {key : α → κ}
/-- None is below one ahead of it. -/
def Asc (lt : κ → κ → Bool) (key : α → κ) (l : List α) : Prop := l.Pairwise (fun x y => lt (key y) (key x) = false)
/-- Of each key the same ones, in the same order. -/
def Alike (key : α → κ) (l m : List α) : Prop := ∀ k, l.filter (fun x => decide (key x = k)) = m.filter (fun x => decide (key x = k))
theorem Alike.refl (l : List α) : Alike key l l := fun _ => rfl
theorem Alike.symm {l m : List α} (h : Alike key l m) : Alike key m l := fun k => (h k).symm
theorem Alike.trans {l m n : List α} (h : Alike key l m) (h' : Alike key m n) : Alike key l n := fun k => (h k).trans (h' k)
theorem Alike.append {l m l' m' : List α} (h : Alike key l m) (h' : Alike key l' m') : Alike key (l ++ l') (m ++ m') := fun k => by
  rw [List.filter_append, List.filter_append, h k, h' k]
theorem Alike.mem {l m : List α} (h : Alike key l m) {x : α} (hx : x ∈ l) : x ∈ m := by
  have h1 : x ∈ l.filter (fun y => decide (key y = key x)) := List.mem_filter.2 ⟨hx, by simp⟩
  rw [h (key x)] at h1
  exact (List.mem_filter.1 h1).1
theorem Ord.asymm (o : Ord lt) {a b : κ} (h : lt a b = true) : lt b a = false := by
  cases h' : lt b a with
  | false => rfl
  | true => have := o.trans a b a h h'; rw [o.irrefl] at this; cases this
theorem Ord.ntrans (o : Ord lt) {a b c : κ} (h : lt b a = false) (h' : lt c b = false) : lt c a = false := by
  cases h1 : lt c a with
  | false => rfl
  | true =>
    cases h2 : lt a b with
    | true => have := o.trans c a b h1 h2; rw [h'] at this; cases this
    | false => rw [o.tri a b h2 h, h'] at h1; cases h1
/-- There is but one order. -/
theorem unique (o : Ord lt) : ∀ {l m : List α}, Asc lt key l → Asc lt key m → Alike key l m → l = m
  | [], [], _, _, _ => rfl
  | [], y :: m, _, _, h => by have := h.symm.mem (x := y) (by simp); cases this
  | x :: l, [], _, _, h => by have := h.mem (x := x) (by simp); cases this
  | x :: l, y :: m, hl, hm, h => by
    have hl' := List.pairwise_cons.1 hl
    have hm' := List.pairwise_cons.1 hm
    have e : key x = key y := by
      have hx : x = y ∨ x ∈ m := by have := h.mem (x := x) (by simp); simpa using this
      have hy : y = x ∨ y ∈ l := by have := h.symm.mem (x := y) (by simp); simpa using this
      rcases hx with rfl | hx
      · rfl
      rcases hy with rfl | hy
      · rfl
      exact o.tri _ _ (hm'.1 x hx) (hl'.1 y hy)
    have hxy : x = y := by
      have := h (key x)
      rw [List.filter_cons, List.filter_cons, if_pos (by simp), if_pos (by simp [e])] at this
      exact (List.cons.inj this).1
    subst hxy
    rw [unique o hl'.2 hm'.2 fun k => ?_]
    have := h k
    rw [List.filter_cons, List.filter_cons] at this
    by_cases hk : key x = k
    · rw [if_pos (by simp [hk]), if_pos (by simp [hk])] at this
      exact (List.cons.inj this).2
    · rw [if_neg (by simp [hk]), if_neg (by simp [hk])] at this
      exact this
/-- Two pieces of which all of one are below all of the other may change places. -/
theorem Alike.comm (o : Ord lt) {l m : List α} (h : ∀ x ∈ m, ∀ y ∈ l, lt (key x) (key y) = true) : Alike key (l ++ m) (m ++ l) := fun k => by
  rw [List.filter_append, List.filter_append]
  cases e : l.filter (fun x => decide (key x = k)) with
  | nil => simp
  | cons y t =>
    have hy : y ∈ l.filter (fun x => decide (key x = k)) := by rw [e]; simp
    obtain ⟨hy1, hy2⟩ := List.mem_filter.1 hy
    have hy2 : key y = k := by simpa using hy2
    have : m.filter (fun x => decide (key x = k)) = [] := by
      rw [List.filter_eq_nil_iff]
      intro x hx
      have h1 := h x hx y hy1
      simp only [decide_eq_true_eq]
      intro hk
      rw [hk, hy2, o.irrefl] at h1
      cases h1
    rw [this]; simp
theorem asc_append {l m : List α} : Asc lt key (l ++ m) ↔ Asc lt key l ∧ Asc lt key m ∧ ∀ x ∈ l, ∀ y ∈ m, lt (key y) (key x) = false := List.pairwise_append
theorem Asc.get {l : List α} (h : Asc lt key l) (o : Ord lt) {i j : Nat} {x y : α} (hi : l[i]? = some x) (hj : l[j]? = some y) (hij : i ≤ j) : lt (key y) (key x) = false := by
  rcases Nat.lt_or_eq_of_le hij with hlt | rfl
  · obtain ⟨hi', rfl⟩ := List.getElem?_eq_some_iff.1 hi
    obtain ⟨hj', rfl⟩ := List.getElem?_eq_some_iff.1 hj
    exact List.pairwise_iff_getElem.1 h i j hi' hj' hlt
  · rw [hi] at hj
    cases hj
    exact o.irrefl _
/-- What is merged out of two ascending rows, each parted where the other is. -/
theorem merged (o : Ord lt) {l1 l2 r1 r2 m1 m2 : List α} (hm1 : Asc lt key m1) (hm2 : Asc lt key m2) (ha1 : Alike key (l1 ++ r1) m1) (ha2 : Alike key (l2 ++ r2) m2)
    (hl : Asc lt key (l1 ++ l2)) (hr : Asc lt key (r1 ++ r2)) (h1 : ∀ x ∈ l1, ∀ y ∈ r2, lt (key y) (key x) = false) (h2 : ∀ x ∈ r1, ∀ y ∈ l2, lt (key x) (key y) = true) :
    Asc lt key (m1 ++ m2) ∧ Alike key ((l1 ++ l2) ++ (r1 ++ r2)) (m1 ++ m2) := by
  refine ⟨asc_append.2 ⟨hm1, hm2, fun x hx y hy => ?_⟩, ?_⟩
  · have hx' := ha1.symm.mem hx
    have hy' := ha2.symm.mem hy
    rw [List.mem_append] at hx' hy'
    rcases hx' with hx' | hx' <;> rcases hy' with hy' | hy'
    · exact (asc_append.1 hl).2.2 x hx' y hy'
    · exact h1 x hx' y hy'
    · exact o.asymm (h2 x hx' y hy')
    · exact (asc_append.1 hr).2.2 x hx' y hy'
  · refine Alike.trans ?_ (ha1.append ha2)
    have hc := Alike.comm o (l := l2) (m := r1) h2
    have := ((Alike.refl (key := key) l1).append hc).append (Alike.refl (key := key) r2)
    simpa [List.append_assoc] using this
/-- One is put among ascending ones: behind those that are not above it. -/
theorem put_in (o : Ord lt) {x : α} {r1 r2 : List α} (hr : Asc lt key (r1 ++ r2)) (h1 : ∀ y ∈ r1, lt (key y) (key x) = true) (h2 : ∀ y ∈ r2, lt (key y) (key x) = false) :
    Asc lt key (r1 ++ x :: r2) ∧ Alike key (x :: (r1 ++ r2)) (r1 ++ x :: r2) := by
  have hr' := asc_append.1 hr
  refine ⟨asc_append.2 ⟨hr'.1, List.pairwise_cons.2 ⟨fun y hy => h2 y hy, hr'.2.1⟩, fun a ha b hb => ?_⟩, ?_⟩
  · rcases List.mem_cons.1 hb with rfl | hb
    · exact o.asymm (h1 a ha)
    · exact hr'.2.2 a ha b hb
  · have hc := Alike.comm o (l := [x]) (m := r1) (fun a ha b hb => by rw [List.mem_singleton.1 hb]; exact h1 a ha)
    have := hc.append (Alike.refl (key := key) r2)
    simpa using this
theorem put_in' (o : Ord lt) {x : α} {r1 r2 : List α} (hr : Asc lt key (r1 ++ r2)) (h1 : ∀ y ∈ r1, lt (key x) (key y) = false) (h2 : ∀ y ∈ r2, lt (key x) (key y) = true) :
    Asc lt key (r1 ++ x :: r2) ∧ Alike key ((r1 ++ r2) ++ [x]) (r1 ++ x :: r2) := by
  have hr' := asc_append.1 hr
  refine ⟨asc_append.2 ⟨hr'.1, List.pairwise_cons.2 ⟨fun y hy => o.asymm (h2 y hy), hr'.2.1⟩, fun a ha b hb => ?_⟩, ?_⟩
  · rcases List.mem_cons.1 hb with rfl | hb
    · exact h1 a ha
    · exact hr'.2.2 a ha b hb
  · have hc := Alike.comm o (l := r2) (m := [x]) (fun a ha b hb => by rw [List.mem_singleton.1 ha]; exact h2 b hb)
    have := (Alike.refl (key := key) r1).append hc
    simpa using this
end Go.Srt
set_option linter.unusedVariables false
set_option linter.unusedSectionVars false
namespace Go.Srt
open Go Go.Eng
/-! ### the order of texts -/
def ltB (a b : ByteArray) : Bool := Op.bytesLess a.toList b.toList
theorem bl_irrefl : ∀ a : List UInt8, Op.bytesLess a a = false
  | [] => rfl
  | x :: r => by simp [Op.bytesLess, bl_irrefl r]
theorem bl_trans : ∀ a b c : List UInt8, Op.bytesLess a b = true → Op.bytesLess b c = true → Op.bytesLess a c = true
  | [], [], c, h, _ => by simp [Op.bytesLess] at h
  | [], _ :: _, [], _, h => by simp [Op.bytesLess] at h
  | [], _ :: _, _ :: _, _, _ => rfl
  | _ :: _, [], _, h, _ => by simp [Op.bytesLess] at h
  | _ :: _, _ :: _, [], _, h => by simp [Op.bytesLess] at h
  | x :: a, y :: b, z :: c, h, h' => by
    have ih := bl_trans a b c
    simp only [Op.bytesLess, Bool.or_eq_true, Bool.and_eq_true, decide_eq_true_eq, beq_iff_eq] at h h' ⊢
    rcases h with h | ⟨rfl, h⟩ <;> rcases h' with h' | ⟨rfl, h'⟩
    · exact .inl (UInt8.lt_trans h h')
    · exact .inl h
    · exact .inl h'
    · exact .inr ⟨rfl, ih h h'⟩
theorem bl_tri : ∀ a b : List UInt8, Op.bytesLess a b = false → Op.bytesLess b a = false → a = b
  | [], [], _, _ => rfl
  | [], _ :: _, h, _ => by simp [Op.bytesLess] at h
  | _ :: _, [], _, h => by simp [Op.bytesLess] at h
  | x :: a, y :: b, h, h' => by
    have ih := bl_tri a b
    simp only [Op.bytesLess, Bool.or_eq_false_iff, Bool.and_eq_false_iff, decide_eq_false_iff_not, beq_eq_false_iff_ne, UInt8.not_lt] at h h'
    have e : x = y := UInt8.le_antisymm h'.1 h.1
    subst e
    have h1 : Op.bytesLess a b = false := h.2.resolve_left (fun h => h rfl)
    have h2 : Op.bytesLess b a = false := h'.2.resolve_left (fun h => h rfl)
    rw [ih h1 h2]
theorem ba_toList_inj {a b : ByteArray} (h : a.toList = b.toList) : a = b := by
  have := bytes_beq a b
  rw [h, beq_self_eq_true] at this
  exact of_decide_eq_true this.symm
theorem ordB : Ord ltB := ⟨fun a => bl_irrefl _, fun a b c => bl_trans _ _ _, fun a b h h' => ba_toList_inj (bl_tri _ _ h h')⟩
/-! ### pieces that change places -/
variable {α : Type}
def swap2 [Inhabited α] (xs : List α) (i j : Nat) : List α := (xs.set i (xs.getD j default)).set j (xs.getD i default)
def swapR [Inhabited α] (xs : List α) (a b : Nat) : Nat → List α
  | 0 => xs
  | n + 1 => swap2 (swapR xs a b n) (a + n) (b + n)
theorem swapR_len [Inhabited α] (xs : List α) (a b : Nat) : ∀ n, (swapR xs a b n).length = xs.length
  | 0 => rfl
  | n + 1 => by simp [swapR, swap2, swapR_len xs a b n]
theorem swapR_get [Inhabited α] (xs : List α) (a b : Nat) : ∀ n, a + n ≤ b → b + n ≤ xs.length → ∀ t, (swapR xs a b n)[t]? = if a ≤ t ∧ t < a + n then xs[t - a + b]? else if b ≤ t ∧ t < b + n then xs[t - b + a]? else xs[t]?
  | 0, _, _, t => by rw [if_neg (by omega), if_neg (by omega)]; rfl
  | n + 1, h1, h2, t => by
    have ih := swapR_get xs a b n (by omega) (by omega)
    have hl := swapR_len xs a b n
    have ea := ih (a + n)
    have eb := ih (b + n)
    rw [if_neg (by omega), if_neg (by omega)] at ea eb
    simp only [swapR, swap2, List.getElem?_set, List.length_set, hl, List.getD_eq_getElem?_getD, ea, eb]
    have ga : xs[a + n]? = some ((xs[a + n]?).getD default) := by rw [List.getElem?_eq_getElem (by omega)]; rfl
    have gb : xs[b + n]? = some ((xs[b + n]?).getD default) := by rw [List.getElem?_eq_getElem (by omega)]; rfl
    have fin : ∀ q, q < xs.length → some ((xs[q]?).getD default) = xs[q]? := fun q hq => by rw [List.getElem?_eq_getElem hq]; rfl
    by_cases c1 : t = b + n
    · subst c1
      rw [if_pos rfl, if_pos (by omega), fin _ (by omega)]
      rw [if_neg (by omega), if_pos (by omega)]
      congr 1; omega
    by_cases c2 : t = a + n
    · subst c2
      rw [if_neg (by omega), if_pos rfl, if_pos (by omega), fin _ (by omega)]
      rw [if_pos (by omega)]
      congr 1; omega
    rw [if_neg (by omega), if_neg (by omega), ih t]
    by_cases c3 : a ≤ t ∧ t < a + n
    · rw [if_pos c3, if_pos (by omega)]
    by_cases c4 : b ≤ t ∧ t < b + n
    · rw [if_neg c3, if_pos c4, if_neg (by omega), if_pos (by omega)]
    · rw [if_neg c3, if_neg c4, if_neg (by omega), if_neg (by omega)]
theorem swapR_eq [Inhabited α] (P U M V S : List α) (h : U.length = V.length) : swapR (P ++ U ++ M ++ V ++ S) P.length (P.length + U.length + M.length) U.length = P ++ V ++ M ++ U ++ S := by
  apply List.ext_getElem?
  intro t
  rw [swapR_get _ _ _ _ (by omega) (by simp; omega)]
  simp only [List.getElem?_append, List.length_append]
  by_cases c1 : P.length ≤ t ∧ t < P.length + U.length
  · rw [if_pos c1]
    rw [if_pos (by omega), if_neg (by omega), if_pos (by omega), if_pos (by omega), if_pos (by omega), if_neg (by omega)]
    congr 1; omega
  · rw [if_neg c1]
    by_cases c2 : P.length + U.length + M.length ≤ t ∧ t < P.length + U.length + M.length + U.length
    · rw [if_pos c2]
      rw [if_pos (by omega), if_pos (by omega), if_pos (by omega), if_neg (by omega), if_pos (by omega), if_neg (by omega)]
      congr 1; omega
    · rw [if_neg c2]
      by_cases c3 : t < P.length
      · rw [if_pos (by omega), if_pos (by omega), if_pos (by omega), if_pos (by omega), if_pos (by omega), if_pos (by omega), if_pos (by omega), if_pos (by omega)]
      · by_cases c4 : t < P.length + U.length + M.length
        · rw [if_pos (by omega), if_pos (by omega), if_neg (by omega), if_pos (by omega), if_pos (by omega), if_neg (by omega)]
          congr 1; omega
        · rw [if_neg (by omega), if_neg (by omega)]
          congr 1; omega
theorem set_at (A B : List α) (x y : α) : (A ++ x :: B).set A.length y = A ++ y :: B := by simp
theorem set_two (A B : List α) (x y : α) : ((A ++ y :: x :: B).set (A.length + 1) y).set A.length x = A ++ x :: y :: B := by simp
theorem get_at (A B : List α) (x : α) : (A ++ x :: B)[A.length]? = some x := by simp
theorem get_at1 (A B : List α) (x y : α) : (A ++ x :: y :: B)[A.length + 1]? = some y := by simp
/-! ### blocks -/
variable {κ : Type} [DecidableEq κ] {lt : κ → κ → Bool} {key : α → κ}
/-- Ascending blocks of so many, the last one of at most so many. -/
inductive Runs (lt : κ → κ → Bool) (key : α → κ) (n : Nat) : List α → Prop
  | last {l : List α} (h : l.length ≤ n) (ha : Asc lt key l) : Runs lt key n l
  | cons {l m : List α} (h : l.length = n) (ha : Asc lt key l) (hm : Runs lt key n m) : Runs lt key n (l ++ m)
/-- Ascending blocks of just so many. -/
inductive Full (lt : κ → κ → Bool) (key : α → κ) (n : Nat) : List α → Prop
  | nil : Full lt key n []
  | snoc {l m : List α} (h : m.length = n) (ha : Asc lt key m) (hl : Full lt key n l) : Full lt key n (l ++ m)
theorem Full.runs {n : Nat} {l : List α} (h : Full lt key n l) : ∀ {m : List α}, Runs lt key n m → Runs lt key n (l ++ m) := by
  induction h with
  | nil => intro m hm; exact hm
  | snoc h ha hl ih => intro m hm; rw [List.append_assoc]; exact ih (.cons h ha hm)
theorem Runs.small {n : Nat} {l : List α} (h : Runs lt key n l) (hn : l.length ≤ n) : Asc lt key l := by
  cases h with
  | last _ ha => exact ha
  | @cons l m h ha hm =>
    simp at hn
    have : m = [] := List.length_eq_zero_iff.1 (by omega)
    subst this
    simpa using ha
theorem Runs.part {n : Nat} {l : List α} (h : Runs lt key n l) (hn : n < l.length) : ∃ x y, l = x ++ y ∧ x.length = n ∧ Asc lt key x ∧ Runs lt key n y := by
  cases h with
  | last h _ => omega
  | cons h ha hm => exact ⟨_, _, rfl, h, ha, hm⟩
end Go.Srt
set_option linter.unusedVariables false
set_option linter.unusedSimpArgs false
namespace Go.Proofs.Ytgjhbambdnpcmaa
open Go Go.Eng Go.Srt
def keyC : List Value → ByteArray
  | .string k :: _ => k
  | _ => ⟨#[]⟩
/-- A pair's cells. -/
def PairC (cs : List Value) : Prop := ∃ key k n g s A m c B m' c', cs = [.string key, .int .i64 k, .int .i64 n, .int .i64 g, .string s, .slice A m c, .slice B m' c']
def cmpI (a b : ByteArray) : Int := if ltB a b = true then -1 else if ltB b a = true then 1 else 0
theorem nan_fn (s : ByteArray) (H : GH) : CtV Try.prog 67 [.string s] H (.bool false) := by
  refine fn_intro Try.func67 rfl rfl (fun w => ?_)
  repeat' (first | apply wpc_seq | apply wpe_seq | apply wpl_nil | apply wpc_region | (apply g_any; first | (apply gmv; refine smv rfl rfl ?_) | (apply gas; refine sas rfl rfl ?_) | (apply gbn; first | refine sbn rfl rfl ?_)) | (apply g_wpc; first | apply wpc_ret))
  refine end1 (by exact .tmp rfl .nil) ?_
  simp [tupV, tst_eq]
theorem compare_fn (a b : ByteArray) (H : GH) : CtV Try.prog 47 [.string a, .string b] H (.int .i64 (cmpI a b)) := by
  refine fn_intro Try.func47 rfl rfl (fun w => ?_)
  repeat' (first | apply wpc_seq | apply wpe_seq | apply wpl_nil | apply wpc_region | (apply g_any; first | (apply gmv; refine smv rfl rfl ?_) | (apply gas; refine sas rfl rfl ?_) | (apply gbn; first | refine sbn rfl rfl ?_) | (apply gcl; first | refine scl rfl (nan_fn _ _) rfl ?_)) | (apply g_wpc; first | (apply g_cond; first | refine cdF rfl ?_ | (refine cdD rfl (fun hb => ?_) (fun hb => ?_) <;> (try (exfalso; first | (with_reducible exact absurd (by assumption) hb) | (with_reducible exact absurd hb (by assumption)) | omega)))) | apply wpc_skip | apply wpc_ret) | (apply g_wpe; first | apply wpe_then_ret))
  all_goals (refine end1 (by exact .tmp rfl .nil) ?_)
  · rw [cmpI, if_pos (by assumption)] <;> rfl
  · rw [cmpI, if_neg (by assumption), if_pos (by assumption)] <;> rfl
  · rw [cmpI, if_neg (by assumption), if_neg (by assumption)] <;> rfl
theorem cmpP_fn (a b : ByteArray) (v1 v2 v3 v4 v5 v6 w1 w2 w3 w4 w5 w6 : Value) (H : GH) : CtV Try.prog 46 [.agg #[.string a, v1, v2, v3, v4, v5, v6], .agg #[.string b, w1, w2, w3, w4, w5, w6]] H (.int .i64 (cmpI a b)) := by
  refine fn_intro Try.func46 rfl rfl (fun w => ?_)
  repeat' (first | apply wpc_seq | apply wpe_seq | apply wpl_nil | apply wpc_region | (apply g_any; first | (apply gas; refine sas rfl rfl ?_) | (apply gld; refine sld rfl (by exact rfl) (by exact rfl) rfl ?_) | (apply gfa; refine sfa rfl rfl ?_) | (apply gcl; first | refine scl rfl (compare_fn _ _ _) rfl ?_) | (apply gbx; refine sbx rfl rfl rfl (fun _ => ?_))) | (apply g_wpc; first | apply wpc_ret))
  exact end1 (by exact .tmp rfl .nil) rfl
theorem eqP_fn (a b : ByteArray) (v1 v2 v3 v4 v5 v6 w1 w2 w3 w4 w5 w6 : Value) (H : GH) : CtV Try.prog 49 [.agg #[.string a, v1, v2, v3, v4, v5, v6], .agg #[.string b, w1, w2, w3, w4, w5, w6]] H (.bool (tst (decide (a = b)))) := by
  refine fn_intro Try.func49 rfl rfl (fun w => ?_)
  repeat' (first | apply wpc_seq | apply wpe_seq | apply wpl_nil | apply wpc_region | (apply g_any; first | (apply gas; refine sas rfl rfl ?_) | (apply gld; refine sld rfl (by exact rfl) (by exact rfl) rfl ?_) | (apply gfa; refine sfa rfl rfl ?_) | (apply gbn; first | refine sbn rfl rfl ?_) | (apply gbx; refine sbx rfl rfl rfl (fun _ => ?_))) | (apply g_wpc; first | apply wpc_ret))
  exact end1 (by exact .tmp rfl .nil) rfl
theorem swapRange_fn (xss : List (List Value)) (g m c a b n : Nat) (V : Value) (H : GH) (hm : xss.length = m) (hb : m ≤ 1099511627776) (hp : ∀ xs ∈ xss, PairC xs) (h1 : a + n ≤ b) (h2 : b + n ≤ m) :
    CtL Try.prog 88 [.slice (some ⟨g, 0, none⟩) m c, .int .i64 a, .int .i64 b, .int .i64 n, V] H [.row 40 7 (some ⟨g, 0, none⟩) c xss] (fun r L' => r = .tuple #[] ∧ L' = [.row 40 7 (some ⟨g, 0, none⟩) c (swapR xss a b n)]) := by
  refine fn_intro Try.func88 rfl rfl (fun w => ?_)
  repeat' (first | apply wpc_seq | apply wpe_seq | apply wpl_nil | apply wpc_region | (apply g_any; first | (apply gas; refine sas rfl rfl ?_)) | (apply g_wpc; first | apply wpc_block))
  refine wpc_less (l' := [(10, .int .i64 0), (0, .slice (some ⟨g, 0, none⟩) m c), (1, .int .i64 a), (2, .int .i64 b), (3, .int .i64 n)]) ⟨rfl, rfl, rfl, rfl, rfl, trivial⟩ (List.Sublist.refl _) ?_
  refine wpc_loop (ι := Nat) (fun i => i ≤ n) (fun i => n - i) (fun i => [(10, .int .i64 (i : Int)), (0, .slice (some ⟨g, 0, none⟩) m c), (1, .int .i64 a), (2, .int .i64 b), (3, .int .i64 n)]) (fun _ => H) (fun i => [.row 40 7 (some ⟨g, 0, none⟩) c (swapR xss a b i)]) ?_ 0 (by omega)
  rintro i hi
  have hl := swapR_len xss a b i
  by_cases hlt : i < n
  case neg =>
    obtain rfl : i = n := by omega
    repeat' (first | apply wpc_seq | apply wpe_seq | apply wpl_nil | apply wpc_region | (apply g_any; first | (apply gmv; refine smv rfl rfl ?_) | (apply gbn; first | refine sbn rfl rfl ?_)) | (apply g_wpc; first | (apply g_cond; first | (refine cdD rfl (fun hb => ?_) (fun hb => ?_) <;> (try (exfalso; first | (with_reducible exact absurd (by assumption) hb) | (with_reducible exact absurd hb (by assumption)) | omega)))) | apply wpc_exit) | (apply g_wpe; first | apply wpe_then_exit | apply wpe_block_eq | apply wpe_back_exit))
    exact wpe_end (.inr rfl) (by exact .nil) _ (List.Sublist.refl _) (Grow.refl _ _) ⟨rfl, rfl⟩
  have ha := swapR_get xss a b i (by omega) (by omega) (a + i)
  have hb' := swapR_get xss a b i (by omega) (by omega) (b + i)
  rw [if_neg (by omega), if_neg (by omega), List.getElem?_eq_getElem (l := xss) (by omega)] at ha
  rw [if_neg (by omega), if_neg (by omega), List.getElem?_eq_getElem (l := xss) (by omega)] at hb'
  obtain ⟨k1, x1, x2, x3, x4, x5, x6, x7, x8, x9, x10, ex⟩ := hp _ (List.getElem_mem (l := xss) (n := a + i) (by omega))
  obtain ⟨k2, y1, y2, y3, y4, y5, y6, y7, y8, y9, y10, ey⟩ := hp _ (List.getElem_mem (l := xss) (n := b + i) (by omega))
  rw [ex] at ha
  rw [ey] at hb'
  have hstep : swapR xss a b (i + 1) = ((swapR xss a b i).set (a + i) [.string k2, .int .i64 y1, .int .i64 y2, .int .i64 y3, .string y4, .slice y5 y6 y7, .slice y8 y9 y10]).set (b + i) [.string k1, .int .i64 x1, .int .i64 x2, .int .i64 x3, .string x4, .slice x5 x6 x7, .slice x8 x9 x10] := by
    simp only [swapR, swap2, List.getD_eq_getElem?_getD, ha, hb', Option.getD_some]
  repeat' (first | apply wpc_seq | apply wpe_seq | apply wpl_nil | apply wpc_region | (apply g_any; first | (apply gmv; refine smv rfl rfl ?_) | (apply gbn; first | refine sbn rfl rfl ?_)) | (apply g_wpc; first | apply wpc_block | (apply g_cond; first | (refine cdD rfl (fun hb => ?_) (fun hb => ?_) <;> (try (exfalso; first | (with_reducible exact absurd (by assumption) hb) | (with_reducible exact absurd hb (by assumption)) | omega)))) | apply wpc_skip))
  refine wpc_heldU [0] [13, 19] [0, 1, 2, 3, 4, 5, 6, 7, 8, 9, 10, 11, 12, 14, 15, 16, 17, 18, 20, 22] mixed rfl ?_
  refine whu_free [0, 1, 2, 3, 4, 5, 6, 7, 8, 9, 10, 11, 12, 14, 15, 16, 17, 18] (fuel := 6) (listed' := #[true, true, true, true, true, true, true, true, true, true, true, true, true, false, true, true, true, true, true, false, false, false, false, false]) (by kernel_rfl) rfl (by kernel_rfl) ?_
  repeat' (first | (apply gt_any; first | (apply hmv; refine tmv rfl rfl ?_) | (apply hbn; first | (apply had; refine tad rfl rfl (by omega) (by omega) rfl ?_)) | (apply hia; refine tia rfl rfl (by omega) (by omega) rfl ?_)))
  refine wpt_nil ?_
  refine whu_looks [13, 19] (fuel := 4) (listed' := #[true, true, true, true, true, true, true, true, true, true, true, true, true, true, true, true, true, true, true, true, false, false, false, false]) (by kernel_rfl) rfl (by kernel_rfl) (HLe.refl _) (by repeat' (first | exact List.Sublist.slnil | apply List.Sublist.cons_cons | apply List.Sublist.cons)) ?_
  repeat' (first | (apply gt_any; first | refine tlf (a + i) rfl ha 0 rfl rfl (by omega) rfl ?_ | refine tlf (b + i) rfl hb' 0 rfl rfl (by omega) rfl ?_))
  refine wpt_nil ?_
  refine whu_free [20] (fuel := 3) (listed' := #[true, true, true, true, true, true, true, true, true, true, true, true, true, true, true, true, true, true, true, true, true, false, false, false]) (by kernel_rfl) rfl (by kernel_rfl) ?_
  repeat' (first | (apply gt_any; first | (apply hia; refine tia rfl rfl (by omega) (by omega) rfl ?_)))
  refine wpt_nil ?_
  refine whu_one 21 (listed' := #[true, true, true, true, true, true, true, true, true, true, true, true, true, true, true, true, true, true, true, true, true, true, false, false]) (by kernel_rfl) rfl (by kernel_rfl) ?_   -- [zsortanyfunc.go:331] -     := Op.store 40 t36 t29
  repeat' (first | apply wpl_nil | (apply g_any; first | (refine ssr (a + i) rfl rfl (by omega) (by omega) rfl rfl ?_; refine wnL rfl ?_)))
  refine weu_last (by kernel_rfl) ?_
  refine whu_free [22] (fuel := 1) (listed' := #[true, true, true, true, true, true, true, true, true, true, true, true, true, true, true, true, true, true, true, true, true, true, true, false]) (by kernel_rfl) rfl (by kernel_rfl) ?_
  repeat' (first | (apply gt_any; first | (apply hia; refine tia rfl rfl (by omega) (by omega) rfl ?_)))
  refine wpt_nil ?_
  refine whu_one 23 (listed' := #[true, true, true, true, true, true, true, true, true, true, true, true, true, true, true, true, true, true, true, true, true, true, true, true]) (by kernel_rfl) rfl (by kernel_rfl) ?_   -- [zsortanyfunc.go:331] -     := Op.store 40 t37 t35
  repeat' (first | apply wpl_nil | (apply g_any; first | (refine ssr (b + i) rfl rfl (by omega) (by simp only [List.length_set]; omega) rfl rfl ?_; refine wnL rfl ?_)))
  refine weu_last (by kernel_rfl) ?_
  refine whu_done (by kernel_rfl) ?_
  repeat' (first | apply wpe_seq | apply wpl_nil | apply wpc_region | (apply g_any; first | (apply gmv; refine smv rfl rfl ?_) | (apply gas; refine sas rfl rfl ?_) | (apply gbn; first | (apply gad; refine sad rfl rfl (by omega) (by omega) rfl ?_))) | (apply g_wpe; first | apply wpe_block))
  exact wpe_back (i + 1) (by omega) (by omega) ⟨rfl, rfl, rfl, rfl, rfl, trivial⟩ rfl (by rw [hstep]; exact List.Sublist.refl _)
end Go.Proofs.Ytgjhbambdnpcmaa
set_option linter.unusedVariables false
set_option linter.unusedSimpArgs false
namespace Go.Proofs.Ytgjhbambdnpcmaa
open Go Go.Eng Go.Srt
theorem swapRange_i (xss : List (List Value)) (g m c a b n : Nat) (V : Value) (H : GH) (hm : xss.length = m) (hb : m ≤ 1099511627776) (hp : ∀ xs ∈ xss, PairC xs) (h1 : a + n ≤ b) (h2 : b + n ≤ m) {ia ib n' : Int} (ea : ia = (a : Nat)) (eb : ib = (b : Nat)) (en : n' = (n : Nat)) :
    CtL Try.prog 88 [.slice (some ⟨g, 0, none⟩) m c, .int .i64 ia, .int .i64 ib, .int .i64 n', V] H [.row 40 7 (some ⟨g, 0, none⟩) c xss] (fun r L' => r = .tuple #[] ∧ L' = [.row 40 7 (some ⟨g, 0, none⟩) c (swapR xss a b n)]) := by
  subst ea eb en; exact swapRange_fn xss g m c a b n V H hm hb hp h1 h2
theorem rotate_fn (P U V S : List (List Value)) (g m c a b d : Nat) (f : Value) (H : GH) (ha : P.length = a) (hb : a + U.length = b) (hd : b + V.length = d) (hm : d + S.length = m) (hbig : m ≤ 1099511627776) (hp : ∀ xs ∈ P ++ U ++ V ++ S, PairC xs) (hU : 0 < U.length) (hV : 0 < V.length) :
    CtL Try.prog 84 [.slice (some ⟨g, 0, none⟩) m c, .int .i64 a, .int .i64 b, .int .i64 d, f] H [.row 40 7 (some ⟨g, 0, none⟩) c (P ++ U ++ V ++ S)] (fun r L' => r = .tuple #[] ∧ L' = [.row 40 7 (some ⟨g, 0, none⟩) c (P ++ V ++ U ++ S)]) := by
  refine fn_intro Try.func84 rfl rfl (fun w => ?_)
  repeat' (first | apply wpc_seq | apply wpe_seq | apply wpl_nil | apply wpc_region | (apply g_any; first | (apply gmv; refine smv rfl rfl ?_) | (apply gas; refine sas rfl rfl ?_) | (apply gbn; first | (apply gsb; refine ssb rfl rfl (by omega) (by omega) rfl ?_))) | (apply g_wpc; first | apply wpc_block))
  rw [show (b : Int) - a = (U.length : Nat) by omega, show (d : Int) - b = (V.length : Nat) by omega]
  refine wpc_less (l' := [(10, .int .i64 (U.length : Int)), (11, .int .i64 (V.length : Int)), (0, .slice (some ⟨g, 0, none⟩) m c), (2, .int .i64 b), (4, f)]) ⟨rfl, rfl, rfl, rfl, rfl, trivial⟩ (List.Sublist.refl _) ?_
  have hpm : ∀ xs, xs ∈ P ++ U ++ V ++ S ↔ xs ∈ P ∨ xs ∈ U ∨ xs ∈ V ∨ xs ∈ S := by intro xs; simp [or_assoc]
  refine wpc_loop (ι := List (List Value) × List (List Value) × List (List Value) × List (List Value)) (fun x => P ++ V ++ U ++ S = x.1 ++ x.2.2.1 ++ x.2.1 ++ x.2.2.2 ∧ x.1.length + x.2.1.length = b ∧ x.1.length + x.2.1.length + x.2.2.1.length + x.2.2.2.length = m ∧ 0 < x.2.1.length ∧ 0 < x.2.2.1.length ∧ (∀ xs ∈ x.1 ++ x.2.1 ++ x.2.2.1 ++ x.2.2.2, PairC xs)) (fun x => x.2.1.length + x.2.2.1.length)
    (fun x => [(10, .int .i64 (x.2.1.length : Int)), (11, .int .i64 (x.2.2.1.length : Int)), (0, .slice (some ⟨g, 0, none⟩) m c), (2, .int .i64 b), (4, f)]) (fun _ => H) (fun x => [.row 40 7 (some ⟨g, 0, none⟩) c (x.1 ++ x.2.1 ++ x.2.2.1 ++ x.2.2.2)]) ?_ (P, U, V, S) ⟨rfl, by dsimp only; omega, by dsimp only; omega, hU, hV, hp⟩
  rintro ⟨A, X, Y, B⟩ ⟨he, hb1, hm1, hX, hY, hq⟩
  dsimp only at he hb1 hm1 hX hY hq ⊢
  by_cases hij : X.length = Y.length
  · repeat' (first | apply wpc_seq | apply wpe_seq | apply wpl_nil | apply wpc_region | (apply g_any; first | (apply gmv; refine smv rfl rfl ?_) | (apply gbn; first | (apply gsb; refine ssb rfl rfl (by omega) (by omega) rfl ?_) | refine sbn rfl rfl ?_)) | (apply g_wpc; first | (apply g_cond; first | (refine cdD rfl (fun hb => ?_) (fun hb => ?_) <;> (try (exfalso; first | (with_reducible exact absurd (by assumption) hb) | (with_reducible exact absurd hb (by assumption)) | omega)))) | apply wpc_exit) | (apply g_wpe; first | apply wpe_then_exit | apply wpe_block_eq | apply wpe_back_exit))
    refine scq 0 rfl rfl (swapRange_i (A ++ X ++ Y ++ B) g m c A.length b X.length _ H (by simp; omega) hbig hq (by omega) (by omega) (by omega) rfl rfl) rfl rfl (fun r Lq hX => ?_)
    obtain ⟨rfl, rfl⟩ := hX
    refine wnL rfl ?_
    repeat' (first | apply wpl_nil)
    refine wpe_end (.inr rfl) (by exact .nil) _ (List.Sublist.refl _) (Grow.refl _ _) ⟨rfl, ?_⟩
    have := swapR_eq A X [] Y B hij
    simp only [List.append_nil, List.length_nil, Nat.add_zero, hb1] at this
    rw [this, he]
  by_cases hgt : Y.length < X.length
  · obtain ⟨X1, X2, rfl, hx1⟩ : ∃ X1 X2, X = X1 ++ X2 ∧ X1.length = Y.length := ⟨X.take Y.length, X.drop Y.length, (List.take_append_drop _ _).symm, by simp; omega⟩
    have hXl : (X1 ++ X2).length = X1.length + X2.length := List.length_append
    have e2 : (((X1 ++ X2).length : Nat) : Int) - (Y.length : Nat) = (X2.length : Nat) := by omega
    repeat' (first | apply wpc_seq | apply wpe_seq | apply wpl_nil | apply wpc_region | (apply g_any; first | (apply gmv; refine smv rfl rfl ?_) | (apply gbn; first | (apply gsb; refine ssb rfl rfl (by omega) (by omega) rfl ?_) | refine sbn rfl rfl ?_)) | (apply g_wpc; first | apply wpc_block | (apply g_cond; first | (refine cdD rfl (fun hb => ?_) (fun hb => ?_) <;> (try (exfalso; first | (with_reducible exact absurd (by assumption) hb) | (with_reducible exact absurd hb (by assumption)) | omega)))) | apply wpc_skip))
    refine scq 0 rfl rfl (swapRange_i (A ++ (X1 ++ X2) ++ Y ++ B) g m c A.length b X1.length _ H (by simp; omega) hbig hq (by omega) (by omega) (by omega) rfl (by omega)) rfl rfl (fun r Lq hX => ?_)
    obtain ⟨rfl, rfl⟩ := hX
    refine wnL rfl ?_
    have e1 := swapR_eq A X1 X2 Y B hx1
    rw [show A.length + X1.length + X2.length = b by omega] at e1
    rw [← List.append_assoc A X1 X2, e1]
    repeat' (first | apply wpe_seq | apply wpl_nil | apply wpc_region | (apply g_any; first | (apply gmv; refine smv rfl rfl ?_) | (apply gas; refine sas rfl rfl ?_) | (apply gbn; first | (apply gsb; refine ssb rfl rfl (by omega) (by omega) rfl ?_))) | (apply g_wpe; first | apply wpe_block))
    rw [e2]
    exact wpe_back (A ++ Y, X2, X1, B) ⟨by rw [he]; simp only [List.append_assoc], by simp only [List.length_append]; omega, by simp only [List.length_append]; omega, by dsimp only; omega, by dsimp only; omega, fun xs hx => hq xs (by simp only [List.mem_append] at hx ⊢; rcases hx with (((hx | hx) | hx) | hx) | hx <;> simp [hx])⟩ (by simp only [List.length_append]; omega) ⟨rfl, by dsimp only; rw [hx1]; rfl, rfl, rfl, rfl, trivial⟩ rfl (List.Sublist.refl _)
  · obtain ⟨Y1, Y2, rfl, hy2⟩ : ∃ Y1 Y2, Y = Y1 ++ Y2 ∧ Y2.length = X.length := ⟨Y.take (Y.length - X.length), Y.drop (Y.length - X.length), (List.take_append_drop _ _).symm, by simp; omega⟩
    have hYl : (Y1 ++ Y2).length = Y1.length + Y2.length := List.length_append
    have e2 : (((Y1 ++ Y2).length : Nat) : Int) - (X.length : Nat) = (Y1.length : Nat) := by omega
    repeat' (first | apply wpc_seq | apply wpe_seq | apply wpl_nil | apply wpc_region | (apply g_any; first | (apply gmv; refine smv rfl rfl ?_) | (apply gbn; first | (apply gad; refine sad rfl rfl (by omega) (by omega) rfl ?_) | (apply gsb; refine ssb rfl rfl (by omega) (by omega) rfl ?_) | refine sbn rfl rfl ?_)) | (apply g_wpc; first | apply wpc_block | (apply g_cond; first | (refine cdD rfl (fun hb => ?_) (fun hb => ?_) <;> (try (exfalso; first | (with_reducible exact absurd (by assumption) hb) | (with_reducible exact absurd hb (by assumption)) | omega)))) | apply wpc_skip))
    refine scq 0 rfl rfl (swapRange_i (A ++ X ++ (Y1 ++ Y2) ++ B) g m c A.length (b + Y1.length) X.length _ H (by simp; omega) hbig hq (by omega) (by omega) (by omega) (by omega) rfl) rfl rfl (fun r Lq hX => ?_)
    obtain ⟨rfl, rfl⟩ := hX
    refine wnL rfl ?_
    have e1 := swapR_eq A X Y1 Y2 B hy2.symm
    rw [hb1] at e1
    rw [← List.append_assoc (A ++ X) Y1 Y2, e1]
    repeat' (first | apply wpe_seq | apply wpl_nil | apply wpc_region | (apply g_any; first | (apply gmv; refine smv rfl rfl ?_) | (apply gas; refine sas rfl rfl ?_) | (apply gbn; first | (apply gsb; refine ssb rfl rfl (by omega) (by omega) rfl ?_))) | (apply g_wpe; first | apply wpe_block))
    rw [e2]
    exact wpe_back (A, Y2, Y1, X ++ B) ⟨by rw [he]; simp only [List.append_assoc], by dsimp only; omega, by simp only [List.length_append]; omega, by dsimp only; omega, by dsimp only; omega, fun xs hx => hq xs (by simp only [List.mem_append] at hx ⊢; rcases hx with ((hx | hx) | hx) | (hx | hx) <;> simp [hx])⟩ (by simp only [List.length_append]; omega) ⟨by dsimp only; rw [hy2]; rfl, rfl, rfl, rfl, rfl, trivial⟩ rfl (by rw [show A ++ Y2 ++ Y1 ++ (X ++ B) = A ++ Y2 ++ Y1 ++ X ++ B by simp only [List.append_assoc]]; exact List.Sublist.refl _)
end Go.Proofs.Ytgjhbambdnpcmaa
