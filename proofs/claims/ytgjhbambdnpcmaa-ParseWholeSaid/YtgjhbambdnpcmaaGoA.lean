/- Proved on the way: The engine, part 0: frames as lists of known slots, worlds as a ghost of what stays and a list of what is owned. The engine, part 1: what is to be shown of code, rules for its forms; operations; calls; loops. -/
import Derived.Tactics
import Derived.Deep.Quiet
import Derived.OrdersHeld
import Derived.Laws.AppendOwn
import Derived.KernelRfl
import Derived.Maps.AppendAt
import Derived.Laws.Cells
import Derived.Laws.CopyRow
import Derived.Scope
import Derived.Laws.Strings
set_option linter.unusedVariables false
set_option linter.unusedSimpArgs false
namespace Go.Eng
open Go

/-! ### frames -/
abbrev Fm := List (Nat × Value)
def lk : Fm → Nat → Option Value
  | [], _ => none
  | (j, v) :: r, i => bif Nat.beq j i then some v else lk r i
def ev (l : Fm) : Operand → Option Value
  | .tmp t => lk l t
  | .const v => some v
  | .global g => some (.pointer (some ⟨g, 0, none⟩))
  | .func f => some (.func (.func f) #[] #[])
def evs (l : Fm) : List Operand → Option (List Value)
  | [] => some []
  | x :: r => match ev l x with
    | some v => match evs l r with
      | some vs => some (v :: vs)
      | none => none
    | none => none

structure Knows (n : Nat) (l : Fm) (a : Act) : Prop where
  size : a.tmps.size = n
  defers : a.defers = []
  at_ : ∀ i v, lk l i = some v → a.tmps[i]? = some v

theorem Knows.eval {n : Nat} {l : Fm} {a : Act} (h : Knows n l a) {x : Operand} {v : Value} (hx : ev l x = some v) : a.eval x = v := by
  cases x with
  | tmp t => simp only [ev] at hx; simp [Act.eval, Array.getD_eq_getD_getElem?, h.at_ t v hx]
  | const u => simpa [ev, Act.eval] using hx
  | global g => simpa [ev, Act.eval] using hx
  | func f => simpa [ev, Act.eval] using hx
theorem Knows.evals {n : Nat} {l : Fm} {a : Act} (h : Knows n l a) : ∀ {xs : List Operand} {vs : List Value}, evs l xs = some vs → xs.map a.eval = vs
  | [], vs, hx => by simp [evs] at hx; simp [hx]
  | x :: r, vs, hx => by
    simp only [evs] at hx
    split at hx
    · rename_i v hv
      split at hx
      · rename_i ws hw
        simp only [Option.some.injEq] at hx
        subst hx
        simp [h.eval hv, h.evals hw]
      · cases hx
    · cases hx
theorem Knows.evalsA {n : Nat} {l : Fm} {a : Act} (h : Knows n l a) {xs : Array Operand} {vs : List Value} (hx : evs l xs.toList = some vs) : xs.map a.eval = vs.toArray := by
  have := h.evals hx
  apply Array.ext'
  simpa using this
theorem Knows.put {n : Nat} {l : Fm} {a : Act} (h : Knows n l a) {d : Nat} (hd : Nat.blt d n = true) (v : Value) : Knows n ((d, v) :: l) (a.put (some d) v) := by
  have hd' : d < n := Nat.blt_eq ▸ hd
  refine ⟨by simp [Act.put, h.size], h.defers, fun i u hi => ?_⟩
  simp only [lk] at hi
  by_cases e : d = i
  · subst e
    simp at hi
    subst hi
    simp [Act.put, h.size, hd']
  · have : Nat.beq d i = false := by cases hb : Nat.beq d i with | false => rfl | true => exact absurd (Nat.eq_of_beq_eq_true hb) e
    rw [this] at hi
    simp only [cond_false] at hi
    simp [Act.put, e, h.at_ i u hi]
theorem Knows.mono {n : Nat} {l l' : Fm} {a : Act} (h : Knows n l a) (hs : ∀ i v, lk l' i = some v → lk l i = some v) : Knows n l' a := ⟨h.size, h.defers, fun i v hi => h.at_ i v (hs i v hi)⟩
/-- Each entry of the first is what the second knows. -/
def subF : Fm → Fm → Prop
  | [], _ => True
  | p :: r, l => lk l p.1 = some p.2 ∧ subF r l
theorem subF.lk : ∀ {l' l : Fm}, subF l' l → ∀ i v, lk l' i = some v → lk l i = some v
  | [], _, _, i, v, h => by simp [Eng.lk] at h
  | p :: r, l, hs, i, v, h => by
    simp only [Eng.lk] at h
    by_cases e : p.1 = i
    · subst e
      simp at h
      subst h
      exact hs.1
    · have : Nat.beq p.1 i = false := by cases hb : Nat.beq p.1 i with | false => rfl | true => exact absurd (Nat.eq_of_beq_eq_true hb) e
      rw [this] at h
      exact hs.2.lk i v h
theorem Knows.sub {n : Nat} {l l' : Fm} {a : Act} (h : Knows n l a) (hs : subF l' l) : Knows n l' a := h.mono hs.lk
def initF : Nat → List Value → Fm
  | _, [] => []
  | k, v :: r => (k, v) :: initF (k + 1) r
theorem lk_initF : ∀ (vs : List Value) (k i : Nat) (v : Value), lk (initF k vs) i = some v → k ≤ i ∧ vs[i - k]? = some v
  | [], _, _, _, h => by simp [initF, lk] at h
  | u :: r, k, i, v, h => by
    simp only [initF, lk] at h
    by_cases e : k = i
    · subst e
      simp at h
      simp [h]
    · have : Nat.beq k i = false := by cases hb : Nat.beq k i with | false => rfl | true => exact absurd (Nat.eq_of_beq_eq_true hb) e
      rw [this] at h
      obtain ⟨h1, h2⟩ := lk_initF r (k + 1) i v h
      refine ⟨by omega, ?_⟩
      have : i - k = (i - (k + 1)) + 1 := by omega
      rw [this]; simpa using h2
theorem Knows.init (n : Nat) (vs : List Value) (hn : Nat.ble vs.length n = true) : Knows n (initF 0 vs) { tmps := vs.toArray ++ Array.replicate (n - vs.toArray.size) undef, defers := [] } := by
  have hn' : vs.length ≤ n := Nat.le_of_ble_eq_true hn
  refine ⟨by simp; omega, rfl, fun i v h => ?_⟩
  obtain ⟨_, h2⟩ := lk_initF vs 0 i v h
  simp only [Nat.sub_zero] at h2
  have : i < vs.length := (List.getElem?_eq_some_iff.1 h2).1
  simp only [Array.getElem?_append, List.size_toArray, this, if_true]
  simpa using h2

/-! ### worlds -/
abbrev GH := Nat → Option Obj
def HLe (H H' : GH) : Prop := ∀ b o, H b = some o → H' b = some o
theorem HLe.refl (H : GH) : HLe H H := fun _ _ h => h
theorem HLe.trans {a b c : GH} (h : HLe a b) (k : HLe b c) : HLe a c := fun x o e => k x o (h x o e)

/-- What is owned: a block; or a slice's row, whose value is nil or begins at the head of a block. -/
inductive Ent where
  | blk (g : Nat) (o : Obj)
  | row (T k : Nat) (A : Option Addr) (c : Nat) (xss : List (List Value))
def Ent.ids : Ent → List Nat
  | .blk g _ => [g]
  | .row _ _ (some a) _ _ => [a.block]
  | .row _ _ none _ _ => []
def Ent.ok (W : World) : Ent → Prop
  | .blk g o => W.heap[g]? = some o
  | .row T k none c xss => xss = [] ∧ c = 0
  | .row T k (some a) c xss => (∀ xs ∈ xss, xs.length = k) ∧ a.off = 0 ∧ a.spot = none ∧ xss.length ≤ c ∧ c ≤ maxLen ∧ ∃ rest : List Value, (xss.flatten ++ rest).length = c * k ∧ W.heap[a.block]? = some (.cells (xss.flatten ++ rest).toArray T (0, 0))
theorem Ent.ok_same {W W' : World} : ∀ {e : Ent}, (∀ b ∈ e.ids, W'.heap[b]? = W.heap[b]?) → e.ok W → e.ok W'
  | .blk g o, h, k => by
    have := h g (by simp [Ent.ids])
    simp only [Ent.ok] at *
    rw [this]; exact k
  | .row _ _ none _ _, _, k => k
  | .row _ _ (some a) _ _, h, ⟨h1, h2, h3, h4, h5, rest, hl, k⟩ => ⟨h1, h2, h3, h4, h5, rest, hl, by rw [h a.block (by simp [Ent.ids])]; exact k⟩
theorem Ent.lt {W : World} : ∀ {e : Ent}, e.ok W → ∀ b ∈ e.ids, b < W.heap.size
  | .blk g o, k, b, hb => by
    simp [Ent.ids] at hb; subst hb
    exact (Array.getElem?_eq_some_iff.1 k).1
  | .row _ _ none _ _, _, b, hb => by simp [Ent.ids] at hb
  | .row _ _ (some a) _ _, ⟨_, _, _, _, _, _, _, k⟩, b, hb => by
    simp [Ent.ids] at hb; subst hb
    exact (Array.getElem?_eq_some_iff.1 k).1

abbrev OL := List Ent
def idsOf (L : OL) : List Nat := L.flatMap Ent.ids

structure St (w0 : World) (ids : List Nat) (H : GH) (L : OL) (W : World) : Prop where
  os : W.os = w0.os
  tape : W.tape = w0.tape
  output : W.output = w0.output
  size : w0.heap.size ≤ W.heap.size
  keep : ∀ b, b < w0.heap.size → b ∉ ids → W.heap[b]? = w0.heap[b]?
  own : ∀ e ∈ L, e.ok W
  nd : (idsOf L).Nodup
  sep : ∀ b ∈ idsOf L, H b = none
  new : ∀ b ∈ idsOf L, b ∈ ids ∨ w0.heap.size ≤ b
  imm : ∀ b o, H b = some o → W.heap[b]? = some o

theorem St.drawn {w0 : World} {ids : List Nat} {H : GH} {L : OL} {W : World} (h : St w0 ids H L W) (k : Nat) : St w0 ids H L { W with drawn := k } :=
  ⟨h.os, h.tape, h.output, h.size, h.keep, fun e he => Ent.ok_same (fun _ _ => rfl) (h.own e he), h.nd, h.sep, h.new, h.imm⟩
theorem St.hlt {w0 : World} {ids : List Nat} {H : GH} {L : OL} {W : World} (h : St w0 ids H L W) {b : Nat} {o : Obj} (hb : H b = some o) : b < W.heap.size := (Array.getElem?_eq_some_iff.1 (h.imm b o hb)).1
theorem St.lt {w0 : World} {ids : List Nat} {H : GH} {L : OL} {W : World} (h : St w0 ids H L W) {b : Nat} (hb : b ∈ idsOf L) : b < W.heap.size := by
  obtain ⟨e, he, hb⟩ := List.mem_flatMap.1 hb
  exact Ent.lt (h.own e he) b hb
/-- The world is another one, in which all that is owned or stays is as it was, but that some entries have turned and some have come. -/
theorem St.step {w0 : World} {ids : List Nat} {H : GH} {L : OL} {W : World} (h : St w0 ids H L W) {W' : World} {L' : OL} (hos : W'.os = W.os) (htape : W'.tape = W.tape) (hout : W'.output = W.output) (hsize : W.heap.size ≤ W'.heap.size)
    (hkeep : ∀ b, b < W.heap.size → b ∉ idsOf L → W'.heap[b]? = W.heap[b]?) (hown : ∀ e ∈ L', e.ok W') (hnd : (idsOf L').Nodup) (hnew : ∀ b ∈ idsOf L', b ∈ idsOf L ∨ W.heap.size ≤ b) : St w0 ids H L' W' := by
  have hnot : ∀ b o, H b = some o → b ∉ idsOf L := fun b o hb hm => by rw [h.sep b hm] at hb; cases hb
  refine ⟨hos.trans h.os, htape.trans h.tape, hout.trans h.output, Nat.le_trans h.size hsize, fun b hb hn => ?_, hown, hnd, fun b hb => ?_, fun b hb => ?_, fun b o hb => ?_⟩
  · rw [hkeep b (Nat.lt_of_lt_of_le hb h.size) fun hm => ?_]
    · exact h.keep b hb hn
    · rcases h.new b hm with h1 | h1
      · exact hn h1
      · omega
  · rcases hnew b hb with h1 | h1
    · exact h.sep b h1
    · cases e : H b with
      | none => rfl
      | some o => have := h.hlt e; omega
  · rcases hnew b hb with h1 | h1
    · exact h.new b h1
    · exact .inr (Nat.le_trans h.size h1)
  · rw [hkeep b (h.hlt hb) (hnot b o hb)]; exact h.imm b o hb
theorem St.alloc {w0 : World} {ids : List Nat} {H : GH} {L : OL} {W : World} (h : St w0 ids H L W) (o : Obj) : St w0 ids H (.blk W.heap.size o :: L) { W with heap := W.heap.push o } := by
  have hold : ∀ b, b < W.heap.size → (W.heap.push o)[b]? = W.heap[b]? := fun b hb => by rw [Array.getElem?_push, if_neg (by omega)]
  refine h.step rfl rfl rfl (by simp) (fun b hb _ => hold b hb) (fun e he => ?_) ?_ fun b hb => ?_
  · rcases List.mem_cons.1 he with rfl | he
    · simp [Ent.ok]
    · exact Ent.ok_same (fun b hb => hold b (Ent.lt (h.own e he) b hb)) (h.own e he)
  · simp only [idsOf, List.flatMap_cons, Ent.ids, List.singleton_append, List.nodup_cons]
    exact ⟨fun hm => Nat.lt_irrefl _ (h.lt hm), h.nd⟩
  · simp only [idsOf, List.flatMap_cons, Ent.ids, List.singleton_append, List.mem_cons] at hb
    rcases hb with rfl | hb
    · exact .inr (Nat.le_refl _)
    · exact .inl hb
/-- An entry is turned, its block stays. -/
theorem St.turn {w0 : World} {ids : List Nat} {H : GH} {L1 L2 : OL} {e e' : Ent} {W : World} (h : St w0 ids H (L1 ++ e :: L2) W) {W' : World} (hos : W'.os = W.os) (htape : W'.tape = W.tape) (hout : W'.output = W.output) (hsize : W.heap.size ≤ W'.heap.size)
    (hother : ∀ b, b < W.heap.size → b ∉ e.ids → W'.heap[b]? = W.heap[b]?) (hok : e'.ok W') (hids : e'.ids = e.ids ∨ ∃ b, e'.ids = [b] ∧ W.heap.size ≤ b) : St w0 ids H (L1 ++ e' :: L2) W' := by
  have hnd := h.nd
  simp only [idsOf, List.flatMap_append, List.flatMap_cons] at hnd
  have hdis : ∀ f : Ent, f ∈ L1 ∨ f ∈ L2 → ∀ b ∈ f.ids, b ∉ e.ids := by
    intro f hf b hb hbe
    rw [List.nodup_append] at hnd
    obtain ⟨n1, n2, n3⟩ := hnd
    rw [List.nodup_append] at n2
    obtain ⟨m1, m2, m3⟩ := n2
    rcases hf with hf | hf
    · exact n3 b (List.mem_flatMap.2 ⟨f, hf, hb⟩) b (List.mem_append_left _ hbe) rfl
    · exact m3 b hbe b (List.mem_flatMap.2 ⟨f, hf, hb⟩) rfl
  have hmem : ∀ f : Ent, f ∈ L1 ∨ f ∈ L2 → f ∈ L1 ++ e :: L2 := by
    intro f hf; simp; rcases hf with hf | hf <;> simp [hf]
  refine h.step hos htape hout hsize (fun b hb hn => hother b hb fun hbe => hn ?_) (fun f hf => ?_) ?_ fun b hb => ?_
  · simp only [idsOf, List.flatMap_append, List.flatMap_cons, List.mem_append]; exact .inr (.inl hbe)
  · simp only [List.mem_append, List.mem_cons] at hf
    rcases hf with hf | rfl | hf
    · exact Ent.ok_same (fun b hb => hother b (Ent.lt (h.own f (hmem f (.inl hf))) b hb) (hdis f (.inl hf) b hb)) (h.own f (hmem f (.inl hf)))
    · exact hok
    · exact Ent.ok_same (fun b hb => hother b (Ent.lt (h.own f (hmem f (.inr hf))) b hb) (hdis f (.inr hf) b hb)) (h.own f (hmem f (.inr hf)))
  · simp only [idsOf, List.flatMap_append, List.flatMap_cons]
    rcases hids with hids | ⟨g, hids, hg⟩
    · rw [hids]; exact hnd
    · rw [hids]
      have hlt : ∀ b, b ∈ idsOf (L1 ++ e :: L2) → b < W.heap.size := fun b hb => h.lt hb
      simp only [idsOf, List.flatMap_append, List.flatMap_cons, List.mem_append] at hlt
      rw [List.nodup_append] at hnd ⊢
      obtain ⟨n1, n2, n3⟩ := hnd
      rw [List.nodup_append] at n2
      obtain ⟨m1, m2, m3⟩ := n2
      refine ⟨n1, ?_, ?_⟩
      · simp only [List.singleton_append, List.nodup_cons]
        exact ⟨fun hm => by have := hlt g (.inr (.inr hm)); omega, m2⟩
      · intro a ha b hb e
        subst e
        simp only [List.singleton_append, List.mem_cons] at hb
        rcases hb with rfl | hb
        · have := hlt a (.inl ha); omega
        · exact n3 a ha a (List.mem_append_right _ hb) rfl
  · simp only [idsOf, List.flatMap_append, List.flatMap_cons, List.mem_append] at hb ⊢
    rcases hb with hb | hb | hb
    · exact .inl (.inl hb)
    · rcases hids with hids | ⟨g, hids, hg⟩
      · rw [hids] at hb; exact .inl (.inr (.inl hb))
      · rw [hids] at hb; simp at hb; subst hb; exact .inr hg
    · exact .inl (.inr (.inr hb))
theorem idsOf_sublist {L L' : OL} (hs : L'.Sublist L) : (idsOf L').Sublist (idsOf L) := by
  induction hs with
  | slnil => exact .slnil
  | cons a _ ih => simp only [idsOf, List.flatMap_cons]; exact ih.trans (List.sublist_append_right _ _)
  | cons_cons a _ ih => simp only [idsOf, List.flatMap_cons]; exact List.Sublist.append (List.Sublist.refl _) ih
theorem St.drop {w0 : World} {ids : List Nat} {H : GH} {L L' : OL} {W : World} (h : St w0 ids H L W) (hs : L'.Sublist L) : St w0 ids H L' W := by
  have hsub : (idsOf L').Sublist (idsOf L) := idsOf_sublist hs
  exact ⟨h.os, h.tape, h.output, h.size, h.keep, fun e he => h.own e (hs.subset he), h.nd.sublist hsub, fun b hb => h.sep b (hsub.subset hb), fun b hb => h.new b (hsub.subset hb), h.imm⟩
theorem St.perm {w0 : World} {ids : List Nat} {H : GH} {L L' : OL} {W : World} (h : St w0 ids H L W) (hs : L.Perm L') : St w0 ids H L' W := by
  have hp : (idsOf L).Perm (idsOf L') := List.Perm.flatMap_right _ hs
  exact ⟨h.os, h.tape, h.output, h.size, h.keep, fun e he => h.own e (hs.symm.subset he), hp.nodup h.nd, fun b hb => h.sep b (hp.symm.subset hb), fun b hb => h.new b (hp.symm.subset hb), h.imm⟩

/-- How the ghost may grow: nothing is lost, what is new lies in blocks that came behind. -/
structure Grow (w0 : World) (H H' : GH) : Prop where
  le : HLe H H'
  new : ∀ b, H' b ≠ none → H b ≠ none ∨ w0.heap.size ≤ b
theorem Grow.refl (w0 : World) (H : GH) : Grow w0 H H := ⟨HLe.refl H, fun _ h => .inl h⟩
theorem Grow.trans {w0 w1 : World} {a b c : GH} (h : Grow w0 a b) (hs : w0.heap.size ≤ w1.heap.size) (k : Grow w1 b c) : Grow w0 a c :=
  ⟨h.le.trans k.le, fun x hx => by
    rcases k.new x hx with h1 | h1
    · exact h.new x h1
    · exact .inr (Nat.le_trans hs h1)⟩
/-- What a row of one's own holds stays from now on. -/
theorem St.freeze {w0 : World} {ids : List Nat} {H : GH} {L1 L2 : OL} {e : Ent} {W : World} (h : St w0 ids H (L1 ++ e :: L2) W) (hn : ∀ b ∈ e.ids, w0.heap.size ≤ b) :
    ∃ H' : GH, Grow w0 H H' ∧ St w0 ids H' (L1 ++ L2) W ∧ (∀ b ∈ e.ids, H' b = W.heap[b]?) := by
  refine ⟨fun b => if b ∈ e.ids then W.heap[b]? else H b, ⟨fun b o hb => ?_, fun b hb => ?_⟩, ?_, fun b hb => by simp [hb]⟩
  · by_cases hm : b ∈ e.ids
    · simp only [hm, if_true]; exact h.imm b o hb
    · simp only [hm, if_false]; exact hb
  · by_cases hm : b ∈ e.ids
    · exact .inr (hn b hm)
    · simp only [hm, if_false] at hb; exact .inl hb
  · have hs : (L1 ++ L2).Sublist (L1 ++ e :: L2) := List.Sublist.append (List.Sublist.refl _) (List.sublist_cons_self _ _)
    have hd := h.drop hs
    refine ⟨hd.os, hd.tape, hd.output, hd.size, hd.keep, hd.own, hd.nd, fun b hb => ?_, hd.new, fun b o hb => ?_⟩
    · have hnot : b ∉ e.ids := by
        intro hbe
        have hnd := h.nd
        simp only [idsOf, List.flatMap_append, List.flatMap_cons] at hnd hb
        rw [List.nodup_append] at hnd
        obtain ⟨n1, n2, n3⟩ := hnd
        rw [List.nodup_append] at n2
        obtain ⟨m1, m2, m3⟩ := n2
        rcases List.mem_append.1 hb with hb | hb
        · exact n3 b hb b (List.mem_append_left _ hbe) rfl
        · exact m3 b hbe b hb rfl
      simp only [hnot, if_false]; exact hd.sep b hb
    · by_cases hm : b ∈ e.ids
      · simp only [hm, if_true] at hb; exact hb
      · simp only [hm, if_false] at hb; exact h.imm b o hb
end Go.Eng
set_option linter.unusedVariables false
set_option linter.unusedSimpArgs false
namespace Go.Eng
open Go

structure Fx where
  n : Nat
  w0 : World
  ids : List Nat

abbrev Post := Exit → Act → World → Prop
def WPE (F : Fx) (Q : Post) (e : Exit) (l : Fm) (H : GH) (L : OL) : Prop := ∀ a W, Knows F.n l a → St F.w0 F.ids H L W → Q e a W
def WPC (P : Program) (F : Fx) (Q : Post) (c : Code) (l : Fm) (H : GH) (L : OL) : Prop := ∀ a W, Knows F.n l a → St F.w0 F.ids H L W → c.wp P Q a W
def WPL (P : Program) (F : Fx) (Q : Post) (ops : Array Oper) (rest : List Oper) (l : Fm) (H : GH) (L : OL) : Prop := ∀ a W, Knows F.n l a → St F.w0 F.ids H L W → wpList P ops Q rest a W
/-- A region that draws, all of whose operations are quiet. -/
def WPQ (P : Program) (F : Fx) (ops : Array Oper) (Q : Post) (rest : List Oper) (l : Fm) (H : GH) (L : OL) : Prop := ∀ a, Knows F.n l a → wpQuiet P ops (St F.w0 F.ids H L) (fun a' => ∀ W', St F.w0 F.ids H L W' → Q .normal a' W') rest a

variable {P : Program} {F : Fx} {Q : Post} {l : Fm} {H : GH} {L : OL}

/-! ### code -/
def ThenP (P : Program) (y : Code) (Q : Post) : Post := Exit.then (y.wp P Q) Q
def BlockP (i : Nat) (Q : Post) : Post := Exit.inBlock i Q
theorem wpc_seq {x y : Code} (h : WPC P F (ThenP P y Q) x l H L) : WPC P F Q (.seq x y) l H L := fun a W ha hW => wp_seq (h a W ha hW)
theorem wpe_seq {y : Code} (h : WPC P F Q y l H L) : WPE F (ThenP P y Q) .normal l H L := h
theorem wpe_then_exit {y : Code} {i : Nat} (h : WPE F Q (.exit i) l H L) : WPE F (ThenP P y Q) (.exit i) l H L := h
theorem wpe_then_ret {y : Code} (h : WPE F Q .ret l H L) : WPE F (ThenP P y Q) .ret l H L := h
theorem wpe_then_goto {y : Code} {i : Nat} (h : WPE F Q (.goto i) l H L) : WPE F (ThenP P y Q) (.goto i) l H L := h
theorem wpe_block {i : Nat} (h : WPE F Q .normal l H L) : WPE F (BlockP i Q) .normal l H L := h
theorem wpe_block_ret {i : Nat} (h : WPE F Q .ret l H L) : WPE F (BlockP i Q) .ret l H L := h
theorem wpe_block_goto {i j : Nat} (h : WPE F Q (.goto j) l H L) : WPE F (BlockP i Q) (.goto j) l H L := h
theorem wpe_block_eq {i : Nat} (h : WPE F Q .normal l H L) : WPE F (BlockP i Q) (.exit i) l H L := fun a W ha hW => by simp only [BlockP, Exit.inBlock, if_true]; exact h a W ha hW
theorem wpe_block_ne {i j : Nat} (hne : Nat.beq j i = false) (h : WPE F Q (.exit j) l H L) : WPE F (BlockP i Q) (.exit j) l H L := fun a W ha hW => by
  have : j ≠ i := fun e => by subst e; rw [Nat.beq_refl] at hne; cases hne
  simp only [BlockP, Exit.inBlock, this, if_false]; exact h a W ha hW
theorem wpc_block {i : Nat} {c : Code} (h : WPC P F (BlockP i Q) c l H L) : WPC P F Q (.block i c) l H L := fun a W ha hW => wp_block (h a W ha hW)
theorem wpc_skip (h : WPE F Q .normal l H L) : WPC P F Q .skip l H L := fun a W ha hW => wp_skip (h a W ha hW)
theorem wpc_label {i : Nat} (h : WPE F Q .normal l H L) : WPC P F Q (.label i) l H L := fun a W ha hW => wp_label (h a W ha hW)
theorem wpc_exit {i : Nat} (h : WPE F Q (.exit i) l H L) : WPC P F Q (.exit i) l H L := fun a W ha hW => wp_exit (h a W ha hW)
theorem wpc_goto {i : Nat} (h : WPE F Q (.goto i) l H L) : WPC P F Q (.goto i) l H L := fun a W ha hW => wp_goto (h a W ha hW)
theorem wpc_ret (h : WPE F Q .ret l H L) : WPC P F Q .ret l H L := fun a W ha hW => wp_ret (h a W ha hW)
theorem wpc_cond {c : Operand} {x y : Code} {b : Bool} (hc : ev l c = some (.bool b)) (ht : b = true → WPC P F Q x l H L) (hf : b = false → WPC P F Q y l H L) : WPC P F Q (.cond c x y) l H L :=
  fun a W ha hW => wp_cond_split (ha.eval hc) (fun h => ht h a W ha hW) (fun h => hf h a W ha hW)
theorem wpc_cond_true {c : Operand} {x y : Code} (hc : ev l c = some (.bool true)) (ht : WPC P F Q x l H L) : WPC P F Q (.cond c x y) l H L :=
  fun a W ha hW => wp_cond_true (ha.eval hc) (ht a W ha hW)
theorem wpc_cond_false {c : Operand} {x y : Code} (hc : ev l c = some (.bool false)) (hf : WPC P F Q y l H L) : WPC P F Q (.cond c x y) l H L :=
  fun a W ha hW => wp_cond_false (ha.eval hc) (hf a W ha hW)
theorem wpc_region {i : Nat} {ops : Array Oper} (h : WPL P F Q ops ops.toList l H L) : WPC P F Q (.region i ops false) l H L := fun a W ha hW => wp_region_list (h a W ha hW)
theorem wpc_quiet {i : Nat} {ops : Array Oper} (hm : P.follows .mixedOrders = true) (hB : Region.lexB .any ops = true) (h : WPQ P F ops Q ops.toList l H L) : WPC P F Q (.region i ops true) l H L :=
  fun a W ha hW => wp_region_quiet hm hB (hW.drawn _) (h a ha)
theorem wpc_scope0 {c : Code} (h : WPC P F (Exit.noGoto Q) c l H L) : WPC P F Q (.scope c) l H L := fun a W ha hW => wp_scope_straight (h a W ha hW)
def ScopeP (Q : Post) : Post := Exit.noGoto Q
theorem wpc_scope {c : Code} (h : WPC P F (ScopeP Q) c l H L) : WPC P F Q (.scope c) l H L := wpc_scope0 h
theorem wpe_scope (h : WPE F Q .normal l H L) : WPE F (ScopeP Q) .normal l H L := h
theorem wpe_scope_exit {i : Nat} (h : WPE F Q (.exit i) l H L) : WPE F (ScopeP Q) (.exit i) l H L := h
theorem wpe_scope_ret (h : WPE F Q .ret l H L) : WPE F (ScopeP Q) .ret l H L := h
theorem wpl_nil {ops : Array Oper} (h : WPE F Q .normal l H L) : WPL P F Q ops [] l H L := h
theorem wpq_nil {ops : Array Oper} (h : WPE F Q .normal l H L) : WPQ P F ops Q [] l H L := fun a ha => wpQuiet_nil (fun W' hW' => h a W' ha hW')
/-- Less is known, less is owned. -/
theorem wpc_less {c : Code} {l' : Fm} {L' : OL} (hl : subF l' l) (hL : L'.Sublist L) (h : WPC P F Q c l' H L') : WPC P F Q c l H L := fun a W ha hW => h a W (ha.sub hl) (hW.drop hL)
theorem wpe_less {e : Exit} {l' : Fm} {L' : OL} (hl : subF l' l) (hL : L'.Sublist L) (h : WPE F Q e l' H L') : WPE F Q e l H L := fun a W ha hW => h a W (ha.sub hl) (hW.drop hL)

/-! ### guards -/
def Wants (ops : Array Oper) (l : Fm) (o : Oper) (t : Bool) : Prop := ∀ n a, Knows n l a → Region.wanted o (yielded ops a.tmps) = t
theorem wants_none {ops : Array Oper} {o : Oper} (h : o.guard = none) : Wants ops l o true := fun n a ha => by simp [Region.wanted, h]
theorem wants_some {ops : Array Oper} {o : Oper} {j d : Nat} {want b : Bool} (h : o.guard = some (j, want)) (hd : (ops[j]?).bind (·.dst) = some d) (hb : lk l d = some (.bool b)) : Wants ops l o (b == want) := fun n a ha => by
  simp [Region.wanted, h, yielded, hd, ha.at_ d _ hb]

theorem wants_tt {ops : Array Oper} {o : Oper} {j d : Nat} (h : o.guard = some (j, true)) (hd : (ops[j]?).bind (·.dst) = some d) (hb : lk l d = some (.bool true)) : Wants ops l o true := wants_some h hd hb
theorem wants_ff {ops : Array Oper} {o : Oper} {j d : Nat} (h : o.guard = some (j, false)) (hd : (ops[j]?).bind (·.dst) = some d) (hb : lk l d = some (.bool false)) : Wants ops l o true := wants_some h hd hb
theorem wants_tf {ops : Array Oper} {o : Oper} {j d : Nat} (h : o.guard = some (j, true)) (hd : (ops[j]?).bind (·.dst) = some d) (hb : lk l d = some (.bool false)) : Wants ops l o false := wants_some h hd hb
theorem wants_ft {ops : Array Oper} {o : Oper} {j d : Nat} (h : o.guard = some (j, false)) (hd : (ops[j]?).bind (·.dst) = some d) (hb : lk l d = some (.bool true)) : Wants ops l o false := wants_some h hd hb

theorem wants_uu {ops : Array Oper} {o : Oper} {j d : Nat} {want : Bool} (h : o.guard = some (j, want)) (hd : (ops[j]?).bind (·.dst) = some d) (hb : lk l d = some undef) : Wants ops l o false := fun n a ha => by
  simp [Region.wanted, h, yielded, hd, ha.at_ d _ hb, undef]

/-! ### steps -/
def Hs (H : GH) (L : OL) (W : World) : Prop := (∀ e ∈ L, e.ok W) ∧ ∀ b o, H b = some o → W.heap[b]? = some o
theorem St.hs {w0 : World} {ids : List Nat} {W : World} (h : St w0 ids H L W) : Hs H L W := ⟨h.own, h.imm⟩
/-- In every such world the operation has this value, and does nothing else. -/
def YStep (P : Program) (n : Nat) (l : Fm) (H : GH) (L : OL) (o : Oper) (v : Value) : Prop := ∀ a, Knows n l a → ∀ W, Hs H L W → (execOp a.eval o).run P W = .ok (.value v) W
/-- In every such world the operation has this value, and leaves such a world. -/
def QStep (P : Program) (F : Fx) (l : Fm) (H : GH) (L : OL) (o : Oper) (v : Value) : Prop := ∀ a, Knows F.n l a → ∀ W, St F.w0 F.ids H L W → o.quietAt P a (St F.w0 F.ids H L) W v
theorem YStep.q {o : Oper} {v : Value} (h : YStep P F.n l H L o v) : QStep P F l H L o v := fun a ha W hW => by
  unfold Oper.quietAt; rw [h a ha W hW.hs]; exact ⟨rfl, rfl⟩
theorem Oper.wp_of_quietAt {o : Oper} {a : Act} {C : World → Prop} {W : World} {v : Value} (h : o.quietAt P a C W v) {K : Act → World → Prop} (hK : ∀ W', C W' → K (a.put o.dst v) W') (hC : C W) : o.wp P a W K Q := by
  unfold Oper.quietAt at h
  unfold Oper.wp
  generalize (execOp a.eval o).run P W = r at *
  cases r with
  | ok x w' =>
    cases x <;> simp only [Oper.quietUpon] at h <;> simp only [Oper.upon]
    case value u => obtain ⟨rfl, rfl⟩ := h; exact hK _ hC
    case skip => obtain ⟨rfl, rfl⟩ := h; exact hK _ hC
    case enter f args =>
      obtain ⟨rfl, h⟩ := h
      refine h.mono fun e w'' he => ?_
      obtain ⟨rfl, hc⟩ := he
      exact hK _ hc
  | halt x w' => simp only [Oper.quietUpon] at h
abbrev upd (l : Fm) (d : Option Nat) (v : Value) : Fm := match d with
  | some d => (d, v) :: l
  | none => l
theorem Knows.upd {n : Nat} {a : Act} (h : Knows n l a) {d : Option Nat} (hd : (match d with | some d => Nat.blt d n | none => true) = true) (v : Value) : Knows n (Eng.upd l d v) (a.put d v) := by
  cases d with
  | none => exact h
  | some d => exact h.put hd v
theorem wpl_q {ops : Array Oper} {o : Oper} {rest : List Oper} {v : Value} (hs : QStep P F l H L o v) (hw : Wants ops l o true) (hd : (match o.dst with | some d => Nat.blt d F.n | none => true) = true)
    (h : WPL P F Q ops rest (upd l o.dst v) H L) : WPL P F Q ops (o :: rest) l H L := fun a W ha hW => by
  unfold wpList
  rw [hw F.n a ha, if_pos rfl]
  exact .inl (Oper.wp_of_quietAt (hs a ha W hW) (fun W' hW' => h _ W' (ha.upd hd v) hW') hW)
theorem wpq_q {ops : Array Oper} {o : Oper} {rest : List Oper} {v : Value} (hs : QStep P F l H L o v) (hw : Wants ops l o true) (hd : (match o.dst with | some d => Nat.blt d F.n | none => true) = true)
    (h : WPQ P F ops Q rest (upd l o.dst v) H L) : WPQ P F ops Q (o :: rest) l H L := fun a ha => by
  unfold wpQuiet
  rw [hw F.n a ha, if_pos rfl]
  exact ⟨v, fun W hW => hs a ha W hW, h _ (ha.upd hd v)⟩
theorem wpl_y {ops : Array Oper} {op : Op} {ty d : Nat} {pos : String} {after : Array Edge} {rest : List Oper} {v : Value} (hs : QStep P F l H L ⟨some d, op, ty, pos, after, none⟩ v) (hd : Nat.blt d F.n = true)
    (h : WPL P F Q ops rest ((d, v) :: l) H L) : WPL P F Q ops (⟨some d, op, ty, pos, after, none⟩ :: rest) l H L := wpl_q hs (wants_none rfl) hd h
theorem wpq_y {ops : Array Oper} {op : Op} {ty d : Nat} {pos : String} {after : Array Edge} {rest : List Oper} {v : Value} (hs : QStep P F l H L ⟨some d, op, ty, pos, after, none⟩ v) (hd : Nat.blt d F.n = true)
    (h : WPQ P F ops Q rest ((d, v) :: l) H L) : WPQ P F ops Q (⟨some d, op, ty, pos, after, none⟩ :: rest) l H L := wpq_q hs (wants_none rfl) hd h
theorem wpl_skip {ops : Array Oper} {o : Oper} {rest : List Oper} (hw : Wants ops l o false) (hd : (match o.dst with | some d => Nat.blt d F.n | none => true) = true)
    (h : WPL P F Q ops rest (upd l o.dst undef) H L) : WPL P F Q ops (o :: rest) l H L := fun a W ha hW => by
  unfold wpList
  rw [hw F.n a ha, if_neg (by simp)]
  exact h _ W (ha.upd hd undef) hW
theorem wpq_skip {ops : Array Oper} {o : Oper} {rest : List Oper} (hw : Wants ops l o false) (hd : (match o.dst with | some d => Nat.blt d F.n | none => true) = true)
    (h : WPQ P F ops Q rest (upd l o.dst undef) H L) : WPQ P F ops Q (o :: rest) l H L := fun a ha => by
  unfold wpQuiet
  rw [hw F.n a ha, if_neg (by simp)]
  exact h _ (ha.upd hd undef)
/-- A slot's bool is parted on. -/
theorem Knows.isBool {n : Nat} {a : Act} (h : Knows n l a) {d : Nat} {b t : Bool} (hb : lk l d = some (.bool b)) (e : b = t) : Knows n ((d, .bool t) :: l) a := by
  subst e
  refine ⟨h.size, h.defers, fun i v hi => ?_⟩
  simp only [lk] at hi
  by_cases e : d = i
  · subst e
    simp at hi
    subst hi
    exact h.at_ d _ hb
  · have : Nat.beq d i = false := by cases hb : Nat.beq d i with | false => rfl | true => exact absurd (Nat.eq_of_beq_eq_true hb) e
    rw [this] at hi
    exact h.at_ i v hi
theorem wpl_split {ops : Array Oper} {rest : List Oper} (d : Nat) {b : Bool} (hb : lk l d = some (.bool b)) (ht : b = true → WPL P F Q ops rest ((d, .bool true) :: l) H L) (hf : b = false → WPL P F Q ops rest ((d, .bool false) :: l) H L) :
    WPL P F Q ops rest l H L := fun a W ha hW => by
  cases e : b with
  | true => exact ht e a W (ha.isBool hb e) hW
  | false => exact hf e a W (ha.isBool hb e) hW
theorem wpq_split {ops : Array Oper} {rest : List Oper} (d : Nat) {b : Bool} (hb : lk l d = some (.bool b)) (ht : b = true → WPQ P F ops Q rest ((d, .bool true) :: l) H L) (hf : b = false → WPQ P F ops Q rest ((d, .bool false) :: l) H L) :
    WPQ P F ops Q rest l H L := fun a ha => by
  cases e : b with
  | true => exact ht e a (ha.isBool hb e)
  | false => exact hf e a (ha.isBool hb e)
/-- Where nothing can come: a fact that is false. -/
theorem wpc_absurd {c : Code} (h : False) : WPC P F Q c l H L := h.elim

/-! ### plain operations -/
def IntKind.same : IntKind → IntKind → Bool
  | .i64, .i64 | .i32, .i32 | .i16, .i16 | .i8, .i8 | .u64, .u64 | .u32, .u32 | .u16, .u16 | .u8, .u8 => true
  | _, _ => false
theorem IntKind.same_eq : ∀ {a b : IntKind}, IntKind.same a b = true → a = b := by
  intro a b; cases a <;> cases b <;> simp [IntKind.same]
/-- A test's outcome, which is not looked into. -/
def tst (b : Bool) : Bool := b
theorem tst_eq (b : Bool) : tst b = b := rfl
def plainInt (op : BinOp) (k : IntKind) (a b : Int) : Option Value :=
  match op with
  | .add => some (.int k (k.wrap (a + b)))
  | .sub => some (.int k (k.wrap (a - b)))
  | .mul => some (.int k (k.wrap (a * b)))
  | .eql => some (.bool (tst (decide (a = b))))
  | .neq => some (.bool (tst (decide (¬ a = b))))
  | .lss => some (.bool (tst (decide (a < b))))
  | .leq => some (.bool (tst (decide (a ≤ b))))
  | .gtr => some (.bool (tst (decide (b < a))))
  | .geq => some (.bool (tst (decide (b ≤ a))))
  | _ => none
def plainStr (op : BinOp) (a b : ByteArray) : Option Value :=
  match op with
  | .eql => some (.bool (tst (decide (a = b))))
  | .neq => some (.bool (tst (decide (¬ a = b))))
  | .lss => some (.bool (tst (decide (Op.bytesLess a.toList b.toList = true))))
  | .gtr => some (.bool (tst (decide (Op.bytesLess b.toList a.toList = true))))
  | _ => none
def plainBin (op : BinOp) (x y : Value) : Option Value :=
  match x, y with
  | .int k a, .int k' b => bif IntKind.same k k' then plainInt op k a b else none
  | .string a, .string b => plainStr op a b
  | _, _ => none
def plainOp (l : Fm) : Op → Option Value
  | .move x => ev l x
  | .assign x => ev l x
  | .pick c a b => match ev l c with
    | some (.bool true) => ev l a
    | some (.bool false) => ev l b
    | _ => none
  | .nilCheck x => match ev l x with
    | some (.pointer (some a)) => some (.pointer (some a))
    | _ => none
  | .binOp op _ x y _ => match ev l x with
    | some u => match ev l y with
      | some v => plainBin op u v
      | none => none
    | none => none
  | .unOp .not _ x => match ev l x with
    | some (.bool b) => some (.bool (!b))
    | _ => none
  | .unOp .neg _ x => match ev l x with
    | some (.int k a) => some (.int k (k.wrap (0 - a)))
    | _ => none
  | .extract x i => match ev l x with
    | some (.tuple vs) => vs[i]?
    | _ => none
  | _ => none
theorem eqGuard_int (op : BinOp) (t : TypeId) (x y : Operand) (k k' : IntKind) (a b : Int) : (eqGuard op t x y (.int k a) (.int k' b)) = pure () := by
  unfold eqGuard; cases op <;> rfl
theorem eqGuard_str (op : BinOp) (t : TypeId) (x y : Operand) (a b : ByteArray) : (eqGuard op t x y (.string a) (.string b)) = pure () := by
  unfold eqGuard; cases op <;> rfl
theorem toList_data (a : ByteArray) : a.toList = a.data.toList := ByteArray.toList_eq a
theorem bytes_beq (a b : ByteArray) : (a.toList == b.toList) = decide (a = b) := by
  rw [Bool.eq_iff_iff, beq_iff_eq, decide_eq_true_eq]
  constructor
  · intro h
    rw [toList_data, toList_data] at h
    cases a; cases b
    simp only [ByteArray.mk.injEq]
    exact Array.ext' h
  · rintro rfl; rfl
theorem less_gtr : ∀ (a b : List UInt8), (!(Op.bytesLess a b || a == b)) = Op.bytesLess b a
  | [], [] => by simp [Op.bytesLess]
  | _ :: _, [] => by simp [Op.bytesLess]
  | [], _ :: _ => by simp [Op.bytesLess]
  | x :: a, y :: b => by
    have ih := less_gtr a b
    simp only [Op.bytesLess]
    rw [Bool.eq_iff_iff] at ih ⊢
    simp only [Bool.not_eq_true', Bool.or_eq_false_iff, beq_eq_false_iff_ne, ne_eq, Bool.or_eq_true, decide_eq_true_eq, Bool.and_eq_true, beq_iff_eq, decide_eq_false_iff_not, List.cons.injEq, not_and, Bool.and_eq_false_iff] at ih ⊢
    constructor
    · rintro ⟨⟨h1, h2⟩, h3⟩
      by_cases e : x = y
      · subst e
        refine .inr ⟨rfl, ih.1 ⟨?_, h3 rfl⟩⟩
        rcases h2 with h2 | h2
        · exact absurd rfl h2
        · exact h2
      · left
        rw [UInt8.not_lt] at h1
        rcases UInt8.le_iff_lt_or_eq.1 h1 with h | h
        · exact h
        · exact absurd h.symm e
    · rintro (h | ⟨rfl, h⟩)
      · refine ⟨⟨?_, .inl ?_⟩, ?_⟩
        · exact UInt8.not_lt.2 (UInt8.le_of_lt h)
        · rintro rfl; exact UInt8.lt_irrefl _ h
        · rintro rfl; exact absurd h (UInt8.lt_irrefl _)
      · have := ih.2 h
        exact ⟨⟨UInt8.lt_irrefl _, .inr this.1⟩, fun _ => this.2⟩
theorem less_gtr' (a b : ByteArray) : (!(Op.bytesLess a.toList b.toList || decide (a = b))) = Op.bytesLess b.toList a.toList := by rw [← bytes_beq]; exact less_gtr _ _
theorem plainInt_run {op : BinOp} {k : IntKind} {a b : Int} {v : Value} {t : TypeId} (h : plainInt op k a b = some v) (W : World) : (Go.binOp op t (.int k a) (.int k b)).run P W = .ok v W := by
  cases op <;> simp only [plainInt, Option.some.injEq, reduceCtorEq] at h <;> subst h <;> (unfold Go.binOp; simp [Op.intArith, Op.intCmp, pure, Sem.run, tst, bne, BEq.beq])
theorem plainStr_run {op : BinOp} {a b : ByteArray} {v : Value} {t : TypeId} (h : plainStr op a b = some v) (W : World) : (Go.binOp op t (.string a) (.string b)).run P W = .ok v W := by
  cases op <;> simp only [plainStr, Option.some.injEq, reduceCtorEq] at h <;> subst h <;> (unfold Go.binOp; simp only [Op.stringOp, pure, Sem.run, tst, bytes_beq, less_gtr', decide_not, Bool.decide_eq_true])
theorem runV {s : Sem Value} {v : Value} {W W' : World} (h : s.run P W = .ok v W') : (do pure (Next.value (← s)) : Sem Next).run P W = .ok (.value v) W' := by
  rw [Sem.run_bind, h]; rfl
theorem runU {s : Sem Unit} {W W' : World} (h : s.run P W = .ok () W') : (do s; pure Next.skip : Sem Next).run P W = .ok .skip W' := by
  rw [Sem.run_bind, h]; rfl
theorem plainBin_run {op : BinOp} {x y : Operand} {u w v : Value} {t : TypeId} (h : plainBin op u w = some v) (W : World) : (do eqGuard op t x y u w; Go.binOp op t u w : Sem Value).run P W = .ok v W := by
  cases u <;> cases w <;> simp only [plainBin, reduceCtorEq] at h
  case int.int k a k' b =>
    cases hk : IntKind.same k k' with
    | false => rw [hk] at h; cases h
    | true =>
      rw [hk] at h
      obtain rfl := IntKind.same_eq hk
      rw [eqGuard_int]
      exact plainInt_run h W
  case string.string a b =>
    rw [eqGuard_str]
    exact plainStr_run h W
theorem ystep_plain {o : Oper} {v : Value} {n : Nat} (h : plainOp l o.op = some v) : YStep P n l H L o v := fun a ha W hW => by
  obtain ⟨dst, op, ty, pos, after, guard⟩ := o
  simp only at h
  cases op <;> simp only [plainOp, reduceCtorEq] at h
  case move x => show (pure (Next.value (a.eval x)) : Sem Next).run P W = _; rw [ha.eval h]; rfl
  case assign x => show (pure (Next.value (a.eval x)) : Sem Next).run P W = _; rw [ha.eval h]; rfl
  case pick c x y =>
    show (do pure (.value (if ← asBool (a.eval c) then a.eval x else a.eval y)) : Sem Next).run P W = _
    split at h
    · rename_i hc; rw [ha.eval hc, ha.eval h]; rfl
    · rename_i hc; rw [ha.eval hc, ha.eval h]; rfl
    · cases h
  case nilCheck x =>
    split at h
    · rename_i hc
      simp only [Option.some.injEq] at h
      subst h
      have := ha.eval hc
      unfold execOp
      simp only [this]
      rfl
    · cases h
  case extract x i =>
    split at h
    · rename_i hc
      show (do pure (.value (← Instr.extract (a.eval x) i)) : Sem Next).run P W = _
      rw [ha.eval hc]
      exact runV (by simp [Instr.extract, h])
    · cases h
  case unOp op t x =>
    show (do pure (.value (← Op.unary op (a.eval x))) : Sem Next).run P W = _
    cases op <;> simp only [reduceCtorEq] at h
    case not =>
      split at h
      · rename_i hc
        simp only [Option.some.injEq] at h
        subst h
        rw [ha.eval hc]; rfl
      · cases h
    case neg =>
      split at h
      · rename_i hc
        simp only [Option.some.injEq] at h
        subst h
        rw [ha.eval hc]; rfl
      · cases h
  case binOp op t x y t' =>
    show (do pure (.value (← (do eqGuard op t x y (a.eval x) (a.eval y); Go.binOp op t (a.eval x) (a.eval y)))) : Sem Next).run P W = _
    split at h
    · rename_i u hu
      split at h
      · rename_i w hw
        rw [ha.eval hu, ha.eval hw]
        exact runV (plainBin_run h W)
      · cases h
    · cases h

/-! ### types, as classes -/
def TypeDesc.agg : TypeDesc → Bool
  | .struct _ | .array _ _ => true
  | _ => false
class TyK (P : Program) (T : Nat) (agg : outParam Bool) (sz : outParam Nat) : Prop where
  und : (P.underlying T).map TypeDesc.agg = some agg
  info : (P.info? T).map (·.size) = some sz
class ZeroK (P : Program) (T : Nat) (z : outParam (List Value)) : Prop where
  zero : (P.info? T).map (fun i => i.zero.map fun v => v.cells.toList) = some (some z)
class ZeroV (P : Program) (T : Nat) (v : outParam Value) : Prop where
  zero : (P.info? T).map (·.zero) = some (some v)
class FieldK (P : Program) (T i : Nat) (off : outParam Nat) (ft : outParam Nat) : Prop where
  und : (match P.underlying T with | some (.struct fs) => (fs[i]?).map (fun f => (f.offset, f.type)) | _ => none) = some (off, ft)
  sz : (P.info? ft).map (fun i => Nat.beq i.size 0) = some false
class SliceK (P : Program) (T : Nat) (e : outParam Nat) (k : outParam Nat) (bytes : outParam Nat) (z : outParam (List Value)) : Prop where
  und : P.underlying T = some (.slice e)
  info : (P.info? e).map (fun i => (i.size, i.bytes, i.zero.map fun v => v.cells.toList)) = some (k, bytes, some z)
class StructK (P : Program) (T : Nat) (z : outParam (List Value)) (places : outParam (List (Nat × Nat))) : Prop where
  zero : (P.info? T).map (fun i => i.zero.map fun v => v.cells.toList) = some (some z)
  und : (match P.underlying T with | some (.struct fs) => fs.toList.mapM (fun f => (P.info? f.type).map fun i => (f.offset, i.size)) | _ => none) = some places
class UndK (P : Program) (T : Nat) (d : outParam TypeDesc) : Prop where
  und : P.underlying T = some d

theorem run_isAgg (T : Nat) (agg : Bool) (sz : Nat) [h : TyK P T agg sz] (W : World) : (isAgg T).run P W = .ok agg W := by
  obtain ⟨d, hd, hd'⟩ := Option.map_eq_some_iff.1 h.und
  unfold isAgg
  rw [Sem.run_bind]
  have : (underlying T).run P W = .ok d W := by simp [underlying, hd]
  rw [this]
  subst hd'
  cases d <;> rfl
theorem run_sizeOfK (T : Nat) (agg : Bool) (sz : Nat) [h : TyK P T agg sz] (W : World) : (sizeOf T).run P W = .ok sz W := by
  obtain ⟨i, hi, hi'⟩ := Option.map_eq_some_iff.1 h.info
  simp [Go.sizeOf, typeInfo, hi, hi']

/-- A part of a list, laid out. -/
def sl : List Value → Nat → Nat → Option (List Value)
  | _, 0, 0 => some []
  | [], _, _ => none
  | c :: r, 0, k + 1 => match sl r 0 k with
    | some t => some (c :: t)
    | none => none
  | _ :: r, off + 1, k => sl r off k
theorem sl_spec : ∀ {cs : List Value} {off k : Nat} {vs : List Value}, sl cs off k = some vs → vs.length = k ∧ ∀ t, t < k → cs[off + t]? = vs[t]?
  | cs, 0, 0, vs, h => by cases cs <;> (simp [sl] at h; subst h; exact ⟨rfl, fun t ht => by omega⟩)
  | [], 0, k + 1, vs, h => by simp [sl] at h
  | [], off + 1, k, vs, h => by cases k <;> simp [sl] at h
  | c :: r, 0, k + 1, vs, h => by
    simp only [sl] at h
    split at h
    · rename_i t ht
      simp only [Option.some.injEq] at h
      subst h
      obtain ⟨h1, h2⟩ := sl_spec ht
      refine ⟨by simp [h1], fun j hj => ?_⟩
      cases j with
      | zero => simp
      | succ j => have := h2 j (by omega); simpa using this
    · cases h
  | c :: r, off + 1, k, vs, h => by
    simp only [sl] at h
    obtain ⟨h1, h2⟩ := sl_spec h
    refine ⟨h1, fun t ht => ?_⟩
    have := h2 t ht
    rw [show off + 1 + t = (off + t) + 1 by omega]
    simpa using this
/-- A part of a list replaced, laid out. -/
def stl : List Value → Nat → List Value → Option (List Value)
  | cs, 0, [] => some cs
  | _ :: r, 0, v :: vs => match stl r 0 vs with
    | some t => some (v :: t)
    | none => none
  | c :: r, off + 1, vs => match stl r off vs with
    | some t => some (c :: t)
    | none => none
  | [], _, _ => none
theorem stl_spec : ∀ {cs : List Value} {off : Nat} {vs cs' : List Value}, stl cs off vs = some cs' → off + vs.length ≤ cs.length ∧ cs' = cs.take off ++ vs ++ cs.drop (off + vs.length)
  | cs, 0, [], cs', h => by
    cases cs <;> (simp [stl] at h; subst h; simp)
  | [], 0, v :: vs, cs', h => by simp [stl] at h
  | [], off + 1, vs, cs', h => by cases vs <;> simp [stl] at h
  | c :: r, 0, v :: vs, cs', h => by
    simp only [stl] at h
    split at h
    · rename_i t ht
      simp only [Option.some.injEq] at h
      subst h
      obtain ⟨h1, h2⟩ := stl_spec ht
      simp at h1 h2
      refine ⟨by simp; omega, by simp [h2]⟩
    · cases h
  | c :: r, off + 1, vs, cs', h => by
    simp only [stl] at h
    split at h
    · rename_i t ht
      simp only [Option.some.injEq] at h
      subst h
      obtain ⟨h1, h2⟩ := stl_spec ht
      refine ⟨by simp; omega, ?_⟩
      rw [show off + 1 + vs.length = (off + vs.length) + 1 by omega]
      simp [h2]
    · cases h
def oneC : List Value → Bool
  | [] => true
  | .agg _ :: _ => false
  | .tuple _ :: _ => false
  | _ :: r => oneC r
theorem oneC_spec : ∀ {vs : List Value}, oneC vs = true → ∀ v ∈ vs, v.oneCell' = true
  | [], _, v, hv => by cases hv
  | u :: r, h, v, hv => by
    rcases List.mem_cons.1 hv with rfl | hv
    · cases v <;> simp [oneC] at h <;> rfl
    · exact oneC_spec (vs := r) (by cases u <;> simp [oneC] at h <;> exact h) v hv
/-- A value, as its cells. -/
def cellsL : Value → List Value
  | .agg a => a.toList
  | v => [v]
theorem cellsL_eq (v : Value) : v.cells.toList = cellsL v := by cases v <;> rfl

/-! ### entries by their place -/
def pick : Nat → OL → Option (OL × Ent × OL)
  | _, [] => none
  | 0, e :: r => some ([], e, r)
  | i + 1, e :: r => match pick i r with
    | some (a, x, b) => some (e :: a, x, b)
    | none => none
theorem pick_spec : ∀ {i : Nat} {L L1 L2 : OL} {e : Ent}, pick i L = some (L1, e, L2) → L = L1 ++ e :: L2
  | 0, [], _, _, _, h => by simp [pick] at h
  | i + 1, [], _, _, _, h => by simp [pick] at h
  | 0, x :: r, L1, L2, e, h => by simp [pick] at h; obtain ⟨rfl, rfl, rfl⟩ := h; rfl
  | i + 1, x :: r, L1, L2, e, h => by
    simp only [pick] at h
    split at h
    · rename_i a y b hp
      simp at h
      obtain ⟨rfl, rfl, rfl⟩ := h
      simp [pick_spec hp]
    · cases h

/-! ### loads -/
/-- What a row that stays holds from a place on. -/
def CellsAt (H : GH) (g o : Nat) (vs : List Value) : Prop := ∃ cells T fz, H g = some (.cells cells T fz) ∧ ∀ t v, vs[t]? = some v → cells[o + t]? = some v
theorem CellsAt.mono {H' : GH} {g o : Nat} {vs : List Value} (h : CellsAt H g o vs) (hl : HLe H H') : CellsAt H' g o vs := by
  obtain ⟨c, T, fz, h1, h2⟩ := h
  exact ⟨c, T, fz, hl _ _ h1, h2⟩
def asVal (agg : Bool) (us : List Value) : Option Value := match agg, us with
  | true, us => some (.agg us.toArray)
  | false, [u] => some u
  | _, _ => none
theorem run_loadVarK {T : Nat} {agg : Bool} {k : Nat} [h : TyK P T agg k] {W : World} {a : Addr} {us : List Value} {v : Value} (hl : us.length = k) (hc : ∀ t u, us[t]? = some u → W.cell? (a.add t) = some u) (hv : asVal agg us = some v) :
    (loadVar T a).run P W = .ok v W := by
  unfold loadVar
  rw [Sem.run_bind, run_isAgg T agg k]
  cases agg with
  | true =>
    simp only [asVal, Option.some.injEq] at hv
    subst hv
    simp only [Result.andThen_ok, if_true]
    rw [Sem.run_bind, run_sizeOfK T true k]
    simp only [Result.andThen_ok]
    rw [Sem.run_bind, ← hl, run_loadCells_list W a us hc]
    rfl
  | false =>
    match us, hv with
    | [u], hv =>
      simp only [asVal, Option.some.injEq] at hv
      subst hv
      have h0 : W.cell? a = some u := by
        have := hc 0 u rfl
        simpa [Addr.add] using this
      simp [run_load, h0]
theorem cell_of_cells {W : World} {g : Nat} {cells : Array Value} {T : Nat} {fz : Nat × Nat} (h : W.heap[g]? = some (.cells cells T fz)) (o : Nat) : W.cell? ⟨g, o, none⟩ = cells[o]? := by
  simp [World.cell?, h]
theorem addr_add (g o t : Nat) : (⟨g, o, none⟩ : Addr).add t = ⟨g, o + t, none⟩ := by
  unfold Addr.add; split <;> simp_all
/-- A load from a block of one's own. -/
theorem ystep_load {T : Nat} {agg : Bool} {k n : Nat} [TyK P T agg k] (i : Nat) {d : Option Nat} {x : Operand} {ty : Nat} {pos : String} {after : Array Edge} {guard : Option (Nat × Bool)} {g o T' : Nat} {fz : Nat × Nat} {cs us : List Value} {L1 L2 : OL} {v : Value}
    (hx : ev l x = some (.pointer (some ⟨g, o, none⟩))) (hi : pick i L = some (L1, .blk g (.cells cs.toArray T' fz), L2)) (hs : sl cs o k = some us) (hv : asVal agg us = some v) :
    YStep P n l H L ⟨d, .load T x, ty, pos, after, guard⟩ v := fun a ha W hW => by
  show (do pure (.value (← Instr.loadAt T (a.eval x))) : Sem Next).run P W = _
  rw [ha.eval hx]
  have hb : W.heap[g]? = some (.cells cs.toArray T' fz) := by
    have := pick_spec hi
    exact hW.1 (.blk g (.cells cs.toArray T' fz)) (by rw [this]; simp)
  obtain ⟨h1, h2⟩ := sl_spec hs
  refine runV ?_
  simp only [Instr.loadAt, Instr.sureAddr, pure_bind]
  refine run_loadVarK h1 (fun t u ht => ?_) hv
  have hlt : t < k := by rw [← h1]; exact (List.getElem?_eq_some_iff.1 ht).1
  rw [addr_add, cell_of_cells hb, ← ht, ← h2 t hlt]
  simp
/-- A load from what stays: 'vs' lies from place o on; the load is at o + f. -/
theorem ystep_loadH {T : Nat} {agg : Bool} {k n : Nat} [TyK P T agg k] {d : Option Nat} {x : Operand} {ty : Nat} {pos : String} {after : Array Edge} {guard : Option (Nat × Bool)} {g o o' f : Nat} {vs us : List Value} {v : Value}
    (hc : CellsAt H g o vs) (hx : ev l x = some (.pointer (some ⟨g, o', none⟩))) (ho : o' = o + f) (hs : sl vs f k = some us) (hv : asVal agg us = some v) :
    YStep P n l H L ⟨d, .load T x, ty, pos, after, guard⟩ v := fun a ha W hW => by
  show (do pure (.value (← Instr.loadAt T (a.eval x))) : Sem Next).run P W = _
  rw [ha.eval hx]
  obtain ⟨cells, T', fz, hg, hcells⟩ := hc
  have hb := hW.2 _ _ hg
  obtain ⟨h1, h2⟩ := sl_spec hs
  refine runV ?_
  simp only [Instr.loadAt, Instr.sureAddr, pure_bind]
  refine run_loadVarK h1 (fun t u ht => ?_) hv
  have hlt : t < k := by rw [← h1]; exact (List.getElem?_eq_some_iff.1 ht).1
  rw [addr_add, cell_of_cells hb, ho, Nat.add_assoc]
  refine hcells _ _ ?_
  rw [h2 t hlt, ht]

/-! ### addresses -/
theorem ystep_fieldAddr {T i : Nat} {off ft n : Nat} [h : FieldK P T i off ft] {d : Option Nat} {x : Operand} {ty : Nat} {pos : String} {after : Array Edge} {guard : Option (Nat × Bool)} {g o : Nat}
    (hx : ev l x = some (.pointer (some ⟨g, o, none⟩))) : YStep P n l H L ⟨d, .fieldAddr T x i, ty, pos, after, guard⟩ (.pointer (some ⟨g, o + off, none⟩)) := fun a ha W hW => by
  show (do pure (.value (← Instr.fieldAt T (a.eval x) i)) : Sem Next).run P W = _
  rw [ha.eval hx]
  have hu := h.und
  split at hu
  · rename_i fs hfs
    obtain ⟨f, hf, hf'⟩ := Option.map_eq_some_iff.1 hu
    simp only [Prod.mk.injEq] at hf'
    obtain ⟨rfl, rfl⟩ := hf'
    obtain ⟨inf, hinf, hsz⟩ := Option.map_eq_some_iff.1 h.sz
    have hne : inf.size ≠ 0 := fun e => by rw [e] at hsz; cases hsz
    refine runV ?_
    simp [Instr.fieldAt, underlying, hfs, hf, Instr.sureAddr, fieldPlace, Go.sizeOf, typeInfo, hinf, hne, addr_add]
  · cases hu
theorem ystep_indexAddr {T e k bytes n : Nat} {z : List Value} [h : SliceK P T e k bytes z] {d : Option Nat} {x y : Operand} {ty : Nat} {pos : String} {after : Array Edge} {guard : Option (Nat × Bool)} {g o len cap : Nat} {ki : IntKind} {i : Int}
    (hx : ev l x = some (.slice (some ⟨g, o, none⟩) len cap)) (hy : ev l y = some (.int ki i)) (h0 : 0 ≤ i) (h1 : i < len) :
    YStep P n l H L ⟨d, .indexAddr T x y, ty, pos, after, guard⟩ (.pointer (some ⟨g, o + i.toNat * k, none⟩)) := fun a ha W hW => by
  show (do pure (.value (← Instr.indexAt T (a.eval x) (a.eval y))) : Sem Next).run P W = _
  rw [ha.eval hx, ha.eval hy]
  obtain ⟨inf, hinf, hi'⟩ := Option.map_eq_some_iff.1 h.info
  simp only [Prod.mk.injEq] at hi'
  refine runV ?_
  simp [Instr.indexAt, asIntOf, underlying, h.und, h0, h1, Go.sizeOf, typeInfo, hinf, hi'.1, addr_add]
/-- A text's byte, as a number. -/
def bt (s : ByteArray) (i : Int) : Int := ((s.data[i.toNat]!).toNat : Int)
theorem bt_range (s : ByteArray) (i : Int) : 0 ≤ bt s i ∧ bt s i ≤ 255 := by
  unfold bt
  have := (s.data[i.toNat]!).toNat_lt
  omega
theorem ystep_indexStr {T n : Nat} [h : UndK P T .string] {d : Option Nat} {x y : Operand} {ty : Nat} {pos : String} {after : Array Edge} {guard : Option (Nat × Bool)} {s : ByteArray} {ki : IntKind} {i : Int}
    (hx : ev l x = some (.string s)) (hy : ev l y = some (.int ki i)) (h0 : 0 ≤ i) (h1 : i < s.size) :
    YStep P n l H L ⟨d, .index T x y, ty, pos, after, guard⟩ (.int .u8 (bt s i)) := fun a ha W hW => by
  show (do pure (.value (← Instr.index T (a.eval x) (a.eval y))) : Sem Next).run P W = _
  rw [ha.eval hx, ha.eval hy]
  have hlt : i.toNat < s.size := by omega
  have : s[i.toNat]? = some (s.data[i.toNat]!) := by
    have h2 : i.toNat < s.data.size := hlt
    rw [getElem!_pos s.data i.toNat h2]
    simp [getElem?_pos, hlt]; rfl
  refine runV ?_
  simp [Instr.index, asIntOf, underlying, h.und, h0, this, bt]
theorem ystep_lenStr {T n : Nat} [h : UndK P T .string] {d : Option Nat} {x : Operand} {ty : Nat} {pos : String} {after : Array Edge} {guard : Option (Nat × Bool)} {s : ByteArray}
    (hx : ev l x = some (.string s)) : YStep P n l H L ⟨d, .call { callee := .builtin .len, args := #[x], argTypes := #[T] }, ty, pos, after, guard⟩ (.int .i64 s.size) := fun a ha W hW => by
  show (do let d ← resolve a.eval { callee := .builtin .len, args := #[x], argTypes := #[T] } ty; Go.invoke d.target d.args : Sem Next).run P W = _
  simp [resolve, Go.invoke, Go.builtin, Builtin.len_, ha.eval hx, underlying, h.und, goInt]
theorem ystep_lenSlice {T n : Nat} {e k bytes : Nat} {z : List Value} [h : SliceK P T e k bytes z] {d : Option Nat} {x : Operand} {ty : Nat} {pos : String} {after : Array Edge} {guard : Option (Nat × Bool)} {A : Option Addr} {len cap : Nat}
    (hx : ev l x = some (.slice A len cap)) : YStep P n l H L ⟨d, .call { callee := .builtin .len, args := #[x], argTypes := #[T] }, ty, pos, after, guard⟩ (.int .i64 len) := fun a ha W hW => by
  show (do let d ← resolve a.eval { callee := .builtin .len, args := #[x], argTypes := #[T] } ty; Go.invoke d.target d.args : Sem Next).run P W = _
  simp [resolve, Go.invoke, Go.builtin, Builtin.len_, ha.eval hx, underlying, h.und, goInt]
theorem ystep_makeFunc {n : Nat} {d : Option Nat} {fn : Fn} {xs ys : Array Operand} {ty : Nat} {pos : String} {after : Array Edge} {guard : Option (Nat × Bool)} {us vs : List Value}
    (hx : evs l xs.toList = some us) (hy : evs l ys.toList = some vs) : YStep P n l H L ⟨d, .makeFunc fn xs ys, ty, pos, after, guard⟩ (.func fn us.toArray vs.toArray) := fun a ha W hW => by
  show (do pure (.value (← Instr.makeFunc fn (xs.map a.eval) (ys.map a.eval))) : Sem Next).run P W = _
  rw [ha.evalsA hx, ha.evalsA hy]; rfl
theorem ystep_convInt {S D n : Nat} {ks kd : IntKind} [hs : UndK P S (.int ks)] [hd : UndK P D (.int kd)] {d : Option Nat} {x : Operand} {ty : Nat} {pos : String} {after : Array Edge} {guard : Option (Nat × Bool)} {k : IntKind} {i : Int}
    (hx : ev l x = some (.int k i)) : YStep P n l H L ⟨d, .convert S D x, ty, pos, after, guard⟩ (.int kd (kd.wrap i)) := fun a ha W hW => by
  show (do pure (.value (← Go.convert S D (a.eval x))) : Sem Next).run P W = _
  rw [ha.eval hx]
  refine runV ?_
  simp [Go.convert, underlying, hs.und, hd.und, Conv.intToInt]
theorem ystep_sliceStr {T n : Nat} [h : UndK P T .string] {d : Option Nat} {x : Operand} {lo hi : Option Operand} {ty : Nat} {pos : String} {after : Array Edge} {guard : Option (Nat × Bool)} {s : ByteArray} {i j : Nat}
    (hx : ev l x = some (.string s)) (hlo : (match lo with | some y => ∃ k, ev l y = some (.int k (i : Int)) | none => i = 0)) (hhi : (match hi with | some y => ∃ k, ev l y = some (.int k (j : Int)) | none => j = s.size)) (hij : i ≤ j) (hj : j ≤ s.size) :
    YStep P n l H L ⟨d, .slice T x lo hi none, ty, pos, after, guard⟩ (.string (s.extract i j)) := fun a ha W hW => by
  show (do pure (.value (← Instr.sliceAt T (a.eval x) (lo.map a.eval) (hi.map a.eval) none)) : Sem Next).run P W = _
  rw [ha.eval hx]
  refine runV ?_
  have hij' : (i : Int) ≤ j := by omega
  have hj' : (j : Int) ≤ s.size := by omega
  cases lo with
  | none =>
    subst hlo
    cases hi with
    | none => subst hhi; simp [Instr.sliceAt, underlying, h.und, Instr.slice, Instr.sliceBounds]
    | some y =>
      obtain ⟨k, hk⟩ := hhi
      simp [Instr.sliceAt, underlying, h.und, Instr.slice, Instr.sliceBounds, Instr.sliceBound, ha.eval hk, asIntOf, hj', hj]
  | some z =>
    obtain ⟨k', hk'⟩ := hlo
    cases hi with
    | none => subst hhi; simp [Instr.sliceAt, underlying, h.und, Instr.slice, Instr.sliceBounds, Instr.sliceBound, ha.eval hk', asIntOf, hij', hij]
    | some y =>
      obtain ⟨k, hk⟩ := hhi
      simp [Instr.sliceAt, underlying, h.und, Instr.slice, Instr.sliceBounds, Instr.sliceBound, ha.eval hk, ha.eval hk', asIntOf, hj', hj, hij', hij]

/-! ### building a struct -/
def fillL (places : List (Nat × Nat)) : List Value → List (Nat × Value) → Option (List Value)
  | cs, [] => some cs
  | cs, p :: r => match places[p.1]? with
    | some (off, sz) => bif Nat.beq (cellsL p.2).length sz then match stl cs off (cellsL p.2) with
      | some cs' => fillL places cs' r
      | none => none
      else none
    | none => none
theorem foldl_set (off : Nat) : ∀ (vs : List Value) (j : Nat) (cs : Array Value), off + j + vs.length ≤ cs.size →
    (vs.zipIdx j).foldl (fun (cs : Array Value) (p : Value × Nat) => cs.setIfInBounds (off + p.2) p.1) cs = (cs.toList.take (off + j) ++ vs ++ cs.toList.drop (off + j + vs.length)).toArray
  | [], j, cs, _ => by simp
  | v :: r, j, cs, h => by
    simp only [List.zipIdx_cons, List.foldl_cons]
    rw [foldl_set off r (j + 1) _ (by simp at h ⊢; omega)]
    congr 1
    simp only [Array.toList_setIfInBounds]
    have hlt : off + j < cs.toList.length := by simp at h ⊢; omega
    rw [show off + (j + 1) = off + j + 1 by omega]
    rw [List.take_set, List.drop_set]
    rw [if_pos (by omega)]
    rw [List.take_succ_eq_append_getElem (by simpa using hlt)]
    rw [List.set_append_right _ _ (by simp; omega)]
    simp only [List.length_take, List.length_cons]
    rw [show off + j - min (off + j) cs.toList.length = 0 by omega]
    rw [show off + j + 1 + r.length = off + j + (r.length + 1) by omega]
    simp
theorem fill_of (places : Array (Nat × Nat)) : ∀ (parts : List (Nat × Value)) (cs cs' : List Value), fillL places.toList cs parts = some cs' → Instr.fill (places[·]?) cs.toArray parts = some cs'.toArray
  | [], cs, cs', h => by simp [fillL] at h; subst h; rfl
  | (i, v) :: r, cs, cs', h => by
    simp only [fillL] at h
    split at h
    · rename_i off sz hp
      cases hb : Nat.beq (cellsL v).length sz with
      | false => rw [hb] at h; cases h
      | true =>
        rw [hb] at h
        simp only [cond_true] at h
        split at h
        · rename_i cs2 hs
          obtain ⟨h1, h2⟩ := stl_spec hs
          have hsz : v.cells.size = sz := by
            rw [← Array.length_toList, cellsL_eq]; exact Nat.eq_of_beq_eq_true hb
          have hp' : places[i]? = some (off, sz) := by simpa using hp
          simp only [Instr.fill, hp']
          rw [if_neg (by
            simp only [ne_eq, hsz, not_true_eq_false, decide_false, Bool.false_or, decide_eq_true_eq, List.size_toArray]
            rw [← cellsL_eq, Array.length_toList, hsz] at h1
            omega)]
          have hf : (v.cells.zipIdx.foldl (fun (cs : Array Value) (p : Value × Nat) => cs.setIfInBounds (off + p.2) p.1) cs.toArray) = cs2.toArray := by
            rw [← Array.foldl_toList, Array.toList_zipIdx]
            rw [foldl_set off _ 0 _ (by rw [cellsL_eq]; simpa using h1)]
            simp [h2, cellsL_eq]
          have hf' : (v.cells.zipIdx.foldl (fun cs (x : Value × Nat) => match x with | (c, j) => cs.setIfInBounds (off + j) c) cs.toArray) = cs2.toArray := hf
          rw [hf']
          exact fill_of places r cs2 cs' h
        · cases h
    · cases h
def partsL (l : Fm) : List (Nat × Operand) → Option (List (Nat × Value))
  | [] => some []
  | p :: r => match ev l p.2 with
    | some v => match partsL l r with
      | some vs => some ((p.1, v) :: vs)
      | none => none
    | none => none
theorem Knows.parts {n : Nat} {a : Act} (h : Knows n l a) : ∀ {xs : List (Nat × Operand)} {vs : List (Nat × Value)}, partsL l xs = some vs → xs.map (fun (p : Nat × Operand) => (p.1, a.eval p.2)) = vs
  | [], vs, hx => by simp [partsL] at hx; simp [hx]
  | x :: r, vs, hx => by
    simp only [partsL] at hx
    split at hx
    · rename_i v hv
      split at hx
      · rename_i ws hw
        simp only [Option.some.injEq] at hx
        subst hx
        simp [h.eval hv, h.parts hw]
      · cases hx
    · cases hx
theorem run_mapM_places {fs : List Field} {places : List (Nat × Nat)} (h : fs.mapM (fun f => (P.info? f.type).map fun i => (f.offset, i.size)) = some places) (W : World) :
    (fs.mapM (fun f => do pure (f.offset, ← Go.sizeOf f.type) : Field → Sem (Nat × Nat))).run P W = .ok places W := by
  induction fs generalizing places with
  | nil => simp at h; subst h; rfl
  | cons f r ih =>
    simp only [List.mapM_cons] at h ⊢
    cases hi : P.info? f.type with
    | none => simp [hi] at h
    | some i =>
      cases hr : r.mapM (fun f => (P.info? f.type).map fun i => (f.offset, i.size)) with
      | none => simp [hi, hr] at h
      | some ps =>
        simp [hi, hr] at h
        subst h
        rw [Sem.run_bind]
        simp only [Sem.run_bind]
        have e1 : (Go.sizeOf f.type).run P W = .ok i.size W := by simp [Go.sizeOf, typeInfo, hi]
        rw [e1]
        simp only [Result.andThen_ok, Sem.run_pure]
        rw [ih hr]
        rfl
theorem ystep_build {T n : Nat} {z : List Value} {places : List (Nat × Nat)} [h : StructK P T z places] {d : Option Nat} {parts : Array (Nat × Operand)} {ty : Nat} {pos : String} {after : Array Edge} {guard : Option (Nat × Bool)} {ps : List (Nat × Value)} {cs : List Value}
    (hp : partsL l parts.toList = some ps) (hf : fillL places z ps = some cs) : YStep P n l H L ⟨d, .build T parts, ty, pos, after, guard⟩ (.agg cs.toArray) := fun a ha W hW => by
  show (do pure (.value (← Instr.build T (parts.map fun (i, x) => (i, a.eval x)))) : Sem Next).run P W = _
  have hparts : (parts.map fun (i, x) => (i, a.eval x)).toList = ps := by
    rw [← ha.parts hp]; simp
  refine runV ?_
  obtain ⟨inf, hinf, hz⟩ := Option.map_eq_some_iff.1 h.zero
  obtain ⟨zv, hzv, hz'⟩ := Option.map_eq_some_iff.1 hz
  have hu := h.und
  split at hu
  · rename_i fs hfs
    unfold Instr.build
    simp only [Sem.run_bind, zeroValue, typeInfo, underlying, run_program, Result.andThen_ok, hinf, Sem.run_pure, hzv, hfs]
    have e2 : (fs.mapM (fun f => do pure (f.offset, ← Go.sizeOf f.type) : Field → Sem (Nat × Nat))).run P W = .ok places.toArray W := by
      rw [Array.mapM_eq_mapM_toList]
      rw [Sem.run_map, run_mapM_places hu W]
      rfl
    have e3 : ∀ g : Field → Sem (Nat × Nat), g = (fun f => do pure (f.offset, ← Go.sizeOf f.type)) → (fs.mapM g).run P W = .ok places.toArray W := fun g hg => by rw [hg]; exact e2
    rw [e3 _ rfl]
    simp only [Result.andThen_ok, hparts]
    have hzc : zv.cells = z.toArray := by rw [← hz']
    rw [hzc, fill_of places.toArray ps z cs (by simpa using hf)]
    rfl
  · cases hu
theorem ystep_field {T i off ft n : Nat} {agg : Bool} {k : Nat} [h : FieldK P T i off ft] [TyK P ft agg k] {d : Option Nat} {x : Operand} {ty : Nat} {pos : String} {after : Array Edge} {guard : Option (Nat × Bool)} {cs us : List Value} {v : Value}
    (hx : ev l x = some (.agg cs.toArray)) (hs : sl cs off k = some us) (hv : asVal agg us = some v) : YStep P n l H L ⟨d, .field T x i, ty, pos, after, guard⟩ v := fun a ha W hW => by
  show (do pure (.value (← Instr.field T (a.eval x) i)) : Sem Next).run P W = _
  rw [ha.eval hx]
  have hu := h.und
  split at hu
  · rename_i fs hfs
    obtain ⟨f, hf, hf'⟩ := Option.map_eq_some_iff.1 hu
    simp only [Prod.mk.injEq] at hf'
    obtain ⟨rfl, rfl⟩ := hf'
    obtain ⟨h1, h2⟩ := sl_spec hs
    refine runV ?_
    simp only [Instr.field, underlying, Sem.run_bind, run_program, Result.andThen_ok, hfs, Sem.run_pure, hf, asAgg, part]
    rw [run_isAgg f.type agg k]
    cases agg with
    | true =>
      simp only [asVal, Option.some.injEq] at hv
      subst hv
      simp only [Result.andThen_ok, if_true, Sem.run_bind]
      rw [run_sizeOfK f.type true k]
      simp only [Result.andThen_ok, Sem.run_pure]
      congr 2
      apply Array.ext'
      simp only [Array.toList_extract, List.extract_eq_take_drop]
      apply List.ext_getElem?
      intro t
      by_cases ht : t < k
      · rw [← h2 t ht]; simp [List.getElem?_take, ht, List.getElem?_drop]
      · have e1 : us[t]? = none := List.getElem?_eq_none (by omega)
        simp [List.getElem?_take, ht, e1]
    | false =>
      match us, hv with
      | [u], hv =>
        simp only [asVal, Option.some.injEq] at hv
        subst hv
        simp at h1
        subst h1
        have := h2 0 (by omega)
        simp at this
        simp [this]
  · cases hu

/-- What an operation does to what is known: whatever comes behind it holds of each outcome. -/
def TStep (P : Program) (F : Fx) (l : Fm) (H : GH) (L : OL) (o : Oper) (X : Value → GH → OL → Prop) : Prop :=
  ∀ a W, Knows F.n l a → St F.w0 F.ids H L W → ∀ (K : Act → World → Prop) (Q : Post), (∀ v H' L' W', X v H' L' → St F.w0 F.ids H' L' W' → K (a.put o.dst v) W') → o.wp P a W K Q
theorem wpl_t {ops : Array Oper} {o : Oper} {rest : List Oper} {X : Value → GH → OL → Prop} (hs : TStep P F l H L o X) (hw : Wants ops l o true) (hd : (match o.dst with | some d => Nat.blt d F.n | none => true) = true)
    (h : ∀ v H' L', X v H' L' → WPL P F Q ops rest (upd l o.dst v) H' L') : WPL P F Q ops (o :: rest) l H L := fun a W ha hW => by
  unfold wpList
  rw [hw F.n a ha, if_pos rfl]
  exact .inl (hs a W ha hW _ Q fun v H' L' W' hX hW' => h v H' L' hX _ W' (ha.upd hd v) hW')

/-! ### new memory -/
theorem St.allocTo {w0 : World} {ids : List Nat} {W : World} (h : St w0 ids H L W) (o : Obj) : ∃ g, g = W.heap.size ∧ St w0 ids H (.blk g o :: L) { W with heap := W.heap.push o } := ⟨_, rfl, h.alloc o⟩
theorem tstep_alloc {T : Nat} {z : List Value} [h : ZeroK P T z] {d : Option Nat} {ty : Nat} {pos : String} {after : Array Edge} {guard : Option (Nat × Bool)} :
    TStep P F l H L ⟨d, .alloc T, ty, pos, after, guard⟩ (fun v H' L' => ∃ g, v = .pointer (some ⟨g, 0, none⟩) ∧ H' = H ∧ L' = .blk g (.cells z.toArray T (0, 0)) :: L) := fun a W ha hW K Q hK => by
  obtain ⟨inf, hinf, hz⟩ := Option.map_eq_some_iff.1 h.zero
  obtain ⟨zv, hzv, hz'⟩ := Option.map_eq_some_iff.1 hz
  have hzc : zv.cells = z.toArray := by rw [← hz']
  show Oper.upon P _ a K Q ((do pure (.value (← Instr.alloc T true (.tuple #[]))) : Sem Next).run P W)
  have : (Instr.alloc T true (.tuple #[])).run P W = .ok (.pointer (some ⟨W.heap.size, 0, none⟩)) { W with heap := W.heap.push (.cells z.toArray T (0, 0)) } := by
    simp [Instr.alloc, zeroValue, typeInfo, hinf, hzv, newVar, newRow, hzc]
  rw [runV this]
  exact hK _ H _ _ ⟨W.heap.size, rfl, rfl, rfl⟩ (hW.alloc _)
theorem tstep_box {T : Nat} {d : Option Nat} {x : Operand} {ty : Nat} {pos : String} {after : Array Edge} {guard : Option (Nat × Bool)} {v : Value} (hx : ev l x = some v) :
    TStep P F l H L ⟨d, .box T x, ty, pos, after, guard⟩ (fun r H' L' => ∃ g, r = .pointer (some ⟨g, 0, none⟩) ∧ H' = H ∧ L' = .blk g (.cells (cellsL v).toArray T (0, 0)) :: L) := fun a W ha hW K Q hK => by
  show Oper.upon P _ a K Q ((do pure (.value (← Instr.box T (a.eval x))) : Sem Next).run P W)
  rw [ha.eval hx]
  have hc : v.cells = (cellsL v).toArray := by rw [← cellsL_eq]
  have : (Instr.box T v).run P W = .ok (.pointer (some ⟨W.heap.size, 0, none⟩)) { W with heap := W.heap.push (.cells (cellsL v).toArray T (0, 0)) } := by
    simp [Instr.box, newVar, newRow, hc]
  rw [runV this]
  exact hK _ H _ _ ⟨W.heap.size, rfl, rfl, rfl⟩ (hW.alloc _)
theorem wpl_alloc {ops : Array Oper} {rest : List Oper} {T : Nat} {z : List Value} [h : ZeroK P T z] {d : Nat} {ty : Nat} {pos : String} {after : Array Edge} {guard : Option (Nat × Bool)} (hw : Wants ops l ⟨some d, .alloc T, ty, pos, after, guard⟩ true) (hd : Nat.blt d F.n = true)
    (hk : ∀ g, WPL P F Q ops rest ((d, .pointer (some ⟨g, 0, none⟩)) :: l) H (.blk g (.cells z.toArray T (0, 0)) :: L)) : WPL P F Q ops (⟨some d, .alloc T, ty, pos, after, guard⟩ :: rest) l H L :=
  wpl_t tstep_alloc hw hd (by rintro v H' L' ⟨g, rfl, rfl, rfl⟩; exact hk g)
theorem wpl_box {ops : Array Oper} {rest : List Oper} {T : Nat} {d : Nat} {x : Operand} {ty : Nat} {pos : String} {after : Array Edge} {guard : Option (Nat × Bool)} {v : Value} (hx : ev l x = some v) (hw : Wants ops l ⟨some d, .box T x, ty, pos, after, guard⟩ true) (hd : Nat.blt d F.n = true)
    (hk : ∀ g, WPL P F Q ops rest ((d, .pointer (some ⟨g, 0, none⟩)) :: l) H (.blk g (.cells (cellsL v).toArray T (0, 0)) :: L)) : WPL P F Q ops (⟨some d, .box T x, ty, pos, after, guard⟩ :: rest) l H L :=
  wpl_t (tstep_box hx) hw hd (by rintro v H' L' ⟨g, rfl, rfl, rfl⟩; exact hk g)

/-! ### stores -/
theorem St.storeAt {w0 : World} {ids : List Nat} {L1 L2 : OL} {W : World} {g o T' : Nat} {cs vs cs' : List Value} (h : St w0 ids H (L1 ++ .blk g (.cells cs.toArray T' (0, 0)) :: L2) W) (h1 : oneC vs = true) (hs : stl cs o vs = some cs') :
    ∃ W', (storeCells ⟨g, o, none⟩ vs).run P W = .ok () W' ∧ St w0 ids H (L1 ++ .blk g (.cells cs'.toArray T' (0, 0)) :: L2) W' := by
  have hb : W.heap[g]? = some (.cells cs.toArray T' (0, 0)) := h.own (.blk g (.cells cs.toArray T' (0, 0))) (by simp)
  obtain ⟨hlen, hcs⟩ := stl_spec hs
  have hr := run_storeCells_at P g o T' vs 0 cs.toArray W hb (by simpa using hlen) (oneC_spec h1)
  refine ⟨_, hr, ?_⟩
  have hcs' : (cs.toArray.toList.take (o + 0) ++ vs ++ cs.toArray.toList.drop (o + 0 + vs.length)).toArray = cs'.toArray := by simp [hcs]
  rw [hcs']
  refine h.turn rfl rfl rfl (by simp) (fun b hb' hn => ?_) ?_ (.inl rfl)
  · have hne : b ≠ g := by simpa [Ent.ids] using hn
    exact setRow_other W g b _ hne
  · simp only [Ent.ok]
    exact setRow_heap W g cs.toArray cs'.toArray T' (0, 0) hb
theorem tstep_store {T : Nat} {agg : Bool} {k : Nat} [TyK P T agg k] (i : Nat) {d : Option Nat} {x y : Operand} {ty : Nat} {pos : String} {after : Array Edge} {guard : Option (Nat × Bool)} {g o T' : Nat} {cs cs' : List Value} {L1 L2 : OL} {v : Value}
    (hx : ev l x = some (.pointer (some ⟨g, o, none⟩))) (hy : ev l y = some v) (hi : pick i L = some (L1, .blk g (.cells cs.toArray T' (0, 0)), L2)) (hn : Nat.beq (cellsL v).length k = true) (h1 : oneC (cellsL v) = true) (hs : stl cs o (cellsL v) = some cs') :
    TStep P F l H L ⟨d, .store T x y, ty, pos, after, guard⟩ (fun r H' L' => r = undef ∧ H' = H ∧ L' = L1 ++ .blk g (.cells cs'.toArray T' (0, 0)) :: L2) := fun a W ha hW K Q hK => by
  show Oper.upon P _ a K Q ((do Instr.storeAt T (a.eval x) (a.eval y); pure .skip : Sem Next).run P W)
  rw [ha.eval hx, ha.eval hy]
  rw [pick_spec hi] at hW
  obtain ⟨W', hr, hW'⟩ := hW.storeAt (P := P) h1 hs
  have hc : v.cells.toList = cellsL v := cellsL_eq v
  have hsz : v.cells.size = k := by rw [← Array.length_toList, hc]; exact Nat.eq_of_beq_eq_true hn
  have : (Instr.storeAt T (.pointer (some ⟨g, o, none⟩)) v).run P W = .ok () W' := by
    simp only [Instr.storeAt, Instr.sureAddr, pure_bind, storeVar, Sem.run_bind]
    rw [run_sizeOfK T agg k]
    simp only [Result.andThen_ok, hsz, ne_eq, not_true_eq_false, if_false, Sem.run_pure, hc]
    exact hr
  rw [runU this]
  exact hK _ H _ _ ⟨rfl, rfl, rfl⟩ hW'
theorem wpl_store {ops : Array Oper} {rest : List Oper} {T : Nat} {agg : Bool} {k : Nat} [TyK P T agg k] (i : Nat) {x y : Operand} {ty : Nat} {pos : String} {after : Array Edge} {guard : Option (Nat × Bool)} {g o T' : Nat} {cs cs' : List Value} {L1 L2 : OL} {v : Value}
    (hx : ev l x = some (.pointer (some ⟨g, o, none⟩))) (hy : ev l y = some v) (hi : pick i L = some (L1, .blk g (.cells cs.toArray T' (0, 0)), L2)) (hn : Nat.beq (cellsL v).length k = true) (h1 : oneC (cellsL v) = true) (hs : stl cs o (cellsL v) = some cs')
    (hw : Wants ops l ⟨none, .store T x y, ty, pos, after, guard⟩ true) (hk : WPL P F Q ops rest l H (L1 ++ .blk g (.cells cs'.toArray T' (0, 0)) :: L2)) : WPL P F Q ops (⟨none, .store T x y, ty, pos, after, guard⟩ :: rest) l H L :=
  wpl_t (tstep_store i hx hy hi hn h1 hs) hw rfl (by rintro v H' L' ⟨rfl, rfl, rfl⟩; exact hk)

/-! ### calls -/
/-- A contract: called with these arguments, in a world of which the ghost tells and which owns L, the function hands back a value of which X tells. -/
def Ct (P : Program) (f : Nat) (args : List Value) (H : GH) (L : OL) (X : Value → GH → OL → Prop) : Prop :=
  ∀ w, St w (idsOf L) H L w → Calls P f args.toArray w (fun e w' => ∃ r H' L', e = .returned r ∧ X r H' L' ∧ Grow w H H' ∧ St w (idsOf L) H' L' w')
theorem Ct.mono {f : Nat} {args : List Value} {X X' : Value → GH → OL → Prop} (h : Ct P f args H L X) (hx : ∀ r H' L', HLe H H' → X r H' L' → X' r H' L') : Ct P f args H L X' := fun w hw => by
  refine (h w hw).mono fun e w' ⟨r, H', L', h1, h2, h3, h4⟩ => ⟨r, H', L', h1, hx r H' L' h3.le h2, h3, h4⟩
/-- What is known of what is told of a part is known of the whole. -/
theorem St.into {w0 : World} {ids : List Nat} {L1 L2 Lp : OL} {W : World} (h : St w0 ids H (L1 ++ Lp ++ L2) W) : St W (idsOf Lp) H Lp W := by
  have hs : Lp.Sublist (L1 ++ Lp ++ L2) := (List.sublist_append_right L1 Lp).trans (List.sublist_append_left _ _)
  have hd := h.drop hs
  exact ⟨rfl, rfl, rfl, Nat.le_refl _, fun _ _ _ => rfl, hd.own, hd.nd, hd.sep, fun b hb => .inl hb, hd.imm⟩
theorem St.back {w0 : World} {ids : List Nat} {H' : GH} {L1 L2 Lp L' : OL} {W W' : World} (h : St w0 ids H (L1 ++ Lp ++ L2) W) (h' : St W (idsOf Lp) H' L' W') (hg : Grow W H H') : St w0 ids H' (L1 ++ L' ++ L2) W' := by
  have hlt : ∀ b ∈ idsOf (L1 ++ Lp ++ L2), b < W.heap.size := fun b hb => h.lt hb
  have hnd := h.nd
  simp only [idsOf, List.flatMap_append] at hnd hlt
  rw [List.append_assoc, List.nodup_append] at hnd
  obtain ⟨n1, n2, n3⟩ := hnd
  rw [List.nodup_append] at n2
  obtain ⟨m1, m2, m3⟩ := n2
  have hother : ∀ b, b ∈ idsOf L1 ∨ b ∈ idsOf L2 → b < W.heap.size ∧ b ∉ idsOf Lp := by
    intro b hb
    refine ⟨hlt b (by simp only [List.mem_append]; rcases hb with hb | hb; exact .inl (.inl hb); exact .inr hb), fun hp => ?_⟩
    rcases hb with hb | hb
    · exact n3 b hb b (List.mem_append_left _ hp) rfl
    · exact m3 b hp b hb rfl
  have hok : ∀ e, e ∈ L1 ∨ e ∈ L2 → e.ok W' := fun e he => by
    have he' : e ∈ L1 ++ Lp ++ L2 := by simp only [List.mem_append]; rcases he with he | he; exact .inl (.inl he); exact .inr he
    refine Ent.ok_same (fun b hb => ?_) (h.own e he')
    have hb' : b ∈ idsOf L1 ∨ b ∈ idsOf L2 := by
      rcases he with he | he
      · exact .inl (List.mem_flatMap.2 ⟨e, he, hb⟩)
      · exact .inr (List.mem_flatMap.2 ⟨e, he, hb⟩)
    exact h'.keep b (hother b hb').1 (hother b hb').2
  refine ⟨h'.os.trans h.os, h'.tape.trans h.tape, h'.output.trans h.output, Nat.le_trans h.size h'.size, fun b hb hn => ?_, fun e he => ?_, ?_, fun b hb => ?_, fun b hb => ?_, h'.imm⟩
  · rw [h'.keep b (Nat.lt_of_lt_of_le hb h.size) fun hp => ?_]
    · exact h.keep b hb hn
    · have : b ∈ idsOf (L1 ++ Lp ++ L2) := by
        simp only [idsOf, List.flatMap_append, List.mem_append]; exact .inl (.inr hp)
      rcases h.new b this with h1 | h1
      · exact hn h1
      · omega
  · simp only [List.mem_append] at he
    rcases he with (he | he) | he
    · exact hok e (.inl he)
    · exact h'.own e he
    · exact hok e (.inr he)
  · simp only [idsOf, List.flatMap_append]
    have hin : ∀ b, b ∈ L'.flatMap Ent.ids → b ∈ idsOf Lp ∨ W.heap.size ≤ b := h'.new
    rw [List.append_assoc, List.nodup_append]
    refine ⟨n1, ?_, ?_⟩
    · rw [List.nodup_append]
      refine ⟨h'.nd, m2, fun a ha b hb e => ?_⟩
      subst e
      rcases hin a ha with h1 | h1
      · exact (hother a (.inr hb)).2 h1
      · have := (hother a (.inr hb)).1; omega
    · intro a ha b hb e
      subst e
      rcases List.mem_append.1 hb with hb | hb
      · rcases hin a hb with h1 | h1
        · exact (hother a (.inl ha)).2 h1
        · have := (hother a (.inl ha)).1; omega
      · exact n3 a ha a (List.mem_append_right _ hb) rfl
  · simp only [idsOf, List.flatMap_append, List.mem_append] at hb
    have hself : ∀ b, b ∈ idsOf L1 ∨ b ∈ idsOf L2 → H' b = none := fun b hb => by
      cases e : H' b with
      | none => rfl
      | some o =>
        rcases hg.new b (by simp [e]) with h1 | h1
        · have := h.sep b (by simp only [idsOf, List.flatMap_append, List.mem_append]; rcases hb with hb | hb; exact .inl (.inl hb); exact .inr hb)
          exact absurd this h1
        · have := (hother b hb).1; omega
    rcases hb with (hb | hb) | hb
    · exact hself b (.inl hb)
    · exact h'.sep b hb
    · exact hself b (.inr hb)
  · simp only [idsOf, List.flatMap_append, List.mem_append] at hb
    have hold : ∀ b, b ∈ idsOf L1 ∨ b ∈ idsOf Lp ∨ b ∈ idsOf L2 → b ∈ ids ∨ w0.heap.size ≤ b := fun b hb => h.new b (by
      simp only [idsOf, List.flatMap_append, List.mem_append]
      rcases hb with hb | hb | hb
      · exact .inl (.inl hb)
      · exact .inl (.inr hb)
      · exact .inr hb)
    rcases hb with (hb | hb) | hb
    · exact hold b (.inl hb)
    · rcases h'.new b hb with h1 | h1
      · exact hold b (.inr (.inl h1))
      · exact .inr (Nat.le_trans h.size h1)
    · exact hold b (.inr (.inr hb))
theorem St.shrink {w0 : World} {ids : List Nat} {H' : GH} {W : World} (h : St w0 ids H' L W) (hl : HLe H H') : St w0 ids H L W :=
  ⟨h.os, h.tape, h.output, h.size, h.keep, h.own, h.nd, fun b hb => (by
    cases e : H b with
    | none => rfl
    | some o => have := h.sep b hb; rw [hl b o e] at this; cases this), h.new, fun b o hb => h.imm b o (hl b o hb)⟩
/-- What a call is: of a function by its number, or of a function's value. -/
def callOf (l : Fm) (c : Call) : Option (Nat × List Value) :=
  match c.callee with
  | .value x => match ev l x with
    | some (.func (.func f) first cap) => match evs l c.args.toList with
      | some vs => some (f, first.toList ++ vs ++ cap.toList)
      | none => none
    | _ => none
  | _ => none
class HasBody (P : Program) (f : Nat) : Prop where
  has : (match P.funcs[f]? with | some fn => fn.body.isSome && !(fn.name == "runtime.NumGoroutine") | none => false) = true
theorem run_call {c : Call} {d : Option Nat} {ty : Nat} {pos : String} {after : Array Edge} {guard : Option (Nat × Bool)} {f : Nat} {args : List Value} [hb : HasBody P f] (hc : callOf l c = some (f, args)) {n : Nat} {a : Act} (ha : Knows n l a) (W : World) :
    (execOp a.eval ⟨d, .call c, ty, pos, after, guard⟩).run P W = .ok (.enter f args.toArray) W := by
  show (do let d ← resolve a.eval c ty; Go.invoke d.target d.args : Sem Next).run P W = _
  have hh := hb.has
  obtain ⟨callee, as, ats⟩ := c
  unfold callOf at hc
  split at hc
  · rename_i x hx
    simp only at hx
    subst hx
    split at hc
    · rename_i f' first cap hf
      split at hc
      · rename_i vs hvs
        simp only [Option.some.injEq, Prod.mk.injEq] at hc
        obtain ⟨rfl, rfl⟩ := hc
        have e1 : as.map a.eval = vs.toArray := ha.evalsA hvs
        simp only [resolve, ha.eval hf, Deferred.ofValue, e1, Sem.run_bind, Sem.run_pure, Result.andThen_ok, Go.invoke, Go.callFunc, run_program]
        split at hh
        · rename_i fn hfn
          simp only [Bool.and_eq_true, Bool.not_eq_true', beq_eq_false_iff_ne] at hh
          have hn : fn.body.isNone = false := by cases hb : fn.body <;> simp_all
          have e2 : (first ++ vs.toArray ++ cap) = (first.toList ++ vs ++ cap.toList).toArray := by
            apply Array.ext'; simp
          simp [hfn, hh.2, hn, e2]
        · cases hh
      · cases hc
    · cases hc
  · cases hc
/-- A call of a function to which nothing of one's own is handed. -/
theorem tstep_call0 {c : Call} {d : Option Nat} {ty : Nat} {pos : String} {after : Array Edge} {guard : Option (Nat × Bool)} {f : Nat} {args : List Value} [hb : HasBody P f] {X : Value → GH → OL → Prop} (hc : callOf l c = some (f, args)) (hf : Ct P f args H [] X) :
    TStep P F l H L ⟨d, .call c, ty, pos, after, guard⟩ (fun r H' L' => Grow F.w0 H H' ∧ (∃ L2, X r H' L2) ∧ L' = L) := fun a W ha hW K Q hK => by
  unfold Oper.wp
  rw [run_call hc ha W]
  have hin : St W (idsOf []) H [] W := St.into (L1 := []) (Lp := []) (L2 := L) (by simpa using hW)
  refine (hf W hin).mono fun e w' he => ?_
  obtain ⟨r, H', L', rfl, hX, hg, hst⟩ := he
  have hb := St.back (L1 := []) (Lp := []) (L2 := L) (by simpa using hW) hst hg
  exact hK r H' L w' ⟨(Grow.refl _ _).trans hW.size hg, ⟨L', hX⟩, rfl⟩ (hb.drop (by simp))
theorem wpl_call0 {ops : Array Oper} {rest : List Oper} {c : Call} {d : Nat} {ty : Nat} {pos : String} {after : Array Edge} {guard : Option (Nat × Bool)} {f : Nat} {args : List Value} [hb : HasBody P f] {X : Value → GH → OL → Prop} (hc : callOf l c = some (f, args)) (hf : Ct P f args H [] X)
    (hw : Wants ops l ⟨some d, .call c, ty, pos, after, guard⟩ true) (hd : Nat.blt d F.n = true) (hk : ∀ r H' L', Grow F.w0 H H' → X r H' L' → WPL P F Q ops rest ((d, r) :: l) H' L) : WPL P F Q ops (⟨some d, .call c, ty, pos, after, guard⟩ :: rest) l H L :=
  wpl_t (tstep_call0 hc hf) hw hd (by rintro v H' L' ⟨h1, ⟨L2, h2⟩, rfl⟩; exact hk v H' L2 h1 h2)
/-- A contract of a function that hands back one value, and makes nothing that lives on. -/
def CtV (P : Program) (f : Nat) (args : List Value) (H : GH) (v : Value) : Prop := Ct P f args H [] (fun r _ _ => r = v)
theorem qstep_call {c : Call} {d : Option Nat} {ty : Nat} {pos : String} {after : Array Edge} {guard : Option (Nat × Bool)} {f : Nat} {args : List Value} [hb : HasBody P f] {v : Value} (hc : callOf l c = some (f, args)) (hf : CtV P f args H v) :
    QStep P F l H L ⟨d, .call c, ty, pos, after, guard⟩ v := fun a ha W hW => by
  unfold Oper.quietAt
  rw [run_call hc ha W]
  refine ⟨rfl, ?_⟩
  have hin : St W (idsOf []) H [] W := St.into (L1 := []) (Lp := []) (L2 := L) (by simpa using hW)
  refine (hf W hin).mono fun e w' he => ?_
  obtain ⟨r, H', L', rfl, rfl, hg, hst⟩ := he
  have hb := St.back (L1 := []) (Lp := []) (L2 := L) (by simpa using hW) hst hg
  exact ⟨rfl, (hb.drop (by simp)).shrink hg.le⟩
/-- A call to which one entry of one's own is handed. -/
theorem tstep_call1 (i : Nat) {c : Call} {d : Option Nat} {ty : Nat} {pos : String} {after : Array Edge} {guard : Option (Nat × Bool)} {f : Nat} {args : List Value} [hb : HasBody P f] {X : Value → GH → OL → Prop} {L1 L2 : OL} {e : Ent} (hc : callOf l c = some (f, args)) (hi : pick i L = some (L1, e, L2)) (hf : Ct P f args H [e] X) :
    TStep P F l H L ⟨d, .call c, ty, pos, after, guard⟩ (fun r H' L' => Grow F.w0 H H' ∧ ∃ Lp, X r H' Lp ∧ L' = L1 ++ Lp ++ L2) := fun a W ha hW K Q hK => by
  unfold Oper.wp
  rw [run_call hc ha W]
  have hp := pick_spec hi
  rw [hp] at hW
  have hW' : St F.w0 F.ids H (L1 ++ [e] ++ L2) W := by simpa using hW
  refine (hf W hW'.into).mono fun x w' he => ?_
  obtain ⟨r, H', L', rfl, hX, hg, hst⟩ := he
  exact hK r H' _ w' ⟨(Grow.refl _ _).trans hW'.size hg, L', hX, rfl⟩ (St.back hW' hst hg)
theorem wpl_call1 (i : Nat) {ops : Array Oper} {rest : List Oper} {c : Call} {d : Nat} {ty : Nat} {pos : String} {after : Array Edge} {guard : Option (Nat × Bool)} {f : Nat} {args : List Value} [hb : HasBody P f] {X : Value → GH → OL → Prop} {L1 L2 : OL} {e : Ent} (hc : callOf l c = some (f, args)) (hi : pick i L = some (L1, e, L2)) (hf : Ct P f args H [e] X)
    (hw : Wants ops l ⟨some d, .call c, ty, pos, after, guard⟩ true) (hd : Nat.blt d F.n = true) (hk : ∀ r H' Lp, Grow F.w0 H H' → X r H' Lp → WPL P F Q ops rest ((d, r) :: l) H' (L1 ++ Lp ++ L2)) : WPL P F Q ops (⟨some d, .call c, ty, pos, after, guard⟩ :: rest) l H L :=
  wpl_t (tstep_call1 i hc hi hf) hw hd (by rintro v H' L' ⟨h1, Lp, h2, rfl⟩; exact hk v H' Lp h1 h2)

/-! ### a function's beginning and end -/
/-- What is to be shown where the body has come to its end. -/
def Ends (P : Program) (fn : Func) (w0 : World) (ids : List Nat) (H0 : GH) (X : Value → GH → OL → Prop) : Post := bodyPost P fn (fun e w' => ∃ r H' L', e = .returned r ∧ X r H' L' ∧ Grow w0 H0 H' ∧ St w0 ids H' L' w')
theorem fn_intro {f : Nat} {fn : Func} {c : Code} {args : List Value} {X : Value → GH → OL → Prop} (hf : P.funcs[f]? = some fn) (hb : fn.body = some c) (hn : Nat.ble args.length fn.ntmps = true)
    (h : ∀ w, WPC P ⟨fn.ntmps, w, idsOf L⟩ (Ends P fn w (idsOf L) H X) c (initF 0 args) H L) : Ct P f args H L X := fun w hw =>
  calls_of_wp hf hb (h w _ w (Knows.init fn.ntmps args hn) hw)
def resL (l : Fm) (L : OL) : List ResultVar → Option (List Value)
  | [] => some []
  | .tmp t :: r => match lk l t with
    | some v => match resL l L r with
      | some vs => some (v :: vs)
      | none => none
    | none => none
  | _ :: _ => none
theorem mapM_two {α β : Type} (xs : Array α) (f : α → Sem β) (W : World) (vs : List β) (h : (xs.toList.mapM f).run P W = .ok vs W) : (xs.mapM f).run P W = .ok vs.toArray W := by
  rw [Array.mapM_eq_mapM_toList, Sem.run_map, h]; rfl
/-- What a function hands back, slot by slot; a struct lies in a block of one's own. -/
inductive Res (P : Program) (l : Fm) (L : OL) : List ResultVar → List Value → Prop
  | nil : Res P l L [] []
  | tmp {t : Nat} {v : Value} {r : List ResultVar} {vs : List Value} (h : lk l t = some v) (hr : Res P l L r vs) : Res P l L (.tmp t :: r) (v :: vs)
  | cell {t T : Nat} {agg : Bool} {k : Nat} [TyK P T agg k] (i : Nat) {g o T' : Nat} {fz : Nat × Nat} {cs us : List Value} {L1 L2 : OL} {v : Value} {r : List ResultVar} {vs : List Value} (h : lk l t = some (.pointer (some ⟨g, o, none⟩)))
      (hi : pick i L = some (L1, .blk g (.cells cs.toArray T' fz), L2)) (hs : sl cs o k = some us) (hv : asVal agg us = some v) (hr : Res P l L r vs) : Res P l L (.cell t T :: r) (v :: vs)
def tupV : List Value → Value
  | [v] => v
  | vs => .tuple vs.toArray
theorem run_res {n : Nat} {a : Act} (ha : Knows n l a) {W : World} (hW : Hs H L W) {rs : List ResultVar} {vs : List Value} (h : Res P l L rs vs) :
    (rs.mapM (fun r => match r with | .tmp t => pure (a.tmps.getD t undef) | .cell b t => do loadVar t (← asAddr (a.tmps.getD b undef)) : ResultVar → Sem Value)).run P W = .ok vs W := by
  induction h with
  | nil => rfl
  | @tmp t v r vs h hr ih =>
    have e : a.tmps.getD t undef = v := by simp [Array.getD_eq_getD_getElem?, ha.at_ t v h]
    simp only [List.mapM_cons, e, Sem.run_bind, Sem.run_pure, Result.andThen_ok]
    rw [ih]; rfl
  | @cell t T agg k inst i g o T' fz cs us L1 L2 v r vs h hi hs hv hr ih =>
    have e : a.tmps.getD t undef = .pointer (some ⟨g, o, none⟩) := by simp [Array.getD_eq_getD_getElem?, ha.at_ t _ h]
    have hb : W.heap[g]? = some (.cells cs.toArray T' fz) := hW.1 (.blk g (.cells cs.toArray T' fz)) (by rw [pick_spec hi]; simp)
    obtain ⟨h1, h2⟩ := sl_spec hs
    have el : (loadVar T ⟨g, o, none⟩).run P W = .ok v W := run_loadVarK h1 (fun t u ht => by
      have hlt : t < k := by rw [← h1]; exact (List.getElem?_eq_some_iff.1 ht).1
      rw [addr_add, cell_of_cells hb, ← ht, ← h2 t hlt]
      simp) hv
    have ea : (asAddr (Value.pointer (some ⟨g, o, none⟩))).run P W = .ok ⟨g, o, none⟩ W := rfl
    simp only [List.mapM_cons, e, Sem.run_bind, ea, Sem.run_pure, Result.andThen_ok, el]
    rw [ih]; rfl
theorem run_results {fn : Func} {n : Nat} {a : Act} (ha : Knows n l a) {W : World} (hW : Hs H L W) {vs : List Value} (h : Res P l L fn.results.toList vs) : (results fn a.tmps).run P W = .ok (tupV vs) W := by
  unfold results
  rw [Sem.run_bind]
  have e : (fn.results.mapM (fun r => match r with | .tmp t => pure (a.tmps.getD t undef) | .cell b t => do loadVar t (← asAddr (a.tmps.getD b undef)) : ResultVar → Sem Value)).run P W = .ok vs.toArray W := mapM_two _ _ W vs (run_res ha hW h)
  erw [e]
  simp only [Result.andThen_ok, Sem.run_pure]
  match vs with
  | [] => rfl
  | [v] => rfl
  | _ :: _ :: _ => simp [tupV]
theorem wpe_end {fn : Func} {w0 : World} {ids : List Nat} {n : Nat} {H0 : GH} {X : Value → GH → OL → Prop} {e : Exit} {vs : List Value} (he : e = .ret ∨ e = .normal) (hr : Res P l L fn.results.toList vs) (L' : OL) (hL : L'.Sublist L) (hg : Grow w0 H0 H) (hx : X (tupV vs) H L') :
    WPE ⟨n, w0, ids⟩ (Ends P fn w0 ids H0 X) e l H L := fun a W ha hW => by
  have h := run_results ha hW.hs hr
  rcases he with rfl | rfl <;> exact ⟨ha.defers, _, h, _, H, L', rfl, hx, hg, hW.drop hL⟩

/-! ### loops -/
def BackP {ι : Type} (F : Fx) (Φ : ι → Prop) (μ : ι → Nat) (m : Nat) (fm : ι → Fm) (hh : ι → GH) (ll : ι → OL) (Q : Post) : Post := Exit.then (fun a' W' => ∃ x', Φ x' ∧ μ x' < m ∧ Knows F.n (fm x') a' ∧ St F.w0 F.ids (hh x') (ll x') W') Q
def CutP {ι : Type} (F : Fx) (Φ : ι → Prop) (fm : ι → Fm) (hh : ι → GH) (ll : ι → OL) (Q : Post) : Post := Exit.then (fun a' W' => ∃ x', Φ x' ∧ Knows F.n (fm x') a' ∧ St F.w0 F.ids (hh x') (ll x') W') Q
/-- A loop: x tells where one is, Φ what holds there, μ how far one has still to go. -/
theorem wpc_loop {ι : Type} {c : Code} (Φ : ι → Prop) (μ : ι → Nat) (fm : ι → Fm) (hh : ι → GH) (ll : ι → OL)
    (round : ∀ x, Φ x → WPC P F (BackP F Φ μ (μ x) fm hh ll Q) c (fm x) (hh x) (ll x)) (x0 : ι) (h0 : Φ x0) : WPC P F Q (.loop c) (fm x0) (hh x0) (ll x0) := fun a W ha hW b k cs => by
  have key : ∀ n x a w, μ x = n → Φ x → Knows F.n (fm x) a → St F.w0 F.ids (hh x) (ll x) w →
      ∃ e a' w', Q e a' w' ∧ Arrives P (lone (b.at a (.code c :: .inLoop c :: k)) cs w) b k cs e a' w' := by
    intro n
    induction n using Nat.strongRecOn with
    | _ n ih =>
      intro x a w hn hΦ hk hS
      obtain ⟨e, a₁, w₁, hq, harr⟩ := round x hΦ a w hk hS b (.inLoop c :: k) cs
      cases e with
      | normal =>
        obtain ⟨x', hΦ', hlt, hk', hS'⟩ := hq
        obtain ⟨e₂, a₂, w₂, hq₂, harr₂⟩ := ih (μ x') (hn ▸ hlt) x' a₁ w₁ rfl hΦ' hk' hS'
        exact ⟨e₂, a₂, w₂, hq₂, .of_steps (Steps.trans harr (.one step_inLoop)) harr₂⟩
      | exit id => exact ⟨_, a₁, w₁, hq, .pass (x := .inLoop c) rfl (fun _ _ => .inl (by simp)) harr⟩
      | goto l => exact ⟨_, a₁, w₁, hq, .pass (x := .inLoop c) rfl (fun _ _ => .inl (by simp)) harr⟩
      | ret => exact ⟨_, a₁, w₁, hq, .pass (x := .inLoop c) rfl (fun _ _ => .inl (by simp)) harr⟩
      | panic ch => exact ⟨_, a₁, w₁, hq, .pass (x := .inLoop c) rfl (fun _ _ => .inl (by simp)) harr⟩
      | outgrown => exact ⟨_, a₁, w₁, hq, .pass (x := .inLoop c) rfl (fun _ _ => .inl (by simp)) harr⟩
  obtain ⟨e, a', w', hq, harr⟩ := key _ x0 a W rfl h0 ha hW
  exact ⟨e, a', w', hq, .of_steps (.one step_loop) harr⟩
/-- The round's end. -/
theorem wpe_back {ι : Type} {Φ : ι → Prop} {μ : ι → Nat} {m : Nat} {fm : ι → Fm} {hh : ι → GH} {ll : ι → OL} (x' : ι) (h : Φ x') (hm : μ x' < m) (hf : subF (fm x') l) (hH : hh x' = H) (hL : (ll x').Sublist L) :
    WPE F (BackP F Φ μ m fm hh ll Q) .normal l H L := fun a W ha hW => by
  subst hH
  exact ⟨x', h, hm, ha.sub hf, hW.drop hL⟩
/-- Two pieces, joined where this is known. -/
theorem wpc_cut {ι : Type} {x y : Code} (Φ : ι → Prop) (fm : ι → Fm) (hh : ι → GH) (ll : ι → OL)
    (h1 : WPC P F (CutP F Φ fm hh ll Q) x l H L) (h2 : ∀ x', Φ x' → WPC P F Q y (fm x') (hh x') (ll x')) : WPC P F Q (.seq x y) l H L := fun a W ha hW =>
  wp_seq (wp_mono (h1 a W ha hW) fun e a' W' h => by
    cases e with
    | normal => obtain ⟨x', h3, h4, h5⟩ := h; exact h2 x' h3 a' W' h4 h5
    | _ => exact h)
theorem wpe_cut {ι : Type} {Φ : ι → Prop} {fm : ι → Fm} {hh : ι → GH} {ll : ι → OL} (x' : ι) (h : Φ x') (hf : subF (fm x') l) (hH : hh x' = H) (hL : (ll x').Sublist L) :
    WPE F (CutP F Φ fm hh ll Q) .normal l H L := fun a W ha hW => by
  subst hH
  exact ⟨x', h, ha.sub hf, hW.drop hL⟩

/-! ### more -/
section
variable {ι : Type} {Φ : ι → Prop} {μ : ι → Nat} {m : Nat} {fm : ι → Fm} {hh : ι → GH} {ll : ι → OL}
theorem wpe_back_exit {i : Nat} (h : WPE F Q (.exit i) l H L) : WPE F (BackP F Φ μ m fm hh ll Q) (.exit i) l H L := h
theorem wpe_back_ret (h : WPE F Q .ret l H L) : WPE F (BackP F Φ μ m fm hh ll Q) .ret l H L := h
theorem wpe_back_goto {i : Nat} (h : WPE F Q (.goto i) l H L) : WPE F (BackP F Φ μ m fm hh ll Q) (.goto i) l H L := h
theorem wpe_cut_exit {i : Nat} (h : WPE F Q (.exit i) l H L) : WPE F (CutP F Φ fm hh ll Q) (.exit i) l H L := h
theorem wpe_cut_ret (h : WPE F Q .ret l H L) : WPE F (CutP F Φ fm hh ll Q) .ret l H L := h
theorem wpe_cut_goto {i : Nat} (h : WPE F Q (.goto i) l H L) : WPE F (CutP F Φ fm hh ll Q) (.goto i) l H L := h
end
theorem wpl_gsplit {ops : Array Oper} {o : Oper} {rest : List Oper} {j d : Nat} {want b : Bool} (h : o.guard = some (j, want)) (hd : (ops[j]?).bind (·.dst) = some d) (hb : lk l d = some (.bool b))
    (ht : b = true → WPL P F Q ops (o :: rest) ((d, .bool true) :: l) H L) (hf : b = false → WPL P F Q ops (o :: rest) ((d, .bool false) :: l) H L) : WPL P F Q ops (o :: rest) l H L := wpl_split d hb ht hf
theorem wpq_gsplit {ops : Array Oper} {o : Oper} {rest : List Oper} {j d : Nat} {want b : Bool} (h : o.guard = some (j, want)) (hd : (ops[j]?).bind (·.dst) = some d) (hb : lk l d = some (.bool b))
    (ht : b = true → WPQ P F ops Q (o :: rest) ((d, .bool true) :: l) H L) (hf : b = false → WPQ P F ops Q (o :: rest) ((d, .bool false) :: l) H L) : WPQ P F ops Q (o :: rest) l H L := wpq_split d hb ht hf
theorem wrap_in {x : Int} (h0 : -9223372036854775808 ≤ x) (h1 : x ≤ 9223372036854775807) : IntKind.i64.wrap x = x := by
  have e1 : (2 : Int) ^ IntKind.i64.bits = 18446744073709551616 := by decide
  have e2 : (2 : Int) ^ (IntKind.i64.bits - 1) = 9223372036854775808 := by decide
  unfold IntKind.wrap
  rw [e1, e2]
  simp only [IntKind.signed, Bool.true_and, decide_eq_true_eq, ge_iff_le]
  split <;> omega
theorem ystep_add64 {n : Nat} {d : Option Nat} {x y : Operand} {t t' ty : Nat} {pos : String} {after : Array Edge} {guard : Option (Nat × Bool)} {i j : Int} (hx : ev l x = some (.int .i64 i)) (hy : ev l y = some (.int .i64 j)) (h0 : -9223372036854775808 ≤ i + j) (h1 : i + j ≤ 9223372036854775807) :
    YStep P n l H L ⟨d, .binOp .add t x y t', ty, pos, after, guard⟩ (.int .i64 (i + j)) := by
  refine ystep_plain ?_
  simp only [plainOp, hx, hy, plainBin, IntKind.same, cond_true, plainInt, wrap_in h0 h1]
theorem ystep_sub64 {n : Nat} {d : Option Nat} {x y : Operand} {t t' ty : Nat} {pos : String} {after : Array Edge} {guard : Option (Nat × Bool)} {i j : Int} (hx : ev l x = some (.int .i64 i)) (hy : ev l y = some (.int .i64 j)) (h0 : -9223372036854775808 ≤ i - j) (h1 : i - j ≤ 9223372036854775807) :
    YStep P n l H L ⟨d, .binOp .sub t x y t', ty, pos, after, guard⟩ (.int .i64 (i - j)) := by
  refine ystep_plain ?_
  simp only [plainOp, hx, hy, plainBin, IntKind.same, cond_true, plainInt, wrap_in h0 h1]

/-! ### entries found by their block -/
class HasB (L : OL) (g : Nat) (cs : outParam (List Value)) (T : outParam Nat) (fz : outParam (Nat × Nat)) (L1 L2 : outParam OL) : Prop where
  eq : L = L1 ++ .blk g (.cells cs.toArray T fz) :: L2
instance HasB.head {g T : Nat} {cs : List Value} {fz : Nat × Nat} {r : OL} : HasB (.blk g (.cells cs.toArray T fz) :: r) g cs T fz [] r := ⟨rfl⟩
instance HasB.tail {g T : Nat} {cs : List Value} {fz : Nat × Nat} {e : Ent} {r L1 L2 : OL} [h : HasB r g cs T fz L1 L2] : HasB (e :: r) g cs T fz (e :: L1) L2 := ⟨by rw [h.eq]; rfl⟩
/-- Two lists joined, laid out. -/
def app : OL → OL → Option OL
  | [], r => some r
  | e :: l, r => match app l r with
    | some t => some (e :: t)
    | none => none
theorem app_spec : ∀ {a b c : OL}, app a b = some c → c = a ++ b
  | [], b, c, h => by simp [app] at h; simp [h]
  | e :: l, b, c, h => by
    simp only [app] at h
    split at h
    · rename_i t ht
      simp only [Option.some.injEq] at h
      subst h
      simp [app_spec ht]
    · cases h
theorem pick_of : ∀ (L1 : OL) (e : Ent) (L2 : OL), pick L1.length (L1 ++ e :: L2) = some (L1, e, L2)
  | [], e, L2 => rfl
  | x :: r, e, L2 => by simp [pick, pick_of r e L2]
theorem ys_load {T : Nat} {agg : Bool} {k n : Nat} {d : Option Nat} {x : Operand} {ty : Nat} {pos : String} {after : Array Edge} {guard : Option (Nat × Bool)} {g o T' : Nat} {fz : Nat × Nat} {cs us : List Value} {L1 L2 : OL} {v : Value}
    (hx : ev l x = some (.pointer (some ⟨g, o, none⟩))) [TyK P T agg k] [h : HasB L g cs T' fz L1 L2] (hs : sl cs o k = some us) (hv : asVal agg us = some v) :
    YStep P n l H L ⟨d, .load T x, ty, pos, after, guard⟩ v := by
  have e := h.eq
  subst e
  exact ystep_load L1.length hx (pick_of _ _ _) hs hv
theorem wl_store {ops : Array Oper} {rest : List Oper} {T : Nat} {agg : Bool} {k : Nat} {x y : Operand} {ty : Nat} {pos : String} {after : Array Edge} {guard : Option (Nat × Bool)} {g o T' : Nat} {cs cs' : List Value} {L1 L2 L' : OL} {v : Value}
    (hx : ev l x = some (.pointer (some ⟨g, o, none⟩))) (hy : ev l y = some v) [TyK P T agg k] [h : HasB L g cs T' (0, 0) L1 L2] (hn : Nat.beq (cellsL v).length k = true) (h1 : oneC (cellsL v) = true) (hs : stl cs o (cellsL v) = some cs') (hL : app L1 (.blk g (.cells cs'.toArray T' (0, 0)) :: L2) = some L')
    (hw : Wants ops l ⟨none, .store T x y, ty, pos, after, guard⟩ true) (hk : WPL P F Q ops rest l H L') : WPL P F Q ops (⟨none, .store T x y, ty, pos, after, guard⟩ :: rest) l H L := by
  have e := h.eq
  subst e
  have e' := app_spec hL
  subst e'
  exact wpl_store L1.length hx hy (pick_of _ _ _) hn h1 hs hw hk
theorem wpc_condT {t : Nat} {x y : Code} {b : Bool} (hc : lk l t = some (.bool b)) (ht : b = true → WPC P F Q x ((t, .bool true) :: l) H L) (hf : b = false → WPC P F Q y ((t, .bool false) :: l) H L) : WPC P F Q (.cond (.tmp t) x y) l H L := fun a W ha hW =>
  wp_cond_split (ha.eval (x := .tmp t) hc) (fun h => ht h a W (ha.isBool hc h) hW) (fun h => hf h a W (ha.isBool hc h) hW)
/-! ### what stands next -/
section
variable {ops : Array Oper} {rest : List Oper} {d : Option Nat} {ty : Nat} {pos : String} {after : Array Edge} {guard : Option (Nat × Bool)}
theorem wpl_wanted {op : Op} {g : Nat × Bool} (hw : Wants ops l ⟨d, op, ty, pos, after, some g⟩ true) (h : WPL P F Q ops (⟨d, op, ty, pos, after, none⟩ :: rest) l H L) : WPL P F Q ops (⟨d, op, ty, pos, after, some g⟩ :: rest) l H L := fun a W ha hW => by
  have := h a W ha hW
  unfold wpList at this ⊢
  rw [hw F.n a ha, if_pos rfl]
  rw [if_pos (by simp [Region.wanted])] at this
  exact this
theorem wpq_wanted {op : Op} {g : Nat × Bool} (hw : Wants ops l ⟨d, op, ty, pos, after, some g⟩ true) (h : WPQ P F ops Q (⟨d, op, ty, pos, after, none⟩ :: rest) l H L) : WPQ P F ops Q (⟨d, op, ty, pos, after, some g⟩ :: rest) l H L := fun a ha => by
  have := h a ha
  unfold wpQuiet at this ⊢
  rw [hw F.n a ha, if_pos rfl]
  rw [if_pos (by simp [Region.wanted])] at this
  exact this
theorem g_guard {op : Op} {g : Nat × Bool} (h : WPL P F Q ops (⟨d, op, ty, pos, after, some g⟩ :: rest) l H L) : WPL P F Q ops (⟨d, op, ty, pos, after, some g⟩ :: rest) l H L := h
theorem gq_guard {op : Op} {g : Nat × Bool} (h : WPQ P F ops Q (⟨d, op, ty, pos, after, some g⟩ :: rest) l H L) : WPQ P F ops Q (⟨d, op, ty, pos, after, some g⟩ :: rest) l H L := h
theorem g_any {o : Oper} (h : WPL P F Q ops (o :: rest) l H L) : WPL P F Q ops (o :: rest) l H L := h
theorem gq_any {o : Oper} (h : WPQ P F ops Q (o :: rest) l H L) : WPQ P F ops Q (o :: rest) l H L := h
theorem g_cond {c : Operand} {x y : Code} (h : WPC P F Q (.cond c x y) l H L) : WPC P F Q (.cond c x y) l H L := h
theorem g_exit {i j : Nat} (h : WPE F (BlockP i Q) (.exit j) l H L) : WPE F (BlockP i Q) (.exit j) l H L := h
theorem g_draw {i : Nat} (h : WPC P F Q (.region i ops true) l H L) : WPC P F Q (.region i ops true) l H L := h
theorem g_wpc {c : Code} (h : WPC P F Q c l H L) : WPC P F Q c l H L := h
theorem g_wpe {e : Exit} (h : WPE F Q e l H L) : WPE F Q e l H L := h
theorem g_move {x : Operand} (h : WPL P F Q ops (⟨d, .move x, ty, pos, after, none⟩ :: rest) l H L) : WPL P F Q ops (⟨d, .move x, ty, pos, after, none⟩ :: rest) l H L := h
theorem gq_move {x : Operand} (h : WPQ P F ops Q (⟨d, .move x, ty, pos, after, none⟩ :: rest) l H L) : WPQ P F ops Q (⟨d, .move x, ty, pos, after, none⟩ :: rest) l H L := h
theorem g_assign {x : Operand} (h : WPL P F Q ops (⟨d, .assign x, ty, pos, after, none⟩ :: rest) l H L) : WPL P F Q ops (⟨d, .assign x, ty, pos, after, none⟩ :: rest) l H L := h
theorem gq_assign {x : Operand} (h : WPQ P F ops Q (⟨d, .assign x, ty, pos, after, none⟩ :: rest) l H L) : WPQ P F ops Q (⟨d, .assign x, ty, pos, after, none⟩ :: rest) l H L := h
theorem g_load {T : Nat} {x : Operand} (h : WPL P F Q ops (⟨d, .load T x, ty, pos, after, none⟩ :: rest) l H L) : WPL P F Q ops (⟨d, .load T x, ty, pos, after, none⟩ :: rest) l H L := h
theorem gq_load {T : Nat} {x : Operand} (h : WPQ P F ops Q (⟨d, .load T x, ty, pos, after, none⟩ :: rest) l H L) : WPQ P F ops Q (⟨d, .load T x, ty, pos, after, none⟩ :: rest) l H L := h
theorem g_fieldAddr {T i : Nat} {x : Operand} (h : WPL P F Q ops (⟨d, .fieldAddr T x i, ty, pos, after, none⟩ :: rest) l H L) : WPL P F Q ops (⟨d, .fieldAddr T x i, ty, pos, after, none⟩ :: rest) l H L := h
theorem gq_fieldAddr {T i : Nat} {x : Operand} (h : WPQ P F ops Q (⟨d, .fieldAddr T x i, ty, pos, after, none⟩ :: rest) l H L) : WPQ P F ops Q (⟨d, .fieldAddr T x i, ty, pos, after, none⟩ :: rest) l H L := h
theorem g_extract {i : Nat} {x : Operand} (h : WPL P F Q ops (⟨d, .extract x i, ty, pos, after, none⟩ :: rest) l H L) : WPL P F Q ops (⟨d, .extract x i, ty, pos, after, none⟩ :: rest) l H L := h
theorem gq_extract {i : Nat} {x : Operand} (h : WPQ P F ops Q (⟨d, .extract x i, ty, pos, after, none⟩ :: rest) l H L) : WPQ P F ops Q (⟨d, .extract x i, ty, pos, after, none⟩ :: rest) l H L := h
theorem g_store {T : Nat} {x y : Operand} (h : WPL P F Q ops (⟨d, .store T x y, ty, pos, after, none⟩ :: rest) l H L) : WPL P F Q ops (⟨d, .store T x y, ty, pos, after, none⟩ :: rest) l H L := h
theorem g_add {t t' : Nat} {x y : Operand} (h : WPL P F Q ops (⟨d, .binOp .add t x y t', ty, pos, after, none⟩ :: rest) l H L) : WPL P F Q ops (⟨d, .binOp .add t x y t', ty, pos, after, none⟩ :: rest) l H L := h
theorem gq_add {t t' : Nat} {x y : Operand} (h : WPQ P F ops Q (⟨d, .binOp .add t x y t', ty, pos, after, none⟩ :: rest) l H L) : WPQ P F ops Q (⟨d, .binOp .add t x y t', ty, pos, after, none⟩ :: rest) l H L := h
theorem g_sub {t t' : Nat} {x y : Operand} (h : WPL P F Q ops (⟨d, .binOp .sub t x y t', ty, pos, after, none⟩ :: rest) l H L) : WPL P F Q ops (⟨d, .binOp .sub t x y t', ty, pos, after, none⟩ :: rest) l H L := h
theorem gq_sub {t t' : Nat} {x y : Operand} (h : WPQ P F ops Q (⟨d, .binOp .sub t x y t', ty, pos, after, none⟩ :: rest) l H L) : WPQ P F ops Q (⟨d, .binOp .sub t x y t', ty, pos, after, none⟩ :: rest) l H L := h
theorem g_bin {b : BinOp} {t t' : Nat} {x y : Operand} (h : WPL P F Q ops (⟨d, .binOp b t x y t', ty, pos, after, none⟩ :: rest) l H L) : WPL P F Q ops (⟨d, .binOp b t x y t', ty, pos, after, none⟩ :: rest) l H L := h
theorem gq_bin {b : BinOp} {t t' : Nat} {x y : Operand} (h : WPQ P F ops Q (⟨d, .binOp b t x y t', ty, pos, after, none⟩ :: rest) l H L) : WPQ P F ops Q (⟨d, .binOp b t x y t', ty, pos, after, none⟩ :: rest) l H L := h
theorem g_pick {c x y : Operand} (h : WPL P F Q ops (⟨d, .pick c x y, ty, pos, after, none⟩ :: rest) l H L) : WPL P F Q ops (⟨d, .pick c x y, ty, pos, after, none⟩ :: rest) l H L := h
theorem gq_pick {c x y : Operand} (h : WPQ P F ops Q (⟨d, .pick c x y, ty, pos, after, none⟩ :: rest) l H L) : WPQ P F ops Q (⟨d, .pick c x y, ty, pos, after, none⟩ :: rest) l H L := h
theorem g_nilCheck {x : Operand} (h : WPL P F Q ops (⟨d, .nilCheck x, ty, pos, after, none⟩ :: rest) l H L) : WPL P F Q ops (⟨d, .nilCheck x, ty, pos, after, none⟩ :: rest) l H L := h
theorem gq_nilCheck {x : Operand} (h : WPQ P F ops Q (⟨d, .nilCheck x, ty, pos, after, none⟩ :: rest) l H L) : WPQ P F ops Q (⟨d, .nilCheck x, ty, pos, after, none⟩ :: rest) l H L := h
theorem g_un {u : UnOp} {t : Nat} {x : Operand} (h : WPL P F Q ops (⟨d, .unOp u t x, ty, pos, after, none⟩ :: rest) l H L) : WPL P F Q ops (⟨d, .unOp u t x, ty, pos, after, none⟩ :: rest) l H L := h
theorem gq_un {u : UnOp} {t : Nat} {x : Operand} (h : WPQ P F ops Q (⟨d, .unOp u t x, ty, pos, after, none⟩ :: rest) l H L) : WPQ P F ops Q (⟨d, .unOp u t x, ty, pos, after, none⟩ :: rest) l H L := h
theorem g_alloc {T : Nat} (h : WPL P F Q ops (⟨d, .alloc T, ty, pos, after, none⟩ :: rest) l H L) : WPL P F Q ops (⟨d, .alloc T, ty, pos, after, none⟩ :: rest) l H L := h
theorem g_box {T : Nat} {x : Operand} (h : WPL P F Q ops (⟨d, .box T x, ty, pos, after, none⟩ :: rest) l H L) : WPL P F Q ops (⟨d, .box T x, ty, pos, after, none⟩ :: rest) l H L := h
theorem g_build {T : Nat} {ps : Array (Nat × Operand)} (h : WPL P F Q ops (⟨d, .build T ps, ty, pos, after, none⟩ :: rest) l H L) : WPL P F Q ops (⟨d, .build T ps, ty, pos, after, none⟩ :: rest) l H L := h
theorem gq_build {T : Nat} {ps : Array (Nat × Operand)} (h : WPQ P F ops Q (⟨d, .build T ps, ty, pos, after, none⟩ :: rest) l H L) : WPQ P F ops Q (⟨d, .build T ps, ty, pos, after, none⟩ :: rest) l H L := h
theorem g_len {T : Nat} {x : Operand} (h : WPL P F Q ops (⟨d, .call { callee := .builtin .len, args := #[x], argTypes := #[T] }, ty, pos, after, none⟩ :: rest) l H L) : WPL P F Q ops (⟨d, .call { callee := .builtin .len, args := #[x], argTypes := #[T] }, ty, pos, after, none⟩ :: rest) l H L := h
theorem gq_len {T : Nat} {x : Operand} (h : WPQ P F ops Q (⟨d, .call { callee := .builtin .len, args := #[x], argTypes := #[T] }, ty, pos, after, none⟩ :: rest) l H L) : WPQ P F ops Q (⟨d, .call { callee := .builtin .len, args := #[x], argTypes := #[T] }, ty, pos, after, none⟩ :: rest) l H L := h
theorem g_call {c : Call} (h : WPL P F Q ops (⟨d, .call c, ty, pos, after, none⟩ :: rest) l H L) : WPL P F Q ops (⟨d, .call c, ty, pos, after, none⟩ :: rest) l H L := h
theorem gq_call {c : Call} (h : WPQ P F ops Q (⟨d, .call c, ty, pos, after, none⟩ :: rest) l H L) : WPQ P F ops Q (⟨d, .call c, ty, pos, after, none⟩ :: rest) l H L := h
theorem g_index {T : Nat} {x y : Operand} (h : WPL P F Q ops (⟨d, .index T x y, ty, pos, after, none⟩ :: rest) l H L) : WPL P F Q ops (⟨d, .index T x y, ty, pos, after, none⟩ :: rest) l H L := h
theorem gq_index {T : Nat} {x y : Operand} (h : WPQ P F ops Q (⟨d, .index T x y, ty, pos, after, none⟩ :: rest) l H L) : WPQ P F ops Q (⟨d, .index T x y, ty, pos, after, none⟩ :: rest) l H L := h
theorem g_field {T i : Nat} {x : Operand} (h : WPL P F Q ops (⟨d, .field T x i, ty, pos, after, none⟩ :: rest) l H L) : WPL P F Q ops (⟨d, .field T x i, ty, pos, after, none⟩ :: rest) l H L := h
theorem gq_field {T i : Nat} {x : Operand} (h : WPQ P F ops Q (⟨d, .field T x i, ty, pos, after, none⟩ :: rest) l H L) : WPQ P F ops Q (⟨d, .field T x i, ty, pos, after, none⟩ :: rest) l H L := h
theorem g_convert {S T : Nat} {x : Operand} (h : WPL P F Q ops (⟨d, .convert S T x, ty, pos, after, none⟩ :: rest) l H L) : WPL P F Q ops (⟨d, .convert S T x, ty, pos, after, none⟩ :: rest) l H L := h
theorem gq_convert {S T : Nat} {x : Operand} (h : WPQ P F ops Q (⟨d, .convert S T x, ty, pos, after, none⟩ :: rest) l H L) : WPQ P F ops Q (⟨d, .convert S T x, ty, pos, after, none⟩ :: rest) l H L := h
theorem g_makeFunc {f : Fn} {xs ys : Array Operand} (h : WPL P F Q ops (⟨d, .makeFunc f xs ys, ty, pos, after, none⟩ :: rest) l H L) : WPL P F Q ops (⟨d, .makeFunc f xs ys, ty, pos, after, none⟩ :: rest) l H L := h
theorem gq_makeFunc {f : Fn} {xs ys : Array Operand} (h : WPQ P F ops Q (⟨d, .makeFunc f xs ys, ty, pos, after, none⟩ :: rest) l H L) : WPQ P F ops Q (⟨d, .makeFunc f xs ys, ty, pos, after, none⟩ :: rest) l H L := h
theorem g_slice {T : Nat} {x : Operand} {a b c : Option Operand} (h : WPL P F Q ops (⟨d, .slice T x a b c, ty, pos, after, none⟩ :: rest) l H L) : WPL P F Q ops (⟨d, .slice T x a b c, ty, pos, after, none⟩ :: rest) l H L := h
theorem gq_slice {T : Nat} {x : Operand} {a b c : Option Operand} (h : WPQ P F ops Q (⟨d, .slice T x a b c, ty, pos, after, none⟩ :: rest) l H L) : WPQ P F ops Q (⟨d, .slice T x a b c, ty, pos, after, none⟩ :: rest) l H L := h
theorem g_indexAddr {T : Nat} {x y : Operand} (h : WPL P F Q ops (⟨d, .indexAddr T x y, ty, pos, after, none⟩ :: rest) l H L) : WPL P F Q ops (⟨d, .indexAddr T x y, ty, pos, after, none⟩ :: rest) l H L := h
theorem gq_indexAddr {T : Nat} {x y : Operand} (h : WPQ P F ops Q (⟨d, .indexAddr T x y, ty, pos, after, none⟩ :: rest) l H L) : WPQ P F ops Q (⟨d, .indexAddr T x y, ty, pos, after, none⟩ :: rest) l H L := h
end
/-! ### further operations -/
class ShK (b : Int) (m : outParam Int) : Prop where
  eq : (2 : Int) ^ (min b.toNat 64) = m ∧ 0 ≤ b
instance : ShK 3 8 := ⟨by decide⟩
instance : ShK 4 16 := ⟨by decide⟩
instance : ShK 8 256 := ⟨by decide⟩
instance : ShK 16 65536 := ⟨by decide⟩
instance : ShK 24 16777216 := ⟨by decide⟩
theorem ystep_mul64 {n : Nat} {d : Option Nat} {x y : Operand} {t t' ty : Nat} {pos : String} {after : Array Edge} {guard : Option (Nat × Bool)} {i j : Int} (hx : ev l x = some (.int .i64 i)) (hy : ev l y = some (.int .i64 j)) (h0 : -9223372036854775808 ≤ i * j) (h1 : i * j ≤ 9223372036854775807) :
    YStep P n l H L ⟨d, .binOp .mul t x y t', ty, pos, after, guard⟩ (.int .i64 (i * j)) := by
  refine ystep_plain ?_
  simp only [plainOp, hx, hy, plainBin, IntKind.same, cond_true, plainInt, wrap_in h0 h1]
theorem wrap8_in {x : Int} (h0 : 0 ≤ x) (h1 : x ≤ 255) : IntKind.u8.wrap x = x := by
  have e1 : (2 : Int) ^ IntKind.u8.bits = 256 := by decide
  unfold IntKind.wrap
  rw [e1]
  simp only [IntKind.signed, Bool.false_and, Bool.false_eq_true, if_false]
  omega
theorem ystep_conv64 {S D n : Nat} {ks : IntKind} [hs : UndK P S (.int ks)] [hd : UndK P D (.int .i64)] {d : Option Nat} {x : Operand} {ty : Nat} {pos : String} {after : Array Edge} {guard : Option (Nat × Bool)} {k : IntKind} {i : Int}
    (hx : ev l x = some (.int k i)) (h0 : -9223372036854775808 ≤ i) (h1 : i ≤ 9223372036854775807) : YStep P n l H L ⟨d, .convert S D x, ty, pos, after, guard⟩ (.int .i64 i) := by
  have := ystep_convInt (P := P) (n := n) (H := H) (L := L) (S := S) (D := D) (ks := ks) (kd := .i64) (d := d) (ty := ty) (pos := pos) (after := after) (guard := guard) hx
  rw [wrap_in h0 h1] at this
  exact this
theorem ystep_conv8 {S D n : Nat} {ks : IntKind} [hs : UndK P S (.int ks)] [hd : UndK P D (.int .u8)] {d : Option Nat} {x : Operand} {ty : Nat} {pos : String} {after : Array Edge} {guard : Option (Nat × Bool)} {k : IntKind} {i : Int}
    (hx : ev l x = some (.int k i)) (h0 : 0 ≤ i) (h1 : i ≤ 255) : YStep P n l H L ⟨d, .convert S D x, ty, pos, after, guard⟩ (.int .u8 i) := by
  have := ystep_convInt (P := P) (n := n) (H := H) (L := L) (S := S) (D := D) (ks := ks) (kd := .u8) (d := d) (ty := ty) (pos := pos) (after := after) (guard := guard) hx
  rw [wrap8_in h0 h1] at this
  exact this
theorem ystep_quo64 {n : Nat} {d : Option Nat} {x y : Operand} {t t' ty : Nat} {pos : String} {after : Array Edge} {guard : Option (Nat × Bool)} {i j : Int} (hx : ev l x = some (.int .i64 i)) (hy : ev l y = some (.int .i64 j)) (h0 : 0 ≤ i) (h1 : i ≤ 9223372036854775807) (h2 : 0 < j) :
    YStep P n l H L ⟨d, .binOp .quo t x y t', ty, pos, after, guard⟩ (.int .i64 (i / j)) := fun a ha W hW => by
  show (do pure (.value (← (do eqGuard .quo t x y (a.eval x) (a.eval y); Go.binOp .quo t (a.eval x) (a.eval y)))) : Sem Next).run P W = _
  rw [ha.eval hx, ha.eval hy, eqGuard_int]
  have hj : ¬ j = 0 := by omega
  have hq : i.tdiv j = i / j := Int.tdiv_eq_ediv_of_nonneg h0
  have hw : IntKind.i64.wrap (i / j) = i / j := wrap_in (Int.le_trans (by omega) (Int.ediv_nonneg h0 (by omega))) (Int.le_trans (Int.ediv_le_self _ h0) h1)
  refine runV ?_
  unfold Go.binOp
  simp [Op.intDiv, hj, hq, hw, pure, Sem.run]
theorem ystep_rem64 {n : Nat} {d : Option Nat} {x y : Operand} {t t' ty : Nat} {pos : String} {after : Array Edge} {guard : Option (Nat × Bool)} {i j : Int} (hx : ev l x = some (.int .i64 i)) (hy : ev l y = some (.int .i64 j)) (h0 : 0 ≤ i) (h2 : 0 < j) :
    YStep P n l H L ⟨d, .binOp .rem t x y t', ty, pos, after, guard⟩ (.int .i64 (i % j)) := fun a ha W hW => by
  show (do pure (.value (← (do eqGuard .rem t x y (a.eval x) (a.eval y); Go.binOp .rem t (a.eval x) (a.eval y)))) : Sem Next).run P W = _
  rw [ha.eval hx, ha.eval hy, eqGuard_int]
  have hj : ¬ j = 0 := by omega
  have hq : i.tmod j = i % j := Int.tmod_eq_emod_of_nonneg h0
  refine runV ?_
  unfold Go.binOp
  simp [Op.intDiv, hj, hq, pure, Sem.run]
theorem ystep_shl64 {n : Nat} {d : Option Nat} {x y : Operand} {t t' ty : Nat} {pos : String} {after : Array Edge} {guard : Option (Nat × Bool)} {i j m : Int} {kj : IntKind} (hx : ev l x = some (.int .i64 i)) (hy : ev l y = some (.int kj j)) [hs : ShK j m] :
    YStep P n l H L ⟨d, .binOp .shl t x y t', ty, pos, after, guard⟩ (.int .i64 (IntKind.i64.wrap (i * m))) := fun a ha W hW => by
  show (do pure (.value (← (do eqGuard .shl t x y (a.eval x) (a.eval y); Go.binOp .shl t (a.eval x) (a.eval y)))) : Sem Next).run P W = _
  rw [ha.eval hx, ha.eval hy, eqGuard_int]
  have hj : ¬ j < 0 := by have := hs.eq.2; omega
  have hm : (2 : Int) ^ (min j.toNat IntKind.i64.bits) = m := hs.eq.1
  refine runV ?_
  unfold Go.binOp
  simp [Op.shift, hj, hm, pure, Sem.run]
def lor (k : IntKind) (i j : Int) : Int := k.wrap (BitVec.ofInt k.bits i ||| BitVec.ofInt k.bits j).toNat
theorem ystep_or {n : Nat} {d : Option Nat} {x y : Operand} {t t' ty : Nat} {pos : String} {after : Array Edge} {guard : Option (Nat × Bool)} {i j : Int} {k : IntKind} (hx : ev l x = some (.int k i)) (hy : ev l y = some (.int k j)) :
    YStep P n l H L ⟨d, .binOp .or t x y t', ty, pos, after, guard⟩ (.int k (lor k i j)) := fun a ha W hW => by
  show (do pure (.value (← (do eqGuard .or t x y (a.eval x) (a.eval y); Go.binOp .or t (a.eval x) (a.eval y)))) : Sem Next).run P W = _
  rw [ha.eval hx, ha.eval hy, eqGuard_int]
  refine runV ?_
  unfold Go.binOp
  simp [Op.intBits, lor, pure, Sem.run]
theorem ystep_cat {n : Nat} {d : Option Nat} {x y : Operand} {t t' ty : Nat} {pos : String} {after : Array Edge} {guard : Option (Nat × Bool)} {s u : ByteArray} (hx : ev l x = some (.string s)) (hy : ev l y = some (.string u)) (h : (s.size : Int) + u.size ≤ 9223372036854775807) :
    YStep P n l H L ⟨d, .binOp .add t x y t', ty, pos, after, guard⟩ (.string (s ++ u)) := fun a ha W hW => by
  show (do pure (.value (← (do eqGuard .add t x y (a.eval x) (a.eval y); Go.binOp .add t (a.eval x) (a.eval y)))) : Sem Next).run P W = _
  rw [ha.eval hx, ha.eval hy, eqGuard_str]
  have hm : IntKind.i64.max = 9223372036854775807 := by decide
  refine runV ?_
  unfold Go.binOp
  simp only [Op.stringOp, hm]
  rw [if_neg (by push_cast; omega)]
  rfl
theorem ystep_min {n : Nat} {d : Option Nat} {x y : Operand} {ts : Array Nat} {ty : Nat} {pos : String} {after : Array Edge} {guard : Option (Nat × Bool)} {i j : Int} (hx : ev l x = some (.int .i64 i)) (hy : ev l y = some (.int .i64 j)) :
    YStep P n l H L ⟨d, .call { callee := .builtin .min, args := #[x, y], argTypes := ts }, ty, pos, after, guard⟩ (.int .i64 (min i j)) := fun a ha W hW => by
  show (do let d ← resolve a.eval { callee := .builtin .min, args := #[x, y], argTypes := ts } ty; Go.invoke d.target d.args : Sem Next).run P W = _
  have hm : (if j < i then j else i) = min i j := by split <;> omega
  simp [resolve, Go.invoke, Go.builtin, Builtin.min_, Builtin.min2, ha.eval hx, ha.eval hy, hm]
theorem ystep_max {n : Nat} {d : Option Nat} {x y : Operand} {ts : Array Nat} {ty : Nat} {pos : String} {after : Array Edge} {guard : Option (Nat × Bool)} {i j : Int} (hx : ev l x = some (.int .i64 i)) (hy : ev l y = some (.int .i64 j)) :
    YStep P n l H L ⟨d, .call { callee := .builtin .max, args := #[x, y], argTypes := ts }, ty, pos, after, guard⟩ (.int .i64 (max i j)) := fun a ha W hW => by
  show (do let d ← resolve a.eval { callee := .builtin .max, args := #[x, y], argTypes := ts } ty; Go.invoke d.target d.args : Sem Next).run P W = _
  have hm : (if i < j then j else i) = max i j := by split <;> omega
  simp [resolve, Go.invoke, Go.builtin, Builtin.max_, Builtin.max2, ha.eval hx, ha.eval hy, hm]
attribute [irreducible] tst WPC WPL WPE WPQ ScopeP ThenP BlockP BackP CutP Ends QStep YStep TStep Wants Ct
end Go.Eng
