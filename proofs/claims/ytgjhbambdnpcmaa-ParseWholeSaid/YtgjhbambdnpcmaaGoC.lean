/- Proved on the way: The engine, part 3: functions without a body, several entries handed on, slices that grow, texts that are ranged over, regions in any order, jumps. The engine, part 4: regions in any order that store, call or allocate besides. Written by a program. The engine, part 5: maps, what stays from now on, elements that lie in what stays. The engine, part 6: regions in any order, of which some operations neither look nor store. The engine, part 7: unsigned numbers, shifts. The engine, part 8: slices that are nil, appending what stays. Values as trees, and how they lie in memory. -/
import Derived.Test.YtgjhbambdnpcmaaGoB
import Derived.ScopeJumps
import Derived.Lib.Bytealg
import Derived.Laws.BytesArg
import Derived.OrdersHeld
import Derived.Deep.RegionHeld3
set_option linter.unusedVariables false
set_option linter.unusedSimpArgs false
namespace Go.Eng
open Go
variable {P : Program} {F : Fx} {Q : Post} {l : Fm} {H : GH} {L : OL}

/-! ### functions without a body -/
class ExtK (P : Program) (f : Nat) (e : outParam (Array Value → Sem Value)) : Prop where
  has : ∃ fn, P.funcs[f]? = some fn ∧ (fn.name == "runtime.NumGoroutine") = false ∧ fn.body.isNone = true ∧ Extern.findNext fn = none ∧ Extern.find fn = some e
theorem ystep_ext {n f : Nat} {e : Array Value → Sem Value} [h : ExtK P f e] {c : Call} {d : Option Nat} {ty : Nat} {pos : String} {after : Array Edge} {guard : Option (Nat × Bool)} {args : List Value} {v : Value} (hc : callOf l c = some (f, args)) (hv : ∀ W, (e args.toArray).run P W = .ok v W) :
    YStep P n l H L ⟨d, .call c, ty, pos, after, guard⟩ v := by
  unfold YStep
  intro a ha W hW
  show (do let d ← resolve a.eval c ty; Go.invoke d.target d.args : Sem Next).run P W = _
  obtain ⟨fn, h1, h2, h3, h4, h5⟩ := h.has
  obtain ⟨callee, as, ats⟩ := c
  unfold callOf at hc
  split at hc
  · rename_i x hx
    simp only at hx
    subst hx
    split at hc
    · rename_i f' first cap hf
      split at hc
      · rename_i vs hvs
        simp only [Option.some.injEq, Prod.mk.injEq] at hc
        obtain ⟨rfl, rfl⟩ := hc
        have e1 : as.map a.eval = vs.toArray := ha.evalsA hvs
        have e2 : (first ++ vs.toArray ++ cap) = (first.toList ++ vs ++ cap.toList).toArray := by apply Array.ext'; simp
        simp only [resolve, ha.eval hf, Deferred.ofValue, e1, Sem.run_bind, Sem.run_pure, Result.andThen_ok, Go.invoke, Go.callFunc, run_program, h1, h2, h3, h4, h5, e2, Bool.false_eq_true, if_false, if_true, run_mark, hv]
      · cases hc
    · cases hc
  · cases hc
theorem scle {d : Nat} {ty : Nat} {pos : String} {after : Array Edge} {ops : Array Oper} {rest : List Oper} {f : Nat} {e : Array Value → Sem Value} {c : Call} {args : List Value} {v : Value} (hc : callOf l c = some (f, args)) [ExtK P f e] (hv : ∀ W, (e args.toArray).run P W = .ok v W) (hd : Nat.blt d F.n = true)
    (h : WPL P F Q ops rest ((d, v) :: l) H L) : WPL P F Q ops (⟨some d, .call c, ty, pos, after, none⟩ :: rest) l H L := wpl_y (ystep_ext hc hv).q hd h

/-! ### calls to which several entries are handed -/
def splitK : Nat → OL → Option (OL × OL)
  | 0, r => some ([], r)
  | k + 1, e :: r => match splitK k r with
    | some (a, b) => some (e :: a, b)
    | none => none
  | _ + 1, [] => none
theorem splitK_spec : ∀ {k : Nat} {L a b : OL}, splitK k L = some (a, b) → L = a ++ b
  | 0, L, a, b, h => by simp [splitK] at h; obtain ⟨rfl, rfl⟩ := h; rfl
  | k + 1, [], a, b, h => by simp [splitK] at h
  | k + 1, e :: r, a, b, h => by
    simp only [splitK] at h
    split at h
    · rename_i x y hp
      simp at h
      obtain ⟨rfl, rfl⟩ := h
      simp [splitK_spec hp]
    · cases h
theorem tstep_callS {c : Call} {d : Option Nat} {ty : Nat} {pos : String} {after : Array Edge} {guard : Option (Nat × Bool)} {f : Nat} {args : List Value} [hb : HasBody P f] {X : Value → GH → OL → Prop} {L1 Lp L2 : OL} (hc : callOf l c = some (f, args)) (hf : Ct P f args H Lp X) :
    TStep P F l H (L1 ++ Lp ++ L2) ⟨d, .call c, ty, pos, after, guard⟩ (fun r H' L' => Grow F.w0 H H' ∧ ∃ Lq, X r H' Lq ∧ L' = L1 ++ Lq ++ L2) := by
  unfold TStep
  intro a W ha hW K Q hK
  unfold Oper.wp
  rw [run_call hc ha W]
  unfold Ct at hf
  refine (hf W hW.into).mono fun x w' he => ?_
  obtain ⟨r, H', L', rfl, hX, hg, hst⟩ := he
  exact hK r H' _ w' ⟨(Grow.refl _ _).trans hW.size hg, L', hX, rfl⟩ (St.back hW hst hg)
theorem scs (k : Nat) {ops : Array Oper} {rest : List Oper} {c : Call} {d : Nat} {ty : Nat} {pos : String} {after : Array Edge} {f : Nat} {args : List Value} {X : Value → GH → OL → Prop} {L1 R Lp L2 : OL} (hc : callOf l c = some (f, args)) [HasBody P f] (hk : splitK k L = some (L1, R)) (hf : Ct P f args H Lp X) (hR : R = Lp ++ L2)
    (hd : Nat.blt d F.n = true) (h : ∀ r H' Lq, Grow F.w0 H H' → X r H' Lq → WPL P F Q ops rest ((d, r) :: l) H' (L1 ++ Lq ++ L2)) : WPL P F Q ops (⟨some d, .call c, ty, pos, after, none⟩ :: rest) l H L := by
  have e := splitK_spec hk
  subst hR
  rw [← List.append_assoc] at e
  subst e
  exact wpl_t (tstep_callS hc hf) (wants_none rfl) hd (by rintro v H' L' ⟨h1, Lq, h2, rfl⟩; exact h v H' Lq h1 h2)
/-- A contract that tells nothing of what stays: the ghost is the old one behind it. -/
def CtL (P : Program) (f : Nat) (args : List Value) (H : GH) (Lp : OL) (X : Value → OL → Prop) : Prop := Ct P f args H Lp (fun r _ L' => X r L')
theorem tstep_callQ {c : Call} {d : Option Nat} {ty : Nat} {pos : String} {after : Array Edge} {guard : Option (Nat × Bool)} {f : Nat} {args : List Value} [hb : HasBody P f] {X : Value → OL → Prop} {L1 Lp L2 : OL} (hc : callOf l c = some (f, args)) (hf : CtL P f args H Lp X) :
    TStep P F l H (L1 ++ Lp ++ L2) ⟨d, .call c, ty, pos, after, guard⟩ (fun r H' L' => H' = H ∧ ∃ Lq, X r Lq ∧ L' = L1 ++ Lq ++ L2) := by
  unfold TStep
  intro a W ha hW K Q hK
  unfold Oper.wp
  rw [run_call hc ha W]
  unfold CtL Ct at hf
  refine (hf W hW.into).mono fun x w' he => ?_
  obtain ⟨r, H', L', rfl, hX, hg, hst⟩ := he
  exact hK r H _ w' ⟨rfl, L', hX, rfl⟩ ((St.back hW hst hg).shrink hg.le)
theorem scq (k : Nat) {ops : Array Oper} {rest : List Oper} {c : Call} {d : Nat} {ty : Nat} {pos : String} {after : Array Edge} {f : Nat} {args : List Value} {X : Value → OL → Prop} {L1 R Lp L2 : OL} (hc : callOf l c = some (f, args)) [HasBody P f] (hk : splitK k L = some (L1, R)) (hf : CtL P f args H Lp X) (hR : R = Lp ++ L2)
    (hd : Nat.blt d F.n = true) (h : ∀ r Lq, X r Lq → WPL P F Q ops rest ((d, r) :: l) H (L1 ++ Lq ++ L2)) : WPL P F Q ops (⟨some d, .call c, ty, pos, after, none⟩ :: rest) l H L := by
  have e := splitK_spec hk
  subst hR
  rw [← List.append_assoc] at e
  subst e
  exact wpl_t (tstep_callQ hc hf) (wants_none rfl) hd (by rintro v H' L' ⟨rfl, Lq, h2, rfl⟩; exact h v Lq h2)
/-- The list of what is owned, laid out. -/
def nrm : OL → Option OL
  | [] => some []
  | e :: r => match nrm r with
    | some t => some (e :: t)
    | none => none
theorem nrm_spec : ∀ {L L' : OL}, nrm L = some L' → L = L'
  | [], L', h => by simp [nrm] at h; exact h.symm
  | e :: r, L', h => by
    simp only [nrm] at h
    split at h
    · rename_i t ht
      simp only [Option.some.injEq] at h
      subst h
      rw [nrm_spec ht]
    · cases h
theorem wnL {ops : Array Oper} {rest : List Oper} {L' : OL} (hn : nrm L = some L') (h : WPL P F Q ops rest l H L') : WPL P F Q ops rest l H L := by rw [nrm_spec hn]; exact h
theorem wnC {c : Code} {L' : OL} (hn : nrm L = some L') (h : WPC P F Q c l H L') : WPC P F Q c l H L := by rw [nrm_spec hn]; exact h

/-! ### slices that grow -/
theorem St.addRow {w0 : World} {ids : List Nat} {W : World} (h : St w0 ids H L W) (T k : Nat) : St w0 ids H (.row T k none 0 [] :: L) W :=
  ⟨h.os, h.tape, h.output, h.size, h.keep, fun e he => by
    rcases List.mem_cons.1 he with rfl | he
    · exact ⟨rfl, rfl⟩
    · exact h.own e he, by simpa [idsOf, Ent.ids] using h.nd, by simpa [idsOf, Ent.ids] using h.sep, by simpa [idsOf, Ent.ids] using h.new, h.imm⟩
theorem wrL (T k : Nat) {ops : Array Oper} {rest : List Oper} (h : WPL P F Q ops rest l H (.row T k none 0 [] :: L)) : WPL P F Q ops rest l H L := by
  unfold WPL at *
  exact fun a W ha hW => h a W ha (hW.addRow T k)
theorem wrC (T k : Nat) {c : Code} (h : WPC P F Q c l H (.row T k none 0 [] :: L)) : WPC P F Q c l H L := by
  unfold WPC at *
  exact fun a W ha hW => h a W ha (hW.addRow T k)
class HasR (L : OL) (A : Option Addr) (T k : Nat) (c : outParam Nat) (xss : outParam (List (List Value))) (L1 L2 : outParam OL) : Prop where
  eq : L = L1 ++ .row T k A c xss :: L2
instance HasR.head {A : Option Addr} {T k c : Nat} {xss : List (List Value)} {r : OL} : HasR (.row T k A c xss :: r) A T k c xss [] r := ⟨rfl⟩
instance HasR.tail {A : Option Addr} {T k c : Nat} {xss : List (List Value)} {e : Ent} {r L1 L2 : OL} [h : HasR r A T k c xss L1 L2] : HasR (e :: r) A T k c xss (e :: L1) L2 := ⟨by rw [h.eq]; rfl⟩
theorem row_owns {W : World} {T k : Nat} {A : Option Addr} {c : Nat} {xss : List (List Value)} (h : Ent.ok W (.row T k A c xss)) : W.ownsRow 0 T k (.slice A xss.length c) xss.length xss.flatten := by
  cases A with
  | none =>
    obtain ⟨rfl, rfl⟩ := h
    exact World.ownsRow_nil W 0 T k
  | some a =>
    obtain ⟨h1, h2, h3, h4, h5, rest, hl, hh⟩ := h
    obtain ⟨g, off, spot⟩ := a
    simp only at h2 h3
    subst h2 h3
    have hfl : xss.flatten.length = xss.length * k := by
      clear hh hl h4
      induction xss with
      | nil => simp
      | cons x r ih =>
        simp only [List.flatten_cons, List.length_append, List.length_cons]
        rw [ih (fun y hy => h1 y (List.mem_cons_of_mem _ hy)), h1 x (List.mem_cons_self ..)]
        rw [Nat.add_mul]; omega
    exact ⟨hfl, .inr ⟨g, c, _, rfl, Nat.zero_le _, hh, h4, h5, by simpa using hl, by simp [← hfl]⟩⟩
theorem owns_row {W : World} {T k : Nat} {v : Value} {xss : List (List Value)} (hx : ∀ xs ∈ xss, xs.length = k) (h : W.ownsRow 0 T k v xss.length xss.flatten) : ∃ A c, v = .slice A xss.length c ∧ Ent.ok W (.row T k A c xss) := by
  rcases h.2 with ⟨rfl, hn⟩ | ⟨g, cap, cur, rfl, _, hh, hc, hm, hs, ht⟩
  · exact ⟨none, 0, by rw [hn], List.eq_nil_of_length_eq_zero hn, rfl⟩
  · refine ⟨_, cap, rfl, hx, rfl, rfl, hc, hm, cur.toList.drop (xss.length * k), ?_, ?_⟩
    · have hle : xss.length * k ≤ cap * k := Nat.mul_le_mul_right _ hc
      have hl := h.1
      have : cur.toList.length = cap * k := by simpa using hs
      simp only [List.length_append, List.length_drop, hl, this]; omega
    · rw [← ht, List.take_append_drop]; simpa using hh
theorem tstep_append {t e k bytes : Nat} {z : List Value} [hk : SliceK P t e k bytes z] {d : Option Nat} {s x : Operand} {ty : Nat} {pos : String} {after : Array Edge} {guard : Option (Nat × Bool)} {A : Option Addr} {n c g mc T' : Nat} {fz : Nat × Nat} {xss : List (List Value)} {cs : List Value} {L1 L2 M1 M2 : OL}
    (hs : ev l s = some (.slice A n c)) (hx : ev l x = some (.slice (some ⟨g, 0, none⟩) 1 mc)) (hR : L = L1 ++ .row e k A c xss :: L2) (hB : L = M1 ++ .blk g (.cells cs.toArray T' fz) :: M2) (hn : n = xss.length) (hl : cs.length = k) (h1 : oneC cs = true) (hz : z.length = k) (hk0 : 0 < k) (hb : (xss.length + 1) * bytes ≤ 140737488355328) (hb0 : 0 < bytes) :
    TStep P F l H L ⟨d, .call { callee := .builtin .append, args := #[s, x], argTypes := #[t, t] }, ty, pos, after, guard⟩ (fun r H' L' => H' = H ∧ ∃ A' c', r = .slice A' (xss.length + 1) c' ∧ L' = L1 ++ .row e k A' c' (xss ++ [cs]) :: L2) := by
  unfold TStep
  intro a W ha hW K Q hK
  show Oper.upon P _ a K Q ((do let d ← resolve a.eval { callee := .builtin .append, args := #[s, x], argTypes := #[t, t] } ty; Go.invoke d.target d.args : Sem Next).run P W)
  have hrow : Ent.ok W (.row e k A c xss) := hW.own _ (by rw [hR]; simp)
  have hblk : W.heap[g]? = some (.cells cs.toArray T' fz) := hW.own (.blk g (.cells cs.toArray T' fz)) (by rw [hB]; simp)
  have hlen : ∀ xs ∈ xss, xs.length = k := by
    cases A with
    | none => obtain ⟨rfl, _⟩ := hrow; simp
    | some a => exact hrow.1
  obtain ⟨inf, hinf, hi'⟩ := Option.map_eq_some_iff.1 hk.info
  simp only [Prod.mk.injEq] at hi'
  obtain ⟨hi1, hi2, hi3⟩ := hi'
  obtain ⟨zv, hzv, hz'⟩ := Option.map_eq_some_iff.1 hi3
  have hzs : zv.cells.size = k := by rw [← hz, ← hz']; simp
  have hlt : xss.length + 1 ≤ 140737488355328 := Nat.le_trans (Nat.le_mul_of_pos_right _ hb0) hb
  obtain ⟨v', w', hrun, hown, hgr, _, hat⟩ := run_append_own_at (P := P) W 0 t ty e inf zv k bytes hk.und hinf hzv hi1 hi2 hzs hk0 (.slice A n c) xss.length xss.flatten (by rw [hn]; exact row_owns hrow) ⟨g, 0, none⟩ 1 mc cs (by rw [hl, Nat.one_mul])
    (fun j u hu => by rw [addr_add, cell_of_cells hblk]; simpa using hu) (oneC_spec h1) (by simp only [maxLen]; omega) hb (Nat.zero_le _)
  have hrun' : (do let d ← resolve a.eval { callee := .builtin .append, args := #[s, x], argTypes := #[t, t] } ty; Go.invoke d.target d.args : Sem Next).run P W = .ok (.value v') w' := by
    have e1 : (#[s, x] : Array Operand).map a.eval = #[.slice A n c, .slice (some ⟨g, 0, none⟩) 1 mc] := by simp [ha.eval hs, ha.eval hx]
    simp only [resolve, Sem.run_bind, Sem.run_pure, Result.andThen_ok, Go.invoke, Go.builtin, e1, hrun]
  rw [hrun']
  have hfl : xss.flatten ++ cs = (xss ++ [cs]).flatten := by simp
  rw [hfl, show xss.length + 1 = (xss ++ [cs]).length by simp] at hown
  obtain ⟨A', c', rfl, hok⟩ := owns_row (fun xs hxs => by
    rcases List.mem_append.1 hxs with h | h
    · exact hlen xs h
    · simp at h; rw [h]; exact hl) hown
  refine hK _ H _ w' ⟨rfl, A', c', by simp, rfl⟩ ?_
  rw [hR] at hW
  refine hW.turn hgr.os hgr.tape hgr.output hgr.size (fun b hb hn => hgr.block b hb ?_) hok ?_
  · cases A with
    | none => simp [Value.ownBlock]
    | some a => simp [Value.ownBlock]; simpa [Ent.ids] using hn
  · cases A' with
    | none =>
      cases A with
      | none => exact .inl rfl
      | some a => simp [Value.ownBlock] at hat
    | some a' =>
      cases A with
      | none =>
        simp [Value.ownBlock] at hat
        exact .inr ⟨a'.block, rfl, by omega⟩
      | some a =>
        simp [Value.ownBlock] at hat
        rcases hat with h | h
        · exact .inl (by simp [Ent.ids, h])
        · exact .inr ⟨a'.block, rfl, by omega⟩
theorem sap {ops : Array Oper} {rest : List Oper} {t e k bytes : Nat} {z : List Value} {d : Nat} {s x : Operand} {ty : Nat} {pos : String} {after : Array Edge} {A : Option Addr} {n c g mc T' : Nat} {fz : Nat × Nat} {xss : List (List Value)} {cs : List Value} {L1 L2 M1 M2 : OL}
    (hs : ev l s = some (.slice A n c)) (hx : ev l x = some (.slice (some ⟨g, 0, none⟩) 1 mc)) [SliceK P t e k bytes z] [hR : HasR L A e k c xss L1 L2] [hB : HasB L g cs T' fz M1 M2] (hn : n = xss.length) (hl : Nat.beq cs.length k = true) (h1 : oneC cs = true) (hz : Nat.beq z.length k = true) (hk0 : Nat.blt 0 k = true) (hb0 : Nat.blt 0 bytes = true) (hb : (xss.length + 1) * bytes ≤ 140737488355328) (hd : Nat.blt d F.n = true)
    (h : ∀ A' c', WPL P F Q ops rest ((d, .slice A' (xss.length + 1) c') :: l) H (L1 ++ .row e k A' c' (xss ++ [cs]) :: L2)) : WPL P F Q ops (⟨some d, .call { callee := .builtin .append, args := #[s, x], argTypes := #[t, t] }, ty, pos, after, none⟩ :: rest) l H L :=
  wpl_t (tstep_append hs hx hR.eq hB.eq hn (Nat.eq_of_beq_eq_true hl) h1 (Nat.eq_of_beq_eq_true hz) (Nat.blt_eq ▸ hk0) hb (Nat.blt_eq ▸ hb0)) (wants_none rfl) hd (by rintro v H' L' ⟨rfl, A', c', rfl, rfl⟩; exact h A' c')

/-! ### a slice's literal -/
def fillS (k len : Nat) (z : List Value) (ps : List (Nat × Value)) : Option (List Value) := fillL ((List.range len).map fun i => (i * k, k)) ((List.range len).flatMap fun _ => z) ps
theorem run_buildSlice {T e k bytes len : Nat} {z cs : List Value} [h : SliceK P T e k bytes z] {parts : Array (Nat × Value)} (hz : Nat.beq z.length k = true) (hs : Nat.ble (len * k) 4096 = true) (hk : Nat.blt 0 (len * k) = true) (hf : fillS k len z parts.toList = some cs) (W : World) :
    (Instr.buildSlice T len parts).run P W = .ok (.slice (some ⟨W.heap.size, 0, none⟩) len len) { W with heap := W.heap.push (.cells cs.toArray e) } := by
  obtain ⟨inf, hinf, hi'⟩ := Option.map_eq_some_iff.1 h.info
  simp only [Prod.mk.injEq] at hi'
  obtain ⟨hi1, hi2, hi3⟩ := hi'
  obtain ⟨zv, hzv, hz'⟩ := Option.map_eq_some_iff.1 hi3
  have hzl : z.length = k := Nat.eq_of_beq_eq_true hz
  have hkk : 0 < len * k := Nat.blt_eq ▸ hk
  have hss : len * k ≤ 4096 := Nat.le_of_ble_eq_true hs
  have hzc : zv.cells = z.toArray := by rw [← hz']
  have hinit : ((Array.range (len * k)).map fun i => (z.toArray : Array Value)[i % z.toArray.size]!) = ((List.range len).flatMap fun _ => z).toArray := by
    apply Array.ext'
    simp only [Array.toList_map, Array.toList_range, List.size_toArray, hzl]
    clear hf hs hss hk hkk
    induction len with
    | zero => simp
    | succ n ih =>
      rw [Nat.add_mul, Nat.one_mul, List.range_add, List.map_append, ih]
      simp only [List.range_succ, List.flatMap_append, List.flatMap_singleton]
      congr 1
      apply List.ext_getElem
      · simp [hzl]
      · intro i h1 h2
        simp only [List.getElem_map, List.getElem_range]
        have hi : i < k := by simpa using h1
        have : (n * k + i) % k = i := by rw [Nat.mul_comm, Nat.mul_add_mod]; exact Nat.mod_eq_of_lt hi
        rw [this, getElem!_pos z.toArray i (by simp [hzl, hi])]
        simp
  unfold Instr.buildSlice
  have e1 : (underlying T).run P W = .ok (.slice e) W := by simp [underlying, h.und]
  have e2 : (Go.sizeOf e).run P W = .ok k W := by simp [Go.sizeOf, typeInfo, hinf, hi1]
  have e3 : (zeroValue e).run P W = .ok zv W := by simp [zeroValue, typeInfo, hinf, hzv]
  rw [Sem.run_bind, e1]
  simp only [Result.andThen_ok]
  rw [Sem.run_bind, e2]
  simp only [Result.andThen_ok]
  have hnot : ¬ (len * k > 2 ^ 24) := by
    have : (2 : Nat) ^ 24 = 16777216 := by decide
    omega
  have hne : ¬ (len * k = 0) := by omega
  have hfill := fill_of (((List.range len).map fun i => (i * k, k)).toArray) parts.toList _ cs (by simpa [fillS] using hf)
  have hplaces : ∀ (ps : List (Nat × Value)) (c c' : Array Value), Instr.fill ((((List.range len).map fun i => (i * k, k)).toArray)[·]?) c ps = some c' → Instr.fill (fun i => some (i * k, k)) c ps = some c' := by
    intro ps
    induction ps with
    | nil => intro c c' h; exact h
    | cons p r ih =>
      intro c c' h
      simp only [Instr.fill] at h ⊢
      split at h
      · cases h
      · rename_i off sz hp
        have hp' : off = p.1 * k ∧ sz = k := by
          simp only [List.getElem?_toArray, List.getElem?_map, Option.map_eq_some_iff] at hp
          obtain ⟨j, hj, hj2⟩ := hp
          have := List.getElem?_eq_some_iff.1 hj
          obtain ⟨hlt, hje⟩ := this
          simp at hje
          subst hje
          simp at hj2
          exact ⟨hj2.1.symm, hj2.2.symm⟩
        obtain ⟨rfl, rfl⟩ := hp'
        split at h
        · cases h
        · rename_i hc
          rw [if_neg hc]
          exact ih _ _ h
  have hfill2 := hplaces _ _ _ hfill
  simp only [hnot, if_false, hne, Sem.run_bind, e3, Result.andThen_ok, Sem.run_pure, hzc, hinit, hfill2, pure_bind]
  rfl
theorem sbs {ops : Array Oper} {rest : List Oper} {T e k bytes len : Nat} {z cs : List Value} {d : Nat} {parts : Array (Nat × Operand)} {ps : List (Nat × Value)} {ty : Nat} {pos : String} {after : Array Edge} (hp : partsL l parts.toList = some ps) [SliceK P T e k bytes z] (hz : Nat.beq z.length k = true) (hs : Nat.ble (len * k) 4096 = true) (hk : Nat.blt 0 (len * k) = true) (hf : fillS k len z ps = some cs) (hd : Nat.blt d F.n = true)
    (h : ∀ g, WPL P F Q ops rest ((d, .slice (some ⟨g, 0, none⟩) len len) :: l) H (.blk g (.cells cs.toArray e (0, 0)) :: L)) : WPL P F Q ops (⟨some d, .buildSlice T len parts, ty, pos, after, none⟩ :: rest) l H L := by
  refine wpl_t (X := fun r H' L' => ∃ g, r = .slice (some ⟨g, 0, none⟩) len len ∧ H' = H ∧ L' = .blk g (.cells cs.toArray e (0, 0)) :: L) ?_ (wants_none rfl) hd (by rintro v H' L' ⟨g, rfl, rfl, rfl⟩; exact h g)
  unfold TStep
  intro a W ha hW K Q hK
  unfold Oper.wp execOp
  dsimp only
  generalize hpp : Array.map _ parts = pp
  have hparts : pp.toList = ps := by rw [← hpp, ← ha.parts hp]; simp
  subst hparts
  rw [runV (run_buildSlice hz hs hk hf W)]
  exact hK _ H _ _ ⟨_, rfl, rfl, rfl⟩ (hW.alloc _)
theorem sbh {ops : Array Oper} {rest : List Oper} {T e k bytes len : Nat} {z cs : List Value} {d : Nat} {parts : Array (Nat × Operand)} {ps : List (Nat × Value)} {ty : Nat} {pos : String} {after : Array Edge} (hp : partsL l parts.toList = some ps) [SliceK P T e k bytes z] (hz : Nat.beq z.length k = true) (hs : Nat.ble (len * k) 4096 = true) (hk : Nat.blt 0 (len * k) = true) (hf : fillS k len z ps = some cs) (hd : Nat.blt d F.n = true)
    (h : ∀ g H', Grow F.w0 H H' → CellsAt H' g 0 cs → WPL P F Q ops rest ((d, .slice (some ⟨g, 0, none⟩) len len) :: l) H' L) : WPL P F Q ops (⟨some d, .buildSlice T len parts, ty, pos, after, none⟩ :: rest) l H L := by
  refine wpl_t (X := fun r H' L' => ∃ g, r = .slice (some ⟨g, 0, none⟩) len len ∧ Grow F.w0 H H' ∧ CellsAt H' g 0 cs ∧ L' = L) ?_ (wants_none rfl) hd (by rintro v H' L' ⟨g, rfl, h1, h2, rfl⟩; exact h g H' h1 h2)
  unfold TStep
  intro a W ha hW K Q hK
  unfold Oper.wp execOp
  dsimp only
  generalize hpp : Array.map _ parts = pp
  have hparts : pp.toList = ps := by rw [← hpp, ← ha.parts hp]; simp
  subst hparts
  rw [runV (run_buildSlice hz hs hk hf W)]
  have hst := hW.alloc (.cells cs.toArray e (0, 0))
  obtain ⟨H', hg, hst', hin⟩ := St.freeze (L1 := []) (L2 := L) hst (by intro b hb; simp [Ent.ids] at hb; subst hb; exact hW.size)
  refine hK _ H' _ _ ⟨_, rfl, hg, ⟨cs.toArray, e, (0, 0), ?_, fun t v ht => by simpa using ht⟩, rfl⟩ hst'
  rw [hin W.heap.size (by simp [Ent.ids])]
  simp

/-! ### bytes -/
/-- A row of bytes. -/
def bys (xs : List Int) : List (List Value) := xs.map fun x => [.int .u8 x]
theorem bys_flatten (xs : List Int) : (bys xs).flatten = xs.map fun x => .int .u8 x := by
  unfold bys
  induction xs with
  | nil => rfl
  | cons a r ih => simp [ih]
theorem bys_length (xs : List Int) : (bys xs).length = xs.length := by simp [bys]
theorem bys_snoc (xs : List Int) (x : Int) : bys xs ++ [[.int .u8 x]] = bys (xs ++ [x]) := by simp [bys]
def bstr (xs : List Int) : ByteArray := strOfNums xs
theorem ystep_bytesStr {S D e k bytes n : Nat} {z : List Value} [hs : SliceK P S e k bytes z] [he : UndK P e (.int .u8)] [hd : UndK P D .string] {d : Option Nat} {x : Operand} {ty : Nat} {pos : String} {after : Array Edge} {guard : Option (Nat × Bool)} {A : Option Addr} {m c : Nat} {xs : List Int} {L1 L2 : OL}
    (hx : ev l x = some (.slice A m c)) (hR : L = L1 ++ .row e 1 A c (bys xs) :: L2) (hm : m = xs.length) : YStep P n l H L ⟨d, .convert S D x, ty, pos, after, guard⟩ (.string (bstr xs)) := by
  unfold YStep
  intro a ha W hW
  show (do pure (.value (← Go.convert S D (a.eval x))) : Sem Next).run P W = _
  rw [ha.eval hx]
  have hrow : Ent.ok W (.row e 1 A c (bys xs)) := hW.1 _ (by rw [hR]; simp)
  refine runV ?_
  subst hm
  cases A with
  | none =>
    obtain ⟨h1, h2⟩ := hrow
    have : xs = [] := by simpa [bys] using h1
    subst this
    simp [Go.convert, underlying, hs.und, hd.und, he.und, Conv.bytesToString, bstr]
    rfl
  | some ad =>
    obtain ⟨h1, h2, h3, h4, h5, rest, hl, hh⟩ := hrow
    obtain ⟨g, off, spot⟩ := ad
    simp only at h2 h3
    subst h2 h3
    refine run_convert_bytes_arg W S e hs.und he.und g 0 xs.length c xs rfl (fun i hi => ?_) D hd.und
    rw [cell_of_cells hh]
    rw [bys_flatten]
    simp [List.getElem?_append, hi]
theorem scb_ {ops : Array Oper} {rest : List Oper} {S D e k bytes : Nat} {z : List Value} {d : Nat} {x : Operand} {ty : Nat} {pos : String} {after : Array Edge} {A : Option Addr} {m c : Nat} {xs : List Int} {L1 L2 : OL} (hx : ev l x = some (.slice A m c)) [SliceK P S e k bytes z] [UndK P e (.int .u8)] [UndK P D .string] [hR : HasR L A e 1 c (bys xs) L1 L2] (hm : m = xs.length) (hd : Nat.blt d F.n = true)
    (h : WPL P F Q ops rest ((d, .string (bstr xs)) :: l) H L) : WPL P F Q ops (⟨some d, .convert S D x, ty, pos, after, none⟩ :: rest) l H L := wpl_y (ystep_bytesStr hx hR.eq hm).q hd h

/-! ### jumps back to a label -/
def JumpP {ι : Type} (F : Fx) (i : Nat) (Φ : ι → Prop) (μ : ι → Nat) (m : Option Nat) (fm : ι → Fm) (hh : ι → GH) (ll : ι → OL) (Q : Post) : Post := Exit.jump i (fun a' W' => ∃ x', Φ x' ∧ (∀ k, m = some k → μ x' < k) ∧ Knows F.n (fm x') a' ∧ St F.w0 F.ids (hh x') (ll x') W') Q
theorem wpc_jumps {ι : Type} {c rest : Code} (i : Nat) (Φ : ι → Prop) (μ : ι → Nat) (fm : ι → Fm) (hh : ι → GH) (ll : ι → OL) (hf : findLabel c i = some rest) (first : WPC P F (JumpP F i Φ μ none fm hh ll Q) c l H L)
    (pass : ∀ x, Φ x → WPC P F (JumpP F i Φ μ (some (μ x)) fm hh ll Q) rest (fm x) (hh x) (ll x)) : WPC P F Q (.scope c) l H L := by
  unfold WPC at *
  intro a W ha hW b k cs
  have hg : gotoIn i (.inScope c :: k) = some (.code rest :: .inScope c :: k) := by simp [gotoIn, hf]
  have key : ∀ n x a w, μ x = n → Φ x → Knows F.n (fm x) a → St F.w0 F.ids (hh x) (ll x) w → ∃ e a' w', Q e a' w' ∧ Arrives P (lone (b.at a (.code rest :: .inScope c :: k)) cs w) b k cs e a' w' := by
    intro n
    induction n using Nat.strongRecOn with
    | _ n ih =>
      intro x a w hn hΦ hk hS
      obtain ⟨e, a₁, w₁, hq, harr⟩ := pass x hΦ a w hk hS b (.inScope c :: k) cs
      cases e with
      | normal => exact ⟨.normal, a₁, w₁, hq, Steps.trans harr (.one step_inScope)⟩
      | exit id => exact ⟨.exit id, a₁, w₁, hq, fun k' hk => harr k' (by simp [exitTo, hk])⟩
      | goto l' =>
        obtain ⟨rfl, x', hΦ', hlt, hk', hS'⟩ := hq
        obtain ⟨e₂, a₂, w₂, hq₂, harr₂⟩ := ih _ (by have := hlt _ rfl; omega) x' a₁ w₁ rfl hΦ' hk' hS'
        exact ⟨e₂, a₂, w₂, hq₂, .of_steps (harr _ hg) harr₂⟩
      | ret => exact ⟨_, a₁, w₁, hq, harr⟩
      | panic ch => exact ⟨_, a₁, w₁, hq, harr⟩
      | outgrown => exact ⟨_, a₁, w₁, hq, harr⟩
  obtain ⟨e, a₁, w₁, hq, harr⟩ := first a W ha hW b (.inScope c :: k) cs
  cases e with
  | normal => exact ⟨.normal, a₁, w₁, hq, .head step_scope (Steps.trans harr (.one step_inScope))⟩
  | exit id => exact ⟨.exit id, a₁, w₁, hq, fun k' hk => .head step_scope (harr k' (by simp [exitTo, hk]))⟩
  | goto l' =>
    obtain ⟨rfl, x', hΦ', _, hk', hS'⟩ := hq
    obtain ⟨e₂, a₂, w₂, hq₂, harr₂⟩ := key _ x' a₁ w₁ rfl hΦ' hk' hS'
    exact ⟨e₂, a₂, w₂, hq₂, .of_steps (.head step_scope (harr _ hg)) harr₂⟩
  | ret => exact ⟨_, a₁, w₁, hq, .of_steps (.one step_scope) harr⟩
  | panic ch => exact ⟨_, a₁, w₁, hq, .of_steps (.one step_scope) harr⟩
  | outgrown => exact ⟨_, a₁, w₁, hq, .of_steps (.one step_scope) harr⟩
section
variable {ι : Type} {Φ : ι → Prop} {μ : ι → Nat} {m : Option Nat} {fm : ι → Fm} {hh : ι → GH} {ll : ι → OL}
theorem wpe_jump_normal {i : Nat} (h : WPE F Q .normal l H L) : WPE F (JumpP F i Φ μ m fm hh ll Q) .normal l H L := by unfold WPE at *; exact h
theorem wpe_jump_exit {i j : Nat} (h : WPE F Q (.exit j) l H L) : WPE F (JumpP F i Φ μ m fm hh ll Q) (.exit j) l H L := by unfold WPE at *; exact h
theorem wpe_jump_ret {i : Nat} (h : WPE F Q .ret l H L) : WPE F (JumpP F i Φ μ m fm hh ll Q) .ret l H L := by unfold WPE at *; exact h
theorem wpe_jump {i : Nat} (x' : ι) (h : Φ x') (hm : ∀ k, m = some k → μ x' < k) (hf : subF (fm x') l) (hH : hh x' = H) (hL : (ll x').Sublist L) : WPE F (JumpP F i Φ μ m fm hh ll Q) (.goto i) l H L := by
  unfold WPE
  intro a W ha hW
  subst hH
  exact ⟨rfl, x', h, hm, ha.sub hf, hW.drop hL⟩
end

/-! ### a text that is ranged over -/
theorem srs {ops : Array Oper} {rest : List Oper} {T : Nat} {d : Nat} {x : Operand} {ty : Nat} {pos : String} {after : Array Edge} {s : ByteArray} (hx : ev l x = some (.string s)) [hu : UndK P T .string] (hd : Nat.blt d F.n = true)
    (h : ∀ g, WPL P F Q ops rest ((d, .pointer (some ⟨g, 0, none⟩)) :: l) H (.blk g (.stringIter s 0) :: L)) : WPL P F Q ops (⟨some d, .range T x, ty, pos, after, none⟩ :: rest) l H L := by
  refine wpl_t (X := fun r H' L' => ∃ g, r = .pointer (some ⟨g, 0, none⟩) ∧ H' = H ∧ L' = .blk g (.stringIter s 0) :: L) ?_ (wants_none rfl) hd (by rintro v H' L' ⟨g, rfl, rfl, rfl⟩; exact h g)
  unfold TStep
  intro a W ha hW K Q hK
  show Oper.upon P _ a K Q ((do pure (.value (← Instr.range T (a.eval x))) : Sem Next).run P W)
  rw [ha.eval hx]
  have : (Instr.range T (.string s)).run P W = .ok (.pointer (some ⟨W.heap.size, 0, none⟩)) { W with heap := W.heap.push (.stringIter s 0) } := by
    simp [Instr.range, underlying, hu.und]
  rw [runV this]
  exact hK _ H _ _ ⟨_, rfl, rfl, rfl⟩ (hW.alloc _)
theorem snx {ops : Array Oper} {rest : List Oper} {d : Nat} {x : Operand} {ty : Nat} {pos : String} {after : Array Edge} {s : ByteArray} {p g : Nat} {L1 L2 : OL} (hx : ev l x = some (.pointer (some ⟨g, 0, none⟩))) (hR : L = L1 ++ .blk g (.stringIter s p) :: L2) (hd : Nat.blt d F.n = true)
    (h1 : p < s.size → WPL P F Q ops rest ((d, .tuple #[.bool true, .int .i64 p, .int .i32 (Utf8.decode s p).1]) :: l) H (L1 ++ .blk g (.stringIter s (p + (Utf8.decode s p).2)) :: L2))
    (h2 : ¬ p < s.size → WPL P F Q ops rest ((d, .tuple #[.bool false]) :: l) H L) : WPL P F Q ops (⟨some d, .next x true, ty, pos, after, none⟩ :: rest) l H L := by
  refine wpl_t (X := fun r H' L' => H' = H ∧ ((p < s.size ∧ r = .tuple #[.bool true, .int .i64 p, .int .i32 (Utf8.decode s p).1] ∧ L' = L1 ++ .blk g (.stringIter s (p + (Utf8.decode s p).2)) :: L2) ∨ (¬ p < s.size ∧ r = .tuple #[.bool false] ∧ L' = L))) ?_ (wants_none rfl) hd (by
    rintro v H' L' ⟨rfl, ⟨hp, rfl, rfl⟩ | ⟨hp, rfl, rfl⟩⟩
    · exact h1 hp
    · exact h2 hp)
  unfold TStep
  intro a W ha hW K Q hK
  show Oper.upon P _ a K Q ((do pure (.value (← Instr.next (a.eval x) true ty)) : Sem Next).run P W)
  rw [ha.eval hx]
  have hb : W.heap[g]? = some (.stringIter s p) := hW.own (.blk g (.stringIter s p)) (by rw [hR]; simp)
  by_cases hp : p < s.size
  · have : (Instr.next (.pointer (some ⟨g, 0, none⟩)) true ty).run P W = .ok (.tuple #[.bool true, .int .i64 p, .int .i32 (Utf8.decode s p).1]) { W with heap := W.heap.setIfInBounds g (.stringIter s (p + (Utf8.decode s p).2)) } := by
      simp [Instr.next, getObj, setObj, Sem.run, hb, hp, goInt, bind, Sem.bind, pure]
    rw [runV this]
    rw [hR] at hW
    have hlt : g < W.heap.size := (Array.getElem?_eq_some_iff.1 hb).1
    refine hK _ H _ _ ⟨rfl, .inl ⟨hp, rfl, rfl⟩⟩ (hW.turn rfl rfl rfl (by simp) (fun b hb' hn => ?_) ?_ (.inl rfl))
    · have hne : g ≠ b := fun e => hn (by simp [Ent.ids, e])
      simp [Array.getElem?_setIfInBounds, hne]
    · simp [Ent.ok, Array.getElem?_setIfInBounds, hlt]
  · have : (Instr.next (.pointer (some ⟨g, 0, none⟩)) true ty).run P W = .ok (.tuple #[.bool false]) W := by
      simp [Instr.next, getObj, Sem.run, hb, hp, bind, Sem.bind, pure]
    rw [runV this]
    exact hK _ H _ _ ⟨rfl, .inr ⟨hp, rfl, rfl⟩⟩ hW
attribute [irreducible] JumpP
end Go.Eng
set_option linter.unusedVariables false
set_option linter.unusedSimpArgs false
namespace Go.Eng
open Go
variable {P : Program} {F : Fx} {Q : Post} {l : Fm} {H : GH} {L : OL}
/-- Is there one of the first n for which operation j does not wait? Then S is asked behind j. -/
def needs (ops : Array Oper) (n j : Nat) : Bool := match ops[j]? with
  | some o => (List.range n).any fun i => !(o.after.any fun e => Region.binds .any e && e.on == i)
  | none => true
/-- Whatever order is picked from here on; S holds behind each operation that does not wait for all of the first n. -/
def anyM (P : Program) (ops : Array Oper) (Q : Post) (S : World → Prop) (n : Nat) : Nat → Array Bool → Act → World → Prop
  | 0, listed, a, w => Region.ready .any ops listed = [] ∧ Q .normal a w
  | fuel + 1, listed, a, w =>
    (Region.ready .any ops listed = [] → Q .normal a w) ∧
    ∀ i ∈ Region.ready .any ops listed, wpOp P ops Q i (fun a' w' => (needs ops n i = true → S w') ∧ anyM P ops Q S n fuel (listed.setIfInBounds i true) a' w') a w
theorem anyM_any {ops : Array Oper} {S : World → Prop} {n : Nat} : ∀ (fuel : Nat) (listed : Array Bool) (a : Act) (w : World), anyM P ops Q S n fuel listed a w → wpAny P .any ops Q fuel listed a w
  | 0, _, _, _, h => h
  | fuel + 1, _, _, _, h => ⟨h.1, fun i hi => wpOp_mono (fun a' w' h' => anyM_any fuel _ a' w' h'.2) (h.2 i hi)⟩
theorem needs_of {ops : Array Oper} {n i j : Nat} {oj : Oper} (hj : ops[j]? = some oj) (hi : i < n) (h : ∀ e ∈ oj.after, Region.binds .any e = true → e.on ≠ i) : needs ops n j = true := by
  unfold needs
  simp only [hj]
  rw [List.any_eq_true]
  refine ⟨i, List.mem_range.2 hi, ?_⟩
  rw [Bool.not_eq_true', Bool.eq_false_iff]
  intro hc
  rw [Array.any_eq_true'] at hc
  obtain ⟨e, he, hc⟩ := hc
  simp only [Bool.and_eq_true, beq_iff_eq] at hc
  exact h e he hc.1 hc.2
theorem anyM_first {ops : Array Oper} {S S' : World → Prop} {n i : Nat} {oi : Oper} {v : Value} (hi : ops[i]? = some oi) (hn : i < n ∨ needs ops n i = false) (hSS : ∀ j oj, ops[j]? = some oj → (∀ e ∈ oj.after, Region.binds .any e = true → e.on ≠ i) → ∀ w, (needs ops n j = true → S w) → S' w) (hsel : ∀ (j : Nat) (o : Oper) cs b, ops[j]? = some o → o.op ≠ .select cs b)
    (hQ : ∀ c a w, Q (.panic c) (a.put oi.dst v) w → Q (.panic c) a w) :
    ∀ (fuel : Nat) (listed : Array Bool) (a : Act) (w : World),
      (∀ j oj, ops[j]? = some oj → j ≠ i → listed.getD j true = false → (∀ e ∈ oj.after, Region.binds .any e = true → e.on ≠ i) → oi.apart ops oj = true) →
      i ∈ Region.ready .any ops listed → YieldsIf P ops S' oi v a → S' w → (needs ops n i = true → S w) →
      anyM P ops Q S n fuel (listed.setIfInBounds i true) (a.put oi.dst v) w → anyM P ops Q S n (fuel + 1) listed a w := by
  intro fuel
  induction fuel with
  | zero =>
    intro listed a w _ hr hy hS' hS H
    refine ⟨fun h => (by rw [h] at hr; cases hr), fun j hj => ?_⟩
    by_cases hji : j = i
    · subst hji; exact hy.wpOp hi hS' ⟨hS, H⟩
    · have := ready_mono hj hji
      rw [H.1] at this
      cases this
  | succ fuel ih =>
    intro listed a w hfree hr hy hS' hS H
    refine ⟨fun h => (by rw [h] at hr; cases hr), fun j hj => ?_⟩
    by_cases hji : j = i
    · subst hji; exact hy.wpOp hi hS' ⟨hS, H⟩
    have h1 := H.2 j (ready_mono hj hji)
    obtain ⟨hjun, oj, hoj, hall⟩ := mem_ready.1 hj
    have hiun := (mem_ready.1 hr).1
    have hnot : ∀ e ∈ oj.after, Region.binds .any e = true → e.on ≠ i := by
      intro e he hb heq
      have h1 := hall e he hb
      rw [heq] at h1
      by_cases h' : i < listed.size
      · simp [h'] at hiun h1; rw [hiun] at h1; cases h1
      · simp [Array.getElem?_eq_none (Nat.le_of_not_lt h')] at h1
    have h2 := wpOp_putIf hoj (hfree j oj hoj hji hjun hnot) (fun cs b => hsel i oi cs b hi) (fun cs b => hsel j oj cs b hoj) hQ hy h1
    have hri := ready_mono hr (Ne.symm hji)
    refine wpOp_mono (fun a' w' h3 => ?_) h2
    obtain ⟨hy', hSn, hrest⟩ := h3
    have hS'' : S' w' := hSS j oj hoj hnot w' hSn
    refine ⟨hSn, ?_⟩
    refine ih (listed.setIfInBounds j true) a' w' ?_ hri hy' hS'' ?_ ?_
    · intro k ok hk hki hun hno
      refine hfree k ok hk hki ?_ hno
      by_cases hjk : j = k
      · subst hjk; exact hjun
      · rw [getD_set_ne true hjk] at hun; exact hun
    · intro hni
      rcases hn with hn | hn
      · exact hSn (needs_of hoj hn hnot)
      · rw [hn] at hni; cases hni
    · rw [Array.setIfInBounds_comm _ _ hji]
      exact hrest
/-- What is left of a region, in any order; what HS and LS tell holds as long as one of the first n may be to come. -/
def WPH (P : Program) (F : Fx) (ops : Array Oper) (Q : Post) (HS : GH) (LS : OL) (n : Nat) (fuel : Nat) (listed : Array Bool) (l : Fm) (H : GH) (L : OL) : Prop :=
  ∀ a W, Knows F.n l a → St F.w0 F.ids H L W → anyM P ops (NoPanic Q) (Hs HS LS) n fuel listed a W
theorem wpc_held (LS : OL) (n : Nat) {i : Nat} {ops : Array Oper} (hm : P.follows .mixedOrders = true) (h : WPH P F ops Q H LS n ops.size (Array.replicate ops.size false) l H L) : WPC P F Q (.region i ops true) l H L := by
  unfold WPC
  exact fun a W ha hW => wp_region_noPanic (wp_region_any hm (anyM_any _ _ _ _ (h a _ ha (hW.drawn _))))
/-- What only reads, one after the other. -/
def WPT (P : Program) (F : Fx) (ops : Array Oper) (HS : GH) (LS : OL) : List Oper → Fm → (Fm → Prop) → Prop
  | [], l, K => K l
  | o :: r, l, K => ∃ v, ((Wants ops l o true ∧ YStep P F.n l HS LS o v) ∨ (Wants ops l o false ∧ v = undef)) ∧ (match o.dst with | some d => Nat.blt d F.n | none => true) = true ∧ WPT P F ops HS LS r (upd l o.dst v) K
def takesOk (ops : Array Oper) (listed : Array Bool) : List Nat → Bool
  | [] => true
  | i :: r => (Region.ready .any ops listed).contains i && Region.free .any ops listed i && takesOk ops (listed.setIfInBounds i true) r
def setAll (listed : Array Bool) : List Nat → Array Bool
  | [] => listed
  | i :: r => setAll (listed.setIfInBounds i true) r
def pickOps (ops : Array Oper) : List Nat → Option (List Oper)
  | [] => some []
  | i :: r => match ops[i]?, pickOps ops r with
    | some o, some os => some (o :: os)
    | _, _ => none
theorem wph_takes0 {ops : Array Oper} {HS : GH} {LS : OL} {n fuel : Nat} (hs : Region.noSelect ops = true) (hH : HLe HS H) (hL : LS.Sublist L) : ∀ (idx : List Nat) (listed : Array Bool) (l : Fm) (os : List Oper), (∀ i ∈ idx, i < n) → pickOps ops idx = some os → takesOk ops listed idx = true →
    WPT P F ops HS LS os l (fun l' => WPH P F ops Q HS LS n fuel (setAll listed idx) l' H L) → WPH P F ops Q HS LS n (fuel + idx.length) listed l H L
  | [], listed, l, os, hn, ho, hk, h => by
    simp only [pickOps, Option.some.injEq] at ho
    subst ho
    exact h
  | i :: r, listed, l, os, hn, ho, hk, h => by
    simp only [pickOps] at ho
    split at ho
    · rename_i o os' h1 h2
      simp only [Option.some.injEq] at ho
      subst ho
      simp only [takesOk, Bool.and_eq_true] at hk
      obtain ⟨v, hv, hd, hr⟩ := h
      have ih := wph_takes0 hs hH hL r (listed.setIfInBounds i true) _ os' (fun j hj => hn j (List.mem_cons_of_mem _ hj)) h2 hk.2 hr
      intro a W ha hW
      have hS : Hs HS LS W := by
        have := (hW.drop hL).hs
        exact ⟨this.1, fun b o hb => this.2 b o (hH b o hb)⟩
      have hin := hn i (List.mem_cons_self ..)
      refine anyM_first h1 (.inl hin) (fun j oj hj hno w hw => hw (needs_of hj hin hno)) (Region.noSelect_spec hs) (fun c a w h => h) (fuel + r.length) listed a W (Region.free_spec h1 hk.1.2) (by simpa using hk.1.1) ?_ hS (fun _ => hS) (ih _ W (ha.upd hd v) hW)
      rcases hv with ⟨hw, hy⟩ | ⟨hw, rfl⟩
      · unfold Wants at hw
        unfold YStep at hy
        exact .inl ⟨hw F.n a ha, fun w hS => hy a ha w hS⟩
      · unfold Wants at hw
        exact .inr ⟨hw F.n a ha, rfl⟩
    · cases ho
theorem wph_takes (idx : List Nat) {n fuel fuel' : Nat} {ops : Array Oper} {HS : GH} {LS : OL} {listed listed' : Array Bool} {os : List Oper} (hk : (Region.noSelect ops && takesOk ops listed idx && (fuel' == fuel + idx.length) && idx.all (Nat.blt · n)) = true) (ho : pickOps ops idx = some os) (hl : setAll listed idx = listed') (hH : HLe HS H) (hL : LS.Sublist L)
    (h : WPT P F ops HS LS os l (fun l' => WPH P F ops Q HS LS n fuel listed' l' H L)) : WPH P F ops Q HS LS n fuel' listed l H L := by
  subst hl
  simp only [Bool.and_eq_true, beq_iff_eq] at hk
  obtain ⟨⟨⟨h1, h2⟩, rfl⟩, h3⟩ := hk
  exact wph_takes0 h1 hH hL idx listed l os (fun i hi => by have := List.all_eq_true.1 h3 i hi; exact Nat.blt_eq ▸ this) ho h2 h
theorem wph_after0 {ops : Array Oper} {HS : GH} {LS : OL} {n fuel : Nat} (hs : Region.noSelect ops = true) : ∀ (idx : List Nat) (listed : Array Bool) (l : Fm) (os : List Oper), (∀ i ∈ idx, needs ops n i = false) → pickOps ops idx = some os → takesOk ops listed idx = true →
    WPT P F ops (fun _ => none) [] os l (fun l' => WPH P F ops Q HS LS n fuel (setAll listed idx) l' H L) → WPH P F ops Q HS LS n (fuel + idx.length) listed l H L
  | [], listed, l, os, hn, ho, hk, h => by
    simp only [pickOps, Option.some.injEq] at ho
    subst ho
    exact h
  | i :: r, listed, l, os, hn, ho, hk, h => by
    simp only [pickOps] at ho
    split at ho
    · rename_i o os' h1 h2
      simp only [Option.some.injEq] at ho
      subst ho
      simp only [takesOk, Bool.and_eq_true] at hk
      obtain ⟨v, hv, hd, hr⟩ := h
      have ih := wph_after0 hs r (listed.setIfInBounds i true) _ os' (fun j hj => hn j (List.mem_cons_of_mem _ hj)) h2 hk.2 hr
      intro a W ha hW
      have hin := hn i (List.mem_cons_self ..)
      refine anyM_first (S' := fun _ => True) h1 (.inr hin) (fun j oj hj hno w hw => trivial) (Region.noSelect_spec hs) (fun c a w h => h) (fuel + r.length) listed a W (Region.free_spec h1 hk.1.2) (by simpa using hk.1.1) ?_ trivial (fun hc => by (rw [hin] at hc; cases hc)) (ih _ W (ha.upd hd v) hW)
      rcases hv with ⟨hw, hy⟩ | ⟨hw, rfl⟩
      · unfold Wants at hw
        unfold YStep at hy
        exact .inl ⟨hw F.n a ha, fun w _ => hy a ha w (by unfold Hs; simp)⟩
      · unfold Wants at hw
        exact .inr ⟨hw F.n a ha, rfl⟩
    · cases ho
/-- What only computes, behind what stores. -/
theorem wph_after (idx : List Nat) {n fuel fuel' : Nat} {ops : Array Oper} {HS : GH} {LS : OL} {listed listed' : Array Bool} {os : List Oper} (hk : (Region.noSelect ops && takesOk ops listed idx && (fuel' == fuel + idx.length) && idx.all (fun i => !needs ops n i)) = true) (ho : pickOps ops idx = some os) (hl : setAll listed idx = listed')
    (h : WPT P F ops (fun _ => none) [] os l (fun l' => WPH P F ops Q HS LS n fuel listed' l' H L)) : WPH P F ops Q HS LS n fuel' listed l H L := by
  subst hl
  simp only [Bool.and_eq_true, beq_iff_eq] at hk
  obtain ⟨⟨⟨h1, h2⟩, rfl⟩, h3⟩ := hk
  exact wph_after0 h1 idx listed l os (fun i hi => by have := List.all_eq_true.1 h3 i hi; simpa using this) ho h2 h
/-- What follows operation i, which was carried out. -/
def HoldP (P : Program) (ops : Array Oper) (Q : Post) (HS : GH) (LS : OL) (n i fuel : Nat) (listed : Array Bool) : Post := Exit.then (fun a W => (needs ops n i = true → Hs HS LS W) ∧ anyM P ops (NoPanic Q) (Hs HS LS) n fuel listed a W) (NoPanic Q)
theorem wpe_hold {ops : Array Oper} {HS : GH} {LS : OL} {n i fuel : Nat} {listed : Array Bool} (hH : HLe HS H) (hL : LS.Sublist L) (h : WPH P F ops Q HS LS n fuel listed l H L) : WPE F (HoldP P ops Q HS LS n i fuel listed) .normal l H L := by
  unfold WPE
  intro a W ha hW
  have hS : Hs HS LS W := by
    have := (hW.drop hL).hs
    exact ⟨this.1, fun b o hb => this.2 b o (hH b o hb)⟩
  exact ⟨fun _ => hS, h a W ha hW⟩
theorem wpe_last {ops : Array Oper} {HS : GH} {LS : OL} {n i fuel : Nat} {listed : Array Bool} (hn : needs ops n i = false) (h : WPH P F ops Q HS LS n fuel listed l H L) : WPE F (HoldP P ops Q HS LS n i fuel listed) .normal l H L := by
  unfold WPE
  intro a W ha hW
  exact ⟨fun hc => by (rw [hn] at hc; cases hc), h a W ha hW⟩
theorem one_step {ops : Array Oper} {HS : GH} {LS : OL} {n fuel : Nat} {listed : Array Bool} {i : Nat} {o : Oper} {a : Act} {W : World} (ho : ops[i]? = some o) (h : wpList P ops (HoldP P ops Q HS LS n i fuel listed) [o] a W) :
    wpOp P ops (NoPanic Q) i (fun a' w' => (needs ops n i = true → Hs HS LS w') ∧ anyM P ops (NoPanic Q) (Hs HS LS) n fuel listed a' w') a W := by
  unfold wpOp
  simp only [ho]
  unfold wpList at h
  split
  · rename_i hw
    rw [if_pos hw] at h
    rcases h with h | ⟨h1, h2⟩
    · refine .inl ?_
      unfold Oper.wp at *
      generalize (execOp a.eval o).run P W = r at *
      cases r with
      | ok x w' =>
        cases x <;> simp only [Oper.upon] at h ⊢ <;>
          first
            | exact h
            | exact Calls.mono h (fun e w'' he => by cases e <;> first | exact he | exact he.elim)
            | exact Rows.mono h (fun _ _ he => he)
      | halt x w' => cases x <;> simp only [Oper.upon] at h ⊢ <;> exact h
    · exact .inr ⟨h1, h2⟩
  · rename_i hw
    rw [if_neg hw] at h
    exact h
theorem wph_one (i : Nat) {n fuel : Nat} {ops : Array Oper} {HS : GH} {LS : OL} {listed listed' : Array Bool} {o : Oper} (hr : Region.ready .any ops listed = [i]) (ho : ops[i]? = some o) (hl : listed.setIfInBounds i true = listed')
    (h : WPL P F (HoldP P ops Q HS LS n i fuel listed') ops [o] l H L) : WPH P F ops Q HS LS n (fuel + 1) listed l H L := fun a W ha hW => by
  subst hl
  unfold WPL at h
  refine ⟨fun h0 => by (rw [hr] at h0; cases h0), fun j hj => ?_⟩
  rw [hr] at hj
  simp only [List.mem_singleton] at hj
  subst hj
  exact one_step ho (h a W ha hW)
theorem wph_two (i j : Nat) {n fuel : Nat} {ops : Array Oper} {HS : GH} {LS : OL} {listed li lj : Array Bool} {o o' : Oper} (hr : Region.ready .any ops listed = [i, j]) (ho : ops[i]? = some o) (ho' : ops[j]? = some o') (hl : listed.setIfInBounds i true = li) (hl' : listed.setIfInBounds j true = lj)
    (h : WPL P F (HoldP P ops Q HS LS n i fuel li) ops [o] l H L) (h' : WPL P F (HoldP P ops Q HS LS n j fuel lj) ops [o'] l H L) : WPH P F ops Q HS LS n (fuel + 1) listed l H L := fun a W ha hW => by
  subst hl
  subst hl'
  unfold WPL at h h'
  refine ⟨fun h0 => by (rw [hr] at h0; cases h0), fun k hk => ?_⟩
  rw [hr] at hk
  simp only [List.mem_cons, List.not_mem_nil, or_false] at hk
  rcases hk with rfl | rfl
  · exact one_step ho (h a W ha hW)
  · exact one_step ho' (h' a W ha hW)
theorem wph_done {n fuel : Nat} {ops : Array Oper} {HS : GH} {LS : OL} {listed : Array Bool} (hr : Region.ready .any ops listed = []) (h : WPE F Q .normal l H L) : WPH P F ops Q HS LS n fuel listed l H L := fun a W ha hW => by
  unfold WPE at h
  have := NoPanic.normal (h a W ha hW)
  cases fuel with
  | zero => exact ⟨hr, this⟩
  | succ fuel => exact ⟨fun _ => this, fun j hj => by (rw [hr] at hj; cases hj)⟩
theorem wpt_nil_eq {ops : Array Oper} {HS : GH} {LS : OL} {K : Fm → Prop} : WPT P F ops HS LS [] l K = K l := rfl
theorem wpt_cons_eq {ops : Array Oper} {HS : GH} {LS : OL} {o : Oper} {r : List Oper} {K : Fm → Prop} : WPT P F ops HS LS (o :: r) l K = ∃ v, ((Wants ops l o true ∧ YStep P F.n l HS LS o v) ∨ (Wants ops l o false ∧ v = undef)) ∧ (match o.dst with | some d => Nat.blt d F.n | none => true) = true ∧ WPT P F ops HS LS r (upd l o.dst v) K := rfl
theorem wpt_nil {ops : Array Oper} {K : Fm → Prop} (h : K l) : WPT P F ops H L [] l K := h
theorem wpt_y {ops : Array Oper} {op : Op} {ty d : Nat} {pos : String} {after : Array Edge} {rest : List Oper} {v : Value} {K : Fm → Prop} (hs : YStep P F.n l H L ⟨some d, op, ty, pos, after, none⟩ v) (hd : Nat.blt d F.n = true)
    (h : WPT P F ops H L rest ((d, v) :: l) K) : WPT P F ops H L (⟨some d, op, ty, pos, after, none⟩ :: rest) l K := ⟨v, .inl ⟨wants_none rfl, hs⟩, hd, h⟩
theorem wpt_skip {ops : Array Oper} {o : Oper} {rest : List Oper} {K : Fm → Prop} (hw : Wants ops l o false) (hd : (match o.dst with | some d => Nat.blt d F.n | none => true) = true)
    (h : WPT P F ops H L rest (upd l o.dst undef) K) : WPT P F ops H L (o :: rest) l K := ⟨undef, .inr ⟨hw, rfl⟩, hd, h⟩
theorem g_held {i : Nat} {ops : Array Oper} (h : WPC P F Q (.region i ops true) l H L) : WPC P F Q (.region i ops true) l H L := h
theorem wpl_forget {H0 : GH} {ops : Array Oper} {rest : List Oper} (hH : HLe H0 H) (h : WPL P F Q ops rest l H0 L) : WPL P F Q ops rest l H L := by
  unfold WPL at *
  exact fun a W ha hW => h a W ha (hW.shrink hH)
theorem wpc_forget {H0 : GH} {c : Code} (hH : HLe H0 H) (h : WPC P F Q c l H0 L) : WPC P F Q c l H L := by
  unfold WPC at *
  exact fun a W ha hW => h a W ha (hW.shrink hH)
theorem wpe_forget {H0 : GH} {e : Exit} (hH : HLe H0 H) (h : WPE F Q e l H0 L) : WPE F Q e l H L := by
  unfold WPE at *
  exact fun a W ha hW => h a W ha (hW.shrink hH)
theorem wpc_jumpsB {ι : Type} {c rest : Code} (i : Nat) (Φ : ι → Prop) (μ : ι → Nat) (fm : ι → Fm) (hh : ι → GH) (ll : ι → OL) (hf : findLabel c i = some (.seq .skip rest))
    (pass : ∀ m x, Φ x → (∀ k, m = some k → μ x ≤ k) → WPC P F (JumpP F i Φ μ m fm hh ll Q) rest (fm x) (hh x) (ll x))
    (first : (∀ x, Φ x → WPC P F (JumpP F i Φ μ none fm hh ll Q) rest (fm x) (hh x) (ll x)) → WPC P F (JumpP F i Φ μ none fm hh ll Q) c l H L) : WPC P F Q (.scope c) l H L :=
  wpc_jumps i Φ μ fm hh ll hf (first fun x hx => pass none x hx (fun k hk => by cases hk)) fun x hx => wpc_seq (wpc_skip (wpe_seq (pass _ x hx (fun k hk => by cases hk; exact Nat.le_refl _))))
theorem run_buildSlice0 {T e k bytes : Nat} {z : List Value} [h : SliceK P T e k bytes z] (W : World) :
    (Instr.buildSlice T 0 #[]).run P W = .ok (.slice (some ⟨W.heap.size, 0, none⟩) 0 0) { W with heap := W.heap.push (.cells #[] e) } := by
  obtain ⟨inf, hinf, hi'⟩ := Option.map_eq_some_iff.1 h.info
  simp only [Prod.mk.injEq] at hi'
  obtain ⟨hi1, hi2, hi3⟩ := hi'
  simp [Instr.buildSlice, underlying, h.und, sizeOf, typeInfo, hinf, hi1, Instr.fill, newRow, newObj, Sem.run]
  have e0 : (Array.map (fun x => (default : Value)) (Array.range 0)) = #[] := by apply Array.ext'; simp
  rw [e0]
theorem St.emptyRow {w0 : World} {ids : List Nat} {W : World} {e k : Nat} (h : St w0 ids H L W) : St w0 ids H (.row e k (some ⟨W.heap.size, 0, none⟩) 0 [] :: L) { W with heap := W.heap.push (.cells #[] e) } := by
  have hst := h.alloc (.cells #[] e (0, 0))
  exact ⟨hst.os, hst.tape, hst.output, hst.size, hst.keep, fun x hx => by
    rcases List.mem_cons.1 hx with rfl | hx
    · exact ⟨by simp, rfl, rfl, Nat.le_refl _, by decide, [], by simp, by simp⟩
    · exact hst.own x (List.mem_cons_of_mem _ hx), by simpa [idsOf, Ent.ids] using hst.nd, by simpa [idsOf, Ent.ids] using hst.sep, by simpa [idsOf, Ent.ids] using hst.new, hst.imm⟩
theorem sb0 {ops : Array Oper} {rest : List Oper} {T e k bytes : Nat} {z : List Value} {d : Nat} {ty : Nat} {pos : String} {after : Array Edge} [SliceK P T e k bytes z] (hd : Nat.blt d F.n = true)
    (h : ∀ g, WPL P F Q ops rest ((d, .slice (some ⟨g, 0, none⟩) 0 0) :: l) H (.row e k (some ⟨g, 0, none⟩) 0 [] :: L)) : WPL P F Q ops (⟨some d, .buildSlice T 0 #[], ty, pos, after, none⟩ :: rest) l H L := by
  refine wpl_t (X := fun r H' L' => ∃ g, r = .slice (some ⟨g, 0, none⟩) 0 0 ∧ H' = H ∧ L' = .row e k (some ⟨g, 0, none⟩) 0 [] :: L) ?_ (wants_none rfl) hd (by rintro v H' L' ⟨g, rfl, rfl, rfl⟩; exact h g)
  unfold TStep
  intro a W ha hW K Q hK
  unfold Oper.wp execOp
  dsimp only
  simp only [Array.map_empty, List.map_toArray, List.map_nil]
  rw [runV (run_buildSlice0 (T := T) (k := k) (bytes := bytes) (z := z) W)]
  exact hK _ H _ _ ⟨_, rfl, rfl, rfl⟩ (St.emptyRow hW)
theorem weL {ops : Array Oper} {rest : List Oper} (L' : OL) (e : L = L') (h : WPL P F Q ops rest l H L') : WPL P F Q ops rest l H L := by rw [e]; exact h
theorem weC {c : Code} (L' : OL) (e : L = L') (h : WPC P F Q c l H L') : WPC P F Q c l H L := by rw [e]; exact h
theorem weE {x : Exit} (L' : OL) (e : L = L') (h : WPE F Q x l H L') : WPE F Q x l H L := by rw [e]; exact h
/-- A byte is appended. -/
theorem sapb {ops : Array Oper} {rest : List Oper} {t e bytes : Nat} {z : List Value} {d : Nat} {s x : Operand} {ty : Nat} {pos : String} {after : Array Edge} {A : Option Addr} {n c g mc T' : Nat} {fz : Nat × Nat} {xs : List Int} {b : Int} {L1 L2 M1 M2 : OL}
    (hs : ev l s = some (.slice A n c)) (hx : ev l x = some (.slice (some ⟨g, 0, none⟩) 1 mc)) [SliceK P t e 1 bytes z] [hR : HasR L A e 1 c (bys xs) L1 L2] [hB : HasB L g [.int .u8 b] T' fz M1 M2] (hn : n = xs.length) (hz : Nat.beq z.length 1 = true) (hb0 : Nat.blt 0 bytes = true) (hb : (xs.length + 1) * bytes ≤ 140737488355328) (hd : Nat.blt d F.n = true)
    (h : ∀ A' c', WPL P F Q ops rest ((d, .slice A' (xs ++ [b]).length c') :: l) H (L1 ++ .row e 1 A' c' (bys (xs ++ [b])) :: L2)) : WPL P F Q ops (⟨some d, .call { callee := .builtin .append, args := #[s, x], argTypes := #[t, t] }, ty, pos, after, none⟩ :: rest) l H L := by
  refine sap (xss := bys xs) (cs := [.int .u8 b]) hs hx (by rw [hn, bys_length]) rfl rfl hz rfl hb0 (by rw [bys_length]; exact hb) hd (fun A' c' => ?_)
  have := h A' c'
  rw [bys_length, bys_snoc]
  rw [List.length_append, List.length_singleton] at this
  exact this
theorem stl_all : ∀ (z vs : List Value), z.length = vs.length → stl z 0 vs = some vs
  | [], [], _ => rfl
  | _ :: r, v :: vs, h => by
    have := stl_all r vs (by simpa using h)
    simp [stl, this]
theorem fillS_one {k : Nat} {z cs : List Value} {v : Value} (hz : z.length = k) (hc : cellsK v = some cs) (hl : cs.length = k) : fillS k 1 z [(0, v)] = some cs := by
  have e := cellsK_eq hc
  have h1 : (List.map (fun i => (i * k, k)) (List.range 1)) = [(0, k)] := by simp [List.range_succ]
  have h2 : (List.flatMap (fun _ => z) (List.range 1)) = z := by simp [List.range_succ]
  unfold fillS
  rw [h1, h2]
  simp only [fillL, e, List.getElem?_cons_zero, hl, Nat.beq_refl, cond_true]
  rw [stl_all z cs (by omega)]
/-- A slice's literal of one element. -/
theorem sb1 {ops : Array Oper} {rest : List Oper} {T e k bytes : Nat} {z cs : List Value} {d : Nat} {x : Operand} {v : Value} {ty : Nat} {pos : String} {after : Array Edge} (hx : ev l x = some v) (hc : cellsK v = some cs) [SliceK P T e k bytes z] (hz : Nat.beq z.length k = true) (hl : Nat.beq cs.length k = true) (hs : Nat.ble (1 * k) 4096 = true) (hk : Nat.blt 0 (1 * k) = true) (hd : Nat.blt d F.n = true)
    (h : ∀ g, WPL P F Q ops rest ((d, .slice (some ⟨g, 0, none⟩) 1 1) :: l) H (.blk g (.cells cs.toArray e (0, 0)) :: L)) : WPL P F Q ops (⟨some d, .buildSlice T 1 #[(0, x)], ty, pos, after, none⟩ :: rest) l H L :=
  sbs (ps := [(0, v)]) (by simp [partsL, hx]) hz hs hk (fillS_one (Nat.eq_of_beq_eq_true hz) hc (Nat.eq_of_beq_eq_true hl)) hd h
/-- The same, in a block that stays. -/
theorem sh1 {ops : Array Oper} {rest : List Oper} {T e k bytes : Nat} {z cs : List Value} {d : Nat} {x : Operand} {v : Value} {ty : Nat} {pos : String} {after : Array Edge} (hx : ev l x = some v) (hc : cellsK v = some cs) [SliceK P T e k bytes z] (hz : Nat.beq z.length k = true) (hl : Nat.beq cs.length k = true) (hs : Nat.ble (1 * k) 4096 = true) (hk : Nat.blt 0 (1 * k) = true) (hd : Nat.blt d F.n = true)
    (h : ∀ g H', Grow F.w0 H H' → CellsAt H' g 0 cs → WPL P F Q ops rest ((d, .slice (some ⟨g, 0, none⟩) 1 1) :: l) H' L) : WPL P F Q ops (⟨some d, .buildSlice T 1 #[(0, x)], ty, pos, after, none⟩ :: rest) l H L :=
  sbh (ps := [(0, v)]) (by simp [partsL, hx]) hz hs hk (fillS_one (Nat.eq_of_beq_eq_true hz) hc (Nat.eq_of_beq_eq_true hl)) hd h
theorem wpl_less {ops : Array Oper} {rest : List Oper} {l' : Fm} {L' : OL} (hl : subF l' l) (hL : L'.Sublist L) (h : WPL P F Q ops rest l' H L') : WPL P F Q ops rest l H L := by
  unfold WPL at *
  exact fun a W ha hW => h a W (ha.sub hl) (hW.drop hL)
theorem wpl_drop {ops : Array Oper} {rest : List Oper} (L' : OL) (hL : L'.Sublist L) (h : WPL P F Q ops rest l H L') : WPL P F Q ops rest l H L := by
  unfold WPL at *
  exact fun a W ha hW => h a W ha (hW.drop hL)
theorem wpc_drop {c : Code} (L' : OL) (hL : L'.Sublist L) (h : WPC P F Q c l H L') : WPC P F Q c l H L := by
  unfold WPC at *
  exact fun a W ha hW => h a W ha (hW.drop hL)
theorem St.toRow {w0 : World} {ids : List Nat} {W : World} {g e k c : Nat} {cs : List Value} {xss : List (List Value)} (h : St w0 ids H (.blk g (.cells cs.toArray e (0, 0)) :: L) W) (hx : ∀ xs ∈ xss, xs.length = k) (hc : xss.flatten = cs) (hn : xss.length = c) (hl : cs.length = c * k) (hm : c ≤ maxLen) :
    St w0 ids H (.row e k (some ⟨g, 0, none⟩) c xss :: L) W :=
  ⟨h.os, h.tape, h.output, h.size, h.keep, fun x hx' => by
    rcases List.mem_cons.1 hx' with rfl | hx'
    · have := h.own _ (List.mem_cons_self ..)
      exact ⟨hx, rfl, rfl, by omega, hm, [], by simp [hc, hl], by simp only [List.append_nil, hc]; exact this⟩
    · exact h.own x (List.mem_cons_of_mem _ hx'), by simpa [idsOf, Ent.ids] using h.nd, by simpa [idsOf, Ent.ids] using h.sep, by simpa [idsOf, Ent.ids] using h.new, h.imm⟩
/-- A slice's literal of one element, as a slice of one's own. -/
theorem sr1 {ops : Array Oper} {rest : List Oper} {T e k bytes : Nat} {z cs : List Value} {d : Nat} {x : Operand} {v : Value} {ty : Nat} {pos : String} {after : Array Edge} (hx : ev l x = some v) (hc : cellsK v = some cs) [SliceK P T e k bytes z] (hz : Nat.beq z.length k = true) (hl : Nat.beq cs.length k = true) (hs : Nat.ble (1 * k) 4096 = true) (hk : Nat.blt 0 (1 * k) = true) (hd : Nat.blt d F.n = true)
    (h : ∀ g, WPL P F Q ops rest ((d, .slice (some ⟨g, 0, none⟩) 1 1) :: l) H (.row e k (some ⟨g, 0, none⟩) 1 [cs] :: L)) : WPL P F Q ops (⟨some d, .buildSlice T 1 #[(0, x)], ty, pos, after, none⟩ :: rest) l H L :=
  sb1 hx hc hz hl hs hk hd (fun g => by
    have := h g
    unfold WPL at *
    exact fun a W ha hW => this a W ha (St.toRow hW (by simpa using Nat.eq_of_beq_eq_true hl) (by simp) rfl (by rw [Nat.one_mul]; exact Nat.eq_of_beq_eq_true hl) (by decide)))
/-- The same, of a byte. -/
theorem sr1b {ops : Array Oper} {rest : List Oper} {T e bytes : Nat} {z : List Value} {b : Int} {d : Nat} {x : Operand} {ty : Nat} {pos : String} {after : Array Edge} (hx : ev l x = some (.int .u8 b)) [SliceK P T e 1 bytes z] (hz : Nat.beq z.length 1 = true) (hd : Nat.blt d F.n = true)
    (h : ∀ g, WPL P F Q ops rest ((d, .slice (some ⟨g, 0, none⟩) [b].length 1) :: l) H (.row e 1 (some ⟨g, 0, none⟩) 1 (bys [b]) :: L)) : WPL P F Q ops (⟨some d, .buildSlice T 1 #[(0, x)], ty, pos, after, none⟩ :: rest) l H L :=
  sr1 hx rfl hz rfl rfl rfl hd h
/-! ### a slice's elements -/
theorem flat_get {k : Nat} : ∀ {xss : List (List Value)} {i : Nat} {cs rest : List Value}, (∀ xs ∈ xss, xs.length = k) → xss[i]? = some cs → ∀ t, t < k → (xss.flatten ++ rest)[i * k + t]? = cs[t]?
  | [], i, cs, rest, _, h, t, _ => by simp at h
  | xs :: r, 0, cs, rest, hk, h, t, ht => by
    simp only [List.getElem?_cons_zero, Option.some.injEq] at h
    subst h
    have := hk xs (List.mem_cons_self ..)
    rw [List.flatten_cons, List.append_assoc, List.getElem?_append_left (by omega)]
    congr 1; omega
  | xs :: r, i + 1, cs, rest, hk, h, t, ht => by
    have hl := hk xs (List.mem_cons_self ..)
    have ih := flat_get (xss := r) (i := i) (cs := cs) (rest := rest) (fun ys hy => hk ys (List.mem_cons_of_mem _ hy)) (by simpa using h) t ht
    rw [List.flatten_cons, List.append_assoc, List.getElem?_append_right (by rw [Nat.succ_mul]; omega), ← ih]
    congr 1
    rw [Nat.succ_mul]; omega
theorem stl_app : ∀ (xs ys vs cs' : List Value) (o : Nat), stl ys o vs = some cs' → stl (xs ++ ys) (xs.length + o) vs = some (xs ++ cs')
  | [], ys, vs, cs', o, h => by simpa using h
  | x :: r, ys, vs, cs', o, h => by
    have := stl_app r ys vs cs' o h
    rw [List.cons_append, List.length_cons, show r.length + 1 + o = (r.length + o) + 1 by omega, stl, this]
    rfl
theorem stl_head : ∀ (xs ys vs : List Value), xs.length = vs.length → stl (xs ++ ys) 0 vs = some (vs ++ ys)
  | [], ys, [], _ => by cases ys <;> rfl
  | x :: r, ys, v :: vs, h => by
    have := stl_head r ys vs (by simpa using h)
    rw [List.cons_append, stl, this]; rfl
theorem flat_set {k : Nat} : ∀ {xss : List (List Value)} {i : Nat} {cs rest : List Value}, (∀ xs ∈ xss, xs.length = k) → i < xss.length → cs.length = k → stl (xss.flatten ++ rest) (i * k) cs = some ((xss.set i cs).flatten ++ rest)
  | [], i, cs, rest, _, h, _ => by simp at h
  | xs :: r, 0, cs, rest, hk, h, hc => by
    have hl := hk xs (List.mem_cons_self ..)
    simp only [Nat.zero_mul, List.flatten_cons, List.append_assoc, List.set_cons_zero]
    exact stl_head xs _ cs (by omega)
  | xs :: r, i + 1, cs, rest, hk, h, hc => by
    have hl := hk xs (List.mem_cons_self ..)
    have ih := flat_set (xss := r) (i := i) (cs := cs) (rest := rest) (fun ys hy => hk ys (List.mem_cons_of_mem _ hy)) (by simpa using h) hc
    simp only [List.flatten_cons, List.append_assoc, List.set_cons_succ]
    rw [show (i + 1) * k = xs.length + i * k by rw [Nat.succ_mul]; omega]
    exact stl_app xs _ cs _ _ ih
theorem St.openRow {w0 : World} {ids : List Nat} {W : World} {L1 L2 : OL} {g e k c : Nat} {xss : List (List Value)} (h : St w0 ids H (L1 ++ .row e k (some ⟨g, 0, none⟩) c xss :: L2) W) :
    (∀ xs ∈ xss, xs.length = k) ∧ xss.length ≤ c ∧ c ≤ maxLen ∧ ∃ rest : List Value, (xss.flatten ++ rest).length = c * k ∧ St w0 ids H (L1 ++ .blk g (.cells (xss.flatten ++ rest).toArray e (0, 0)) :: L2) W := by
  obtain ⟨h1, h2, h3, h4, h5, rest, h6, h7⟩ := h.own (.row e k (some ⟨g, 0, none⟩) c xss) (by simp)
  refine ⟨h1, h4, h5, rest, h6, ⟨h.os, h.tape, h.output, h.size, h.keep, fun x hx => ?_, by simpa [idsOf, Ent.ids] using h.nd, by simpa [idsOf, Ent.ids] using h.sep, by simpa [idsOf, Ent.ids] using h.new, h.imm⟩⟩
  rw [List.mem_append, List.mem_cons] at hx
  rcases hx with hx | rfl | hx
  · exact h.own x (by simp [hx])
  · exact h7
  · exact h.own x (by simp [hx])
theorem St.closeRow {w0 : World} {ids : List Nat} {W : World} {L1 L2 : OL} {g e k c : Nat} {xss : List (List Value)} {rest : List Value} (h : St w0 ids H (L1 ++ .blk g (.cells (xss.flatten ++ rest).toArray e (0, 0)) :: L2) W) (h1 : ∀ xs ∈ xss, xs.length = k) (h2 : xss.length ≤ c) (h3 : c ≤ maxLen) (h4 : (xss.flatten ++ rest).length = c * k) :
    St w0 ids H (L1 ++ .row e k (some ⟨g, 0, none⟩) c xss :: L2) W := by
  refine ⟨h.os, h.tape, h.output, h.size, h.keep, fun x hx => ?_, by simpa [idsOf, Ent.ids] using h.nd, by simpa [idsOf, Ent.ids] using h.sep, by simpa [idsOf, Ent.ids] using h.new, h.imm⟩
  rw [List.mem_append, List.mem_cons] at hx
  rcases hx with hx | rfl | hx
  · exact h.own x (by simp [hx])
  · exact ⟨h1, rfl, rfl, h2, h3, rest, h4, h.own (.blk g (.cells (xss.flatten ++ rest).toArray e (0, 0))) (by simp)⟩
  · exact h.own x (by simp [hx])
/-- An element is loaded. -/
theorem ystep_loadR {T : Nat} {agg : Bool} {k n : Nat} [TyK P T agg k] {d : Option Nat} {x : Operand} {ty : Nat} {pos : String} {after : Array Edge} {guard : Option (Nat × Bool)} {g o e c i : Nat} {xss : List (List Value)} {cs : List Value} {L1 L2 : OL} {v : Value}
    (hx : ev l x = some (.pointer (some ⟨g, o, none⟩))) (hR : L = L1 ++ .row e k (some ⟨g, 0, none⟩) c xss :: L2) (ho : o = i * k) (hi : xss[i]? = some cs) (hv : asVal agg cs = some v) :
    YStep P n l H L ⟨d, .load T x, ty, pos, after, guard⟩ v := by
  unfold YStep
  intro a ha W hW
  show (do pure (.value (← Instr.loadAt T (a.eval x))) : Sem Next).run P W = _
  rw [ha.eval hx]
  obtain ⟨h1, _, _, h4, h5, rest, h6, h7⟩ := hW.1 (.row e k (some ⟨g, 0, none⟩) c xss) (by rw [hR]; simp)
  have hl : cs.length = k := h1 cs (List.mem_of_getElem? hi)
  refine runV ?_
  simp only [Instr.loadAt, Instr.sureAddr, pure_bind]
  refine run_loadVarK hl (fun t u ht => ?_) hv
  have hlt : t < k := by rw [← hl]; exact (List.getElem?_eq_some_iff.1 ht).1
  rw [addr_add, cell_of_cells h7, ← ht, ← flat_get (rest := rest) h1 hi t hlt, ho]
  simp
/-- An element is stored. -/
theorem tstep_storeR {T : Nat} {agg : Bool} {k : Nat} [TyK P T agg k] {d : Option Nat} {x y : Operand} {ty : Nat} {pos : String} {after : Array Edge} {guard : Option (Nat × Bool)} {g o e c i : Nat} {xss : List (List Value)} {L1 L2 : OL} {v : Value}
    (hx : ev l x = some (.pointer (some ⟨g, o, none⟩))) (hy : ev l y = some v) (hR : L = L1 ++ .row e k (some ⟨g, 0, none⟩) c xss :: L2) (ho : o = i * k) (hi : i < xss.length) (hn : Nat.beq (cellsL v).length k = true) (h1 : oneC (cellsL v) = true) :
    TStep P F l H L ⟨d, .store T x y, ty, pos, after, guard⟩ (fun r H' L' => r = undef ∧ H' = H ∧ L' = L1 ++ .row e k (some ⟨g, 0, none⟩) c (xss.set i (cellsL v)) :: L2) := by
  unfold TStep
  intro a W ha hW K Q hK
  show Oper.upon P _ a K Q ((do Instr.storeAt T (a.eval x) (a.eval y); pure .skip : Sem Next).run P W)
  rw [ha.eval hx, ha.eval hy]
  rw [hR] at hW
  obtain ⟨k1, k2, k3, rest, k4, hB⟩ := hW.openRow
  have hnl : (cellsL v).length = k := Nat.eq_of_beq_eq_true hn
  have hs := flat_set (rest := rest) k1 hi hnl
  rw [← ho] at hs
  obtain ⟨W', hr, hW'⟩ := hB.storeAt (P := P) h1 hs
  have hc : v.cells.toList = cellsL v := cellsL_eq v
  have hsz : v.cells.size = k := by rw [← Array.length_toList, hc]; exact hnl
  have : (Instr.storeAt T (.pointer (some ⟨g, o, none⟩)) v).run P W = .ok () W' := by
    simp only [Instr.storeAt, Instr.sureAddr, pure_bind, storeVar, Sem.run_bind]
    rw [run_sizeOfK T agg k]
    simp only [Result.andThen_ok, hsz, ne_eq, not_true_eq_false, if_false, Sem.run_pure, hc]
    exact hr
  rw [runU this]
  have k1' : ∀ xs ∈ xss.set i (cellsL v), xs.length = k := fun xs hxs => by
    rcases List.mem_or_eq_of_mem_set hxs with h | rfl
    · exact k1 xs h
    · exact hnl
  have hlen := (stl_spec hs)
  refine hK _ H _ _ ⟨rfl, rfl, rfl⟩ (hW'.closeRow k1' (by simpa using k2) k3 ?_)
  rw [hlen.2]
  simp only [List.length_append, List.length_take, List.length_drop] at hlen ⊢
  simp only [List.length_append] at k4
  omega
/-- What is not empty has a block. -/
theorem wpl_rowsome {ops : Array Oper} {rest : List Oper} {e k c : Nat} {A : Option Addr} {xss : List (List Value)} (L1 L2 : OL) (hL : L = L1 ++ .row e k A c xss :: L2) (hne : xss ≠ []) (h : ∀ g, A = some ⟨g, 0, none⟩ → WPL P F Q ops rest l H L) : WPL P F Q ops rest l H L := by
  unfold WPL at *
  intro a W ha hW
  cases A with
  | none => exact absurd ((hW.own (.row e k none c xss) (by rw [hL]; simp)).1) hne
  | some ad =>
    obtain ⟨_, h2, h3, _⟩ := hW.own (.row e k (some ad) c xss) (by rw [hL]; simp)
    obtain ⟨g, off, spot⟩ := ad
    simp only at h2 h3
    subst h2 h3
    exact h g rfl a W ha hW
theorem wpc_rowsome {code : Code} {e k c : Nat} {A : Option Addr} {xss : List (List Value)} (L1 L2 : OL) (hL : L = L1 ++ .row e k A c xss :: L2) (hne : xss ≠ []) (h : ∀ g, A = some ⟨g, 0, none⟩ → WPC P F Q code l H L) : WPC P F Q code l H L := by
  unfold WPC at *
  intro a W ha hW
  cases A with
  | none => exact absurd ((hW.own (.row e k none c xss) (by rw [hL]; simp)).1) hne
  | some ad =>
    obtain ⟨_, h2, h3, _⟩ := hW.own (.row e k (some ad) c xss) (by rw [hL]; simp)
    obtain ⟨g, off, spot⟩ := ad
    simp only at h2 h3
    subst h2 h3
    exact h g rfl a W ha hW
theorem wpl_perm {ops : Array Oper} {rest : List Oper} (L' : OL) (p : L.Perm L') (h : WPL P F Q ops rest l H L') : WPL P F Q ops rest l H L := by
  unfold WPL at *
  exact fun a W ha hW => h a W ha (hW.perm p)
theorem wpc_perm {c : Code} (L' : OL) (p : L.Perm L') (h : WPC P F Q c l H L') : WPC P F Q c l H L := by
  unfold WPC at *
  exact fun a W ha hW => h a W ha (hW.perm p)
attribute [irreducible] WPT WPH HoldP
theorem tmv {d : Nat} {ty : Nat} {pos : String} {after : Array Edge} {ops : Array Oper} {rest : List Oper} {x : Operand} {v : Value}{K : Fm → Prop} (hx : ev l x = some v) (hd : Nat.blt d F.n = true) (h : WPT P F ops H L rest ((d, v) :: l) K) : WPT P F ops H L (⟨some d, .move x, ty, pos, after, none⟩ :: rest) l K := wpt_y (ystep_plain (by exact hx)) hd h
theorem tas {d : Nat} {ty : Nat} {pos : String} {after : Array Edge} {ops : Array Oper} {rest : List Oper} {x : Operand} {v : Value}{K : Fm → Prop} (hx : ev l x = some v) (hd : Nat.blt d F.n = true) (h : WPT P F ops H L rest ((d, v) :: l) K) : WPT P F ops H L (⟨some d, .assign x, ty, pos, after, none⟩ :: rest) l K := wpt_y (ystep_plain (by exact hx)) hd h
theorem tld {d : Nat} {ty : Nat} {pos : String} {after : Array Edge} {ops : Array Oper} {rest : List Oper} {T : Nat} {agg : Bool} {k : Nat} {x : Operand} {g o T' : Nat} {fz : Nat × Nat} {cs us : List Value} {L1 L2 : OL} {v : Value}{K : Fm → Prop} (hx : ev l x = some (.pointer (some ⟨g, o, none⟩))) [TyK P T agg k] [HasB L g cs T' fz L1 L2] (hs : sl cs o k = some us) (hv : asVal agg us = some v) (hd : Nat.blt d F.n = true) (h : WPT P F ops H L rest ((d, v) :: l) K) : WPT P F ops H L (⟨some d, .load T x, ty, pos, after, none⟩ :: rest) l K := wpt_y (ys_load hx hs hv) hd h
theorem tlh {d : Nat} {ty : Nat} {pos : String} {after : Array Edge} {ops : Array Oper} {rest : List Oper} {T : Nat} {agg : Bool} {k : Nat} {x : Operand} {g o o' f : Nat} {vs us : List Value} {v : Value}{K : Fm → Prop} (hc : CellsAt H g o vs) (hx : ev l x = some (.pointer (some ⟨g, o', none⟩))) (ho : o' = o + f) [TyK P T agg k] (hs : sl vs f k = some us) (hv : asVal agg us = some v) (hd : Nat.blt d F.n = true) (h : WPT P F ops H L rest ((d, v) :: l) K) : WPT P F ops H L (⟨some d, .load T x, ty, pos, after, none⟩ :: rest) l K := wpt_y (ystep_loadH hc hx ho hs hv) hd h
theorem tfa {d : Nat} {ty : Nat} {pos : String} {after : Array Edge} {ops : Array Oper} {rest : List Oper} {T i off ft g o : Nat} {x : Operand}{K : Fm → Prop} [FieldK P T i off ft] (hx : ev l x = some (.pointer (some ⟨g, o, none⟩))) (hd : Nat.blt d F.n = true) (h : WPT P F ops H L rest ((d, .pointer (some ⟨g, o + off, none⟩)) :: l) K) : WPT P F ops H L (⟨some d, .fieldAddr T x i, ty, pos, after, none⟩ :: rest) l K := wpt_y (ystep_fieldAddr hx) hd h
theorem tex {d : Nat} {ty : Nat} {pos : String} {after : Array Edge} {ops : Array Oper} {rest : List Oper} {x : Operand} {i : Nat} {v : Value}{K : Fm → Prop} (hx : plainOp l (.extract x i) = some v) (hd : Nat.blt d F.n = true) (h : WPT P F ops H L rest ((d, v) :: l) K) : WPT P F ops H L (⟨some d, .extract x i, ty, pos, after, none⟩ :: rest) l K := wpt_y (ystep_plain (by exact hx)) hd h
theorem tad {d : Nat} {ty : Nat} {pos : String} {after : Array Edge} {ops : Array Oper} {rest : List Oper} {t t' : Nat} {x y : Operand} {i j : Int}{K : Fm → Prop} (hx : ev l x = some (.int .i64 i)) (hy : ev l y = some (.int .i64 j)) (h0 : -9223372036854775808 ≤ i + j) (h1 : i + j ≤ 9223372036854775807) (hd : Nat.blt d F.n = true) (h : WPT P F ops H L rest ((d, .int .i64 (i + j)) :: l) K) : WPT P F ops H L (⟨some d, .binOp .add t x y t', ty, pos, after, none⟩ :: rest) l K := wpt_y (ystep_add64 hx hy h0 h1) hd h
theorem tsb {d : Nat} {ty : Nat} {pos : String} {after : Array Edge} {ops : Array Oper} {rest : List Oper} {t t' : Nat} {x y : Operand} {i j : Int}{K : Fm → Prop} (hx : ev l x = some (.int .i64 i)) (hy : ev l y = some (.int .i64 j)) (h0 : -9223372036854775808 ≤ i - j) (h1 : i - j ≤ 9223372036854775807) (hd : Nat.blt d F.n = true) (h : WPT P F ops H L rest ((d, .int .i64 (i - j)) :: l) K) : WPT P F ops H L (⟨some d, .binOp .sub t x y t', ty, pos, after, none⟩ :: rest) l K := wpt_y (ystep_sub64 hx hy h0 h1) hd h
theorem tbn {d : Nat} {ty : Nat} {pos : String} {after : Array Edge} {ops : Array Oper} {rest : List Oper} {b : BinOp} {t t' : Nat} {x y : Operand} {v : Value}{K : Fm → Prop} (hx : plainOp l (.binOp b t x y t') = some v) (hd : Nat.blt d F.n = true) (h : WPT P F ops H L rest ((d, v) :: l) K) : WPT P F ops H L (⟨some d, .binOp b t x y t', ty, pos, after, none⟩ :: rest) l K := wpt_y (ystep_plain (by exact hx)) hd h
theorem tpk {d : Nat} {ty : Nat} {pos : String} {after : Array Edge} {ops : Array Oper} {rest : List Oper} {c x y : Operand} {v : Value}{K : Fm → Prop} (hx : plainOp l (.pick c x y) = some v) (hd : Nat.blt d F.n = true) (h : WPT P F ops H L rest ((d, v) :: l) K) : WPT P F ops H L (⟨some d, .pick c x y, ty, pos, after, none⟩ :: rest) l K := wpt_y (ystep_plain (by exact hx)) hd h
theorem tnc {d : Nat} {ty : Nat} {pos : String} {after : Array Edge} {ops : Array Oper} {rest : List Oper} {x : Operand} {v : Value}{K : Fm → Prop} (hx : plainOp l (.nilCheck x) = some v) (hd : Nat.blt d F.n = true) (h : WPT P F ops H L rest ((d, v) :: l) K) : WPT P F ops H L (⟨some d, .nilCheck x, ty, pos, after, none⟩ :: rest) l K := wpt_y (ystep_plain (by exact hx)) hd h
theorem tun {d : Nat} {ty : Nat} {pos : String} {after : Array Edge} {ops : Array Oper} {rest : List Oper} {u : UnOp} {t : Nat} {x : Operand} {v : Value}{K : Fm → Prop} (hx : plainOp l (.unOp u t x) = some v) (hd : Nat.blt d F.n = true) (h : WPT P F ops H L rest ((d, v) :: l) K) : WPT P F ops H L (⟨some d, .unOp u t x, ty, pos, after, none⟩ :: rest) l K := wpt_y (ystep_plain (by exact hx)) hd h
theorem tls {d : Nat} {ty : Nat} {pos : String} {after : Array Edge} {ops : Array Oper} {rest : List Oper} {T : Nat} {x : Operand} {s : ByteArray}{K : Fm → Prop} [UndK P T .string] (hx : ev l x = some (.string s)) (hd : Nat.blt d F.n = true) (h : WPT P F ops H L rest ((d, .int .i64 s.size) :: l) K) : WPT P F ops H L (⟨some d, .call { callee := .builtin .len, args := #[x], argTypes := #[T] }, ty, pos, after, none⟩ :: rest) l K := wpt_y (ystep_lenStr hx) hd h
theorem tlm {d : Nat} {ty : Nat} {pos : String} {after : Array Edge} {ops : Array Oper} {rest : List Oper} {T e k bytes : Nat} {z : List Value} {x : Operand} {A : Option Addr} {len cap : Nat}{K : Fm → Prop} [SliceK P T e k bytes z] (hx : ev l x = some (.slice A len cap)) (hd : Nat.blt d F.n = true) (h : WPT P F ops H L rest ((d, .int .i64 len) :: l) K) : WPT P F ops H L (⟨some d, .call { callee := .builtin .len, args := #[x], argTypes := #[T] }, ty, pos, after, none⟩ :: rest) l K := wpt_y (ystep_lenSlice hx) hd h
theorem tix {d : Nat} {ty : Nat} {pos : String} {after : Array Edge} {ops : Array Oper} {rest : List Oper} {T : Nat} {x y : Operand} {s : ByteArray} {ki : IntKind} {i : Int}{K : Fm → Prop} [UndK P T .string] (hx : ev l x = some (.string s)) (hy : ev l y = some (.int ki i)) (h0 : 0 ≤ i) (h1 : i < s.size) (hd : Nat.blt d F.n = true) (h : WPT P F ops H L rest ((d, .int .u8 (bt s i)) :: l) K) : WPT P F ops H L (⟨some d, .index T x y, ty, pos, after, none⟩ :: rest) l K := wpt_y (ystep_indexStr hx hy h0 h1) hd h
theorem tbd {d : Nat} {ty : Nat} {pos : String} {after : Array Edge} {ops : Array Oper} {rest : List Oper} {T : Nat} {z : List Value} {places : List (Nat × Nat)} {parts : Array (Nat × Operand)} {ps : List (Nat × Value)} {cs : List Value}{K : Fm → Prop} [StructK P T z places] (hp : partsL l parts.toList = some ps) (hf : fillL places z ps = some cs) (hd : Nat.blt d F.n = true) (h : WPT P F ops H L rest ((d, .agg cs.toArray) :: l) K) : WPT P F ops H L (⟨some d, .build T parts, ty, pos, after, none⟩ :: rest) l K := wpt_y (ystep_build hp hf) hd h
theorem tfd {d : Nat} {ty : Nat} {pos : String} {after : Array Edge} {ops : Array Oper} {rest : List Oper} {T i off ft k : Nat} {agg : Bool} {x : Operand} {cs us : List Value} {v : Value}{K : Fm → Prop} [FieldK P T i off ft] [TyK P ft agg k] (hx : ev l x = some (.agg cs.toArray)) (hs : sl cs off k = some us) (hv : asVal agg us = some v) (hd : Nat.blt d F.n = true) (h : WPT P F ops H L rest ((d, v) :: l) K) : WPT P F ops H L (⟨some d, .field T x i, ty, pos, after, none⟩ :: rest) l K := wpt_y (ystep_field hx hs hv) hd h
theorem tcv {d : Nat} {ty : Nat} {pos : String} {after : Array Edge} {ops : Array Oper} {rest : List Oper} {S D : Nat} {ks kd k : IntKind} {x : Operand} {i : Int}{K : Fm → Prop} [UndK P S (.int ks)] [UndK P D (.int kd)] (hx : ev l x = some (.int k i)) (hd : Nat.blt d F.n = true) (h : WPT P F ops H L rest ((d, .int kd (kd.wrap i)) :: l) K) : WPT P F ops H L (⟨some d, .convert S D x, ty, pos, after, none⟩ :: rest) l K := wpt_y (ystep_convInt hx) hd h
theorem tmf {d : Nat} {ty : Nat} {pos : String} {after : Array Edge} {ops : Array Oper} {rest : List Oper} {fn : Go.Fn} {xs ys : Array Operand} {us vs : List Value}{K : Fm → Prop} (hx : evs l xs.toList = some us) (hy : evs l ys.toList = some vs) (hd : Nat.blt d F.n = true) (h : WPT P F ops H L rest ((d, .func fn us.toArray vs.toArray) :: l) K) : WPT P F ops H L (⟨some d, .makeFunc fn xs ys, ty, pos, after, none⟩ :: rest) l K := wpt_y (ystep_makeFunc hx hy) hd h
theorem tia {d : Nat} {ty : Nat} {pos : String} {after : Array Edge} {ops : Array Oper} {rest : List Oper} {T e k bytes g o len cap : Nat} {z : List Value} {x y : Operand} {ki : IntKind} {i : Int}{K : Fm → Prop} [SliceK P T e k bytes z] (hx : ev l x = some (.slice (some ⟨g, o, none⟩) len cap)) (hy : ev l y = some (.int ki i)) (h0 : 0 ≤ i) (h1 : i < len) (hd : Nat.blt d F.n = true) (h : WPT P F ops H L rest ((d, .pointer (some ⟨g, o + i.toNat * k, none⟩)) :: l) K) : WPT P F ops H L (⟨some d, .indexAddr T x y, ty, pos, after, none⟩ :: rest) l K := wpt_y (ystep_indexAddr hx hy h0 h1) hd h
theorem tca {d : Nat} {ty : Nat} {pos : String} {after : Array Edge} {ops : Array Oper} {rest : List Oper} {T : Nat} {x y : Operand} {s : ByteArray} {ki : IntKind} {i : Int}{K : Fm → Prop} [UndK P T .string] (hx : ev l x = some (.string s)) (hy : ev l y = some (.int ki i)) (h0 : 0 ≤ i) (h1 : i ≤ s.size) (hd : Nat.blt d F.n = true) (h : WPT P F ops H L rest ((d, .string (cut s i s.size)) :: l) K) : WPT P F ops H L (⟨some d, .slice T x (some y) none none, ty, pos, after, none⟩ :: rest) l K := wpt_y (ycut_lo hx hy h0 h1) hd h
theorem tcb {d : Nat} {ty : Nat} {pos : String} {after : Array Edge} {ops : Array Oper} {rest : List Oper} {T : Nat} {x y : Operand} {s : ByteArray} {ki : IntKind} {i : Int}{K : Fm → Prop} [UndK P T .string] (hx : ev l x = some (.string s)) (hy : ev l y = some (.int ki i)) (h0 : 0 ≤ i) (h1 : i ≤ s.size) (hd : Nat.blt d F.n = true) (h : WPT P F ops H L rest ((d, .string (cut s 0 i)) :: l) K) : WPT P F ops H L (⟨some d, .slice T x none (some y) none, ty, pos, after, none⟩ :: rest) l K := wpt_y (ycut_hi hx hy h0 h1) hd h
theorem tcc {d : Nat} {ty : Nat} {pos : String} {after : Array Edge} {ops : Array Oper} {rest : List Oper} {T : Nat} {x y z : Operand} {s : ByteArray} {ki kj : IntKind} {i j : Int}{K : Fm → Prop} [UndK P T .string] (hx : ev l x = some (.string s)) (hy : ev l y = some (.int ki i)) (hz : ev l z = some (.int kj j)) (h0 : 0 ≤ i) (h1 : i ≤ j) (h2 : j ≤ s.size) (hd : Nat.blt d F.n = true) (h : WPT P F ops H L rest ((d, .string (cut s i j)) :: l) K) : WPT P F ops H L (⟨some d, .slice T x (some y) (some z) none, ty, pos, after, none⟩ :: rest) l K := wpt_y (ycut_both hx hy hz h0 h1 h2) hd h
theorem tmu {d : Nat} {ty : Nat} {pos : String} {after : Array Edge} {ops : Array Oper} {rest : List Oper} {t t' : Nat} {x y : Operand} {i j : Int}{K : Fm → Prop} (hx : ev l x = some (.int .i64 i)) (hy : ev l y = some (.int .i64 j)) (h0 : -9223372036854775808 ≤ i * j) (h1 : i * j ≤ 9223372036854775807) (hd : Nat.blt d F.n = true) (h : WPT P F ops H L rest ((d, .int .i64 (i * j)) :: l) K) : WPT P F ops H L (⟨some d, .binOp .mul t x y t', ty, pos, after, none⟩ :: rest) l K := wpt_y (ystep_mul64 hx hy h0 h1) hd h
theorem tc6 {d : Nat} {ty : Nat} {pos : String} {after : Array Edge} {ops : Array Oper} {rest : List Oper} {S D : Nat} {ks k : IntKind} {x : Operand} {i : Int}{K : Fm → Prop} [UndK P S (.int ks)] [UndK P D (.int .i64)] (hx : ev l x = some (.int k i)) (h0 : -9223372036854775808 ≤ i) (h1 : i ≤ 9223372036854775807) (hd : Nat.blt d F.n = true) (h : WPT P F ops H L rest ((d, .int .i64 i) :: l) K) : WPT P F ops H L (⟨some d, .convert S D x, ty, pos, after, none⟩ :: rest) l K := wpt_y (ystep_conv64 (ks := ks) hx h0 h1) hd h
theorem tc8 {d : Nat} {ty : Nat} {pos : String} {after : Array Edge} {ops : Array Oper} {rest : List Oper} {S D : Nat} {ks k : IntKind} {x : Operand} {i : Int}{K : Fm → Prop} [UndK P S (.int ks)] [UndK P D (.int .u8)] (hx : ev l x = some (.int k i)) (h0 : 0 ≤ i) (h1 : i ≤ 255) (hd : Nat.blt d F.n = true) (h : WPT P F ops H L rest ((d, .int .u8 i) :: l) K) : WPT P F ops H L (⟨some d, .convert S D x, ty, pos, after, none⟩ :: rest) l K := wpt_y (ystep_conv8 (ks := ks) hx h0 h1) hd h
theorem tqu {d : Nat} {ty : Nat} {pos : String} {after : Array Edge} {ops : Array Oper} {rest : List Oper} {t t' : Nat} {x y : Operand} {i j : Int}{K : Fm → Prop} (hx : ev l x = some (.int .i64 i)) (hy : ev l y = some (.int .i64 j)) (h0 : 0 ≤ i) (h1 : i ≤ 9223372036854775807) (h2 : 0 < j) (hd : Nat.blt d F.n = true) (h : WPT P F ops H L rest ((d, .int .i64 (i / j)) :: l) K) : WPT P F ops H L (⟨some d, .binOp .quo t x y t', ty, pos, after, none⟩ :: rest) l K := wpt_y (ystep_quo64 hx hy h0 h1 h2) hd h
theorem trm {d : Nat} {ty : Nat} {pos : String} {after : Array Edge} {ops : Array Oper} {rest : List Oper} {t t' : Nat} {x y : Operand} {i j : Int}{K : Fm → Prop} (hx : ev l x = some (.int .i64 i)) (hy : ev l y = some (.int .i64 j)) (h0 : 0 ≤ i) (h2 : 0 < j) (hd : Nat.blt d F.n = true) (h : WPT P F ops H L rest ((d, .int .i64 (i % j)) :: l) K) : WPT P F ops H L (⟨some d, .binOp .rem t x y t', ty, pos, after, none⟩ :: rest) l K := wpt_y (ystep_rem64 hx hy h0 h2) hd h
theorem tsh {d : Nat} {ty : Nat} {pos : String} {after : Array Edge} {ops : Array Oper} {rest : List Oper} {t t' : Nat} {x y : Operand} {i j m : Int} {kj : IntKind}{K : Fm → Prop} (hx : ev l x = some (.int .i64 i)) (hy : ev l y = some (.int kj j)) [ShK j m] (hd : Nat.blt d F.n = true) (h : WPT P F ops H L rest ((d, .int .i64 (IntKind.i64.wrap (i * m))) :: l) K) : WPT P F ops H L (⟨some d, .binOp .shl t x y t', ty, pos, after, none⟩ :: rest) l K := wpt_y (ystep_shl64 hx hy) hd h
theorem tor {d : Nat} {ty : Nat} {pos : String} {after : Array Edge} {ops : Array Oper} {rest : List Oper} {t t' : Nat} {x y : Operand} {i j : Int} {k : IntKind}{K : Fm → Prop} (hx : ev l x = some (.int k i)) (hy : ev l y = some (.int k j)) (hd : Nat.blt d F.n = true) (h : WPT P F ops H L rest ((d, .int k (lor k i j)) :: l) K) : WPT P F ops H L (⟨some d, .binOp .or t x y t', ty, pos, after, none⟩ :: rest) l K := wpt_y (ystep_or hx hy) hd h
theorem tct {d : Nat} {ty : Nat} {pos : String} {after : Array Edge} {ops : Array Oper} {rest : List Oper} {t t' : Nat} {x y : Operand} {s u : ByteArray}{K : Fm → Prop} (hx : ev l x = some (.string s)) (hy : ev l y = some (.string u)) (h0 : (s.size : Int) + u.size ≤ 9223372036854775807) (hd : Nat.blt d F.n = true) (h : WPT P F ops H L rest ((d, .string (s ++ u)) :: l) K) : WPT P F ops H L (⟨some d, .binOp .add t x y t', ty, pos, after, none⟩ :: rest) l K := wpt_y (ystep_cat hx hy h0) hd h
theorem tmn {d : Nat} {ty : Nat} {pos : String} {after : Array Edge} {ops : Array Oper} {rest : List Oper} {ts : Array Nat} {x y : Operand} {i j : Int}{K : Fm → Prop} (hx : ev l x = some (.int .i64 i)) (hy : ev l y = some (.int .i64 j)) (hd : Nat.blt d F.n = true) (h : WPT P F ops H L rest ((d, .int .i64 (min i j)) :: l) K) : WPT P F ops H L (⟨some d, .call { callee := .builtin .min, args := #[x, y], argTypes := ts }, ty, pos, after, none⟩ :: rest) l K := wpt_y (ystep_min hx hy) hd h
theorem tmx {d : Nat} {ty : Nat} {pos : String} {after : Array Edge} {ops : Array Oper} {rest : List Oper} {ts : Array Nat} {x y : Operand} {i j : Int}{K : Fm → Prop} (hx : ev l x = some (.int .i64 i)) (hy : ev l y = some (.int .i64 j)) (hd : Nat.blt d F.n = true) (h : WPT P F ops H L rest ((d, .int .i64 (max i j)) :: l) K) : WPT P F ops H L (⟨some d, .call { callee := .builtin .max, args := #[x, y], argTypes := ts }, ty, pos, after, none⟩ :: rest) l K := wpt_y (ystep_max hx hy) hd h
section
variable {d : Option Nat} {ty : Nat} {pos : String} {after : Array Edge} {ops : Array Oper} {rest : List Oper} {K : Fm → Prop}
theorem hmv {x : Operand} (h : WPT P F ops H L (⟨d, .move x, ty, pos, after, none⟩ :: rest) l K) : WPT P F ops H L (⟨d, .move x, ty, pos, after, none⟩ :: rest) l K := h
theorem has {x : Operand} (h : WPT P F ops H L (⟨d, .assign x, ty, pos, after, none⟩ :: rest) l K) : WPT P F ops H L (⟨d, .assign x, ty, pos, after, none⟩ :: rest) l K := h
theorem hld {T : Nat} {x : Operand} (h : WPT P F ops H L (⟨d, .load T x, ty, pos, after, none⟩ :: rest) l K) : WPT P F ops H L (⟨d, .load T x, ty, pos, after, none⟩ :: rest) l K := h
theorem hfa {T i : Nat} {x : Operand} (h : WPT P F ops H L (⟨d, .fieldAddr T x i, ty, pos, after, none⟩ :: rest) l K) : WPT P F ops H L (⟨d, .fieldAddr T x i, ty, pos, after, none⟩ :: rest) l K := h
theorem hex {i : Nat} {x : Operand} (h : WPT P F ops H L (⟨d, .extract x i, ty, pos, after, none⟩ :: rest) l K) : WPT P F ops H L (⟨d, .extract x i, ty, pos, after, none⟩ :: rest) l K := h
theorem had {t t' : Nat} {x y : Operand} (h : WPT P F ops H L (⟨d, .binOp .add t x y t', ty, pos, after, none⟩ :: rest) l K) : WPT P F ops H L (⟨d, .binOp .add t x y t', ty, pos, after, none⟩ :: rest) l K := h
theorem hsb {t t' : Nat} {x y : Operand} (h : WPT P F ops H L (⟨d, .binOp .sub t x y t', ty, pos, after, none⟩ :: rest) l K) : WPT P F ops H L (⟨d, .binOp .sub t x y t', ty, pos, after, none⟩ :: rest) l K := h
theorem hmu {t t' : Nat} {x y : Operand} (h : WPT P F ops H L (⟨d, .binOp .mul t x y t', ty, pos, after, none⟩ :: rest) l K) : WPT P F ops H L (⟨d, .binOp .mul t x y t', ty, pos, after, none⟩ :: rest) l K := h
theorem hbn {b : BinOp} {t t' : Nat} {x y : Operand} (h : WPT P F ops H L (⟨d, .binOp b t x y t', ty, pos, after, none⟩ :: rest) l K) : WPT P F ops H L (⟨d, .binOp b t x y t', ty, pos, after, none⟩ :: rest) l K := h
theorem hpk {c x y : Operand} (h : WPT P F ops H L (⟨d, .pick c x y, ty, pos, after, none⟩ :: rest) l K) : WPT P F ops H L (⟨d, .pick c x y, ty, pos, after, none⟩ :: rest) l K := h
theorem hnc {x : Operand} (h : WPT P F ops H L (⟨d, .nilCheck x, ty, pos, after, none⟩ :: rest) l K) : WPT P F ops H L (⟨d, .nilCheck x, ty, pos, after, none⟩ :: rest) l K := h
theorem hun {u : UnOp} {t : Nat} {x : Operand} (h : WPT P F ops H L (⟨d, .unOp u t x, ty, pos, after, none⟩ :: rest) l K) : WPT P F ops H L (⟨d, .unOp u t x, ty, pos, after, none⟩ :: rest) l K := h
theorem hbd {T : Nat} {ps : Array (Nat × Operand)} (h : WPT P F ops H L (⟨d, .build T ps, ty, pos, after, none⟩ :: rest) l K) : WPT P F ops H L (⟨d, .build T ps, ty, pos, after, none⟩ :: rest) l K := h
theorem hln {T : Nat} {x : Operand} (h : WPT P F ops H L (⟨d, .call { callee := .builtin .len, args := #[x], argTypes := #[T] }, ty, pos, after, none⟩ :: rest) l K) : WPT P F ops H L (⟨d, .call { callee := .builtin .len, args := #[x], argTypes := #[T] }, ty, pos, after, none⟩ :: rest) l K := h
theorem hcl {c : Call} (h : WPT P F ops H L (⟨d, .call c, ty, pos, after, none⟩ :: rest) l K) : WPT P F ops H L (⟨d, .call c, ty, pos, after, none⟩ :: rest) l K := h
theorem hix {T : Nat} {x y : Operand} (h : WPT P F ops H L (⟨d, .index T x y, ty, pos, after, none⟩ :: rest) l K) : WPT P F ops H L (⟨d, .index T x y, ty, pos, after, none⟩ :: rest) l K := h
theorem hfd {T i : Nat} {x : Operand} (h : WPT P F ops H L (⟨d, .field T x i, ty, pos, after, none⟩ :: rest) l K) : WPT P F ops H L (⟨d, .field T x i, ty, pos, after, none⟩ :: rest) l K := h
theorem hcv {S T : Nat} {x : Operand} (h : WPT P F ops H L (⟨d, .convert S T x, ty, pos, after, none⟩ :: rest) l K) : WPT P F ops H L (⟨d, .convert S T x, ty, pos, after, none⟩ :: rest) l K := h
theorem hmf {f : Go.Fn} {xs ys : Array Operand} (h : WPT P F ops H L (⟨d, .makeFunc f xs ys, ty, pos, after, none⟩ :: rest) l K) : WPT P F ops H L (⟨d, .makeFunc f xs ys, ty, pos, after, none⟩ :: rest) l K := h
theorem hmn {ts : Array Nat} {x y : Operand} (h : WPT P F ops H L (⟨d, .call { callee := .builtin .min, args := #[x, y], argTypes := ts }, ty, pos, after, none⟩ :: rest) l K) : WPT P F ops H L (⟨d, .call { callee := .builtin .min, args := #[x, y], argTypes := ts }, ty, pos, after, none⟩ :: rest) l K := h
theorem hmx {ts : Array Nat} {x y : Operand} (h : WPT P F ops H L (⟨d, .call { callee := .builtin .max, args := #[x, y], argTypes := ts }, ty, pos, after, none⟩ :: rest) l K) : WPT P F ops H L (⟨d, .call { callee := .builtin .max, args := #[x, y], argTypes := ts }, ty, pos, after, none⟩ :: rest) l K := h
theorem hsl {T : Nat} {x : Operand} {a b c : Option Operand} (h : WPT P F ops H L (⟨d, .slice T x a b c, ty, pos, after, none⟩ :: rest) l K) : WPT P F ops H L (⟨d, .slice T x a b c, ty, pos, after, none⟩ :: rest) l K := h
theorem hia {T : Nat} {x y : Operand} (h : WPT P F ops H L (⟨d, .indexAddr T x y, ty, pos, after, none⟩ :: rest) l K) : WPT P F ops H L (⟨d, .indexAddr T x y, ty, pos, after, none⟩ :: rest) l K := h
theorem gt_any {o : Oper} (h : WPT P F ops H L (o :: rest) l K) : WPT P F ops H L (o :: rest) l K := h
theorem slr {d ty : Nat} {pos : String} {after : Array Edge} {ops : Array Oper} {rest : List Oper} {T : Nat} {agg : Bool} {k : Nat} {x : Operand} {g o cc : Nat} {xss : List (List Value)} {cs : List Value} {L1 L2 : OL} {v : Value} (i : Nat) [TyK P T agg k] (hx : ev l x = some (.pointer (some ⟨g, o, none⟩))) [hR : HasR L (some ⟨g, 0, none⟩) T k cc xss L1 L2] (ho : o = i * k) (hi : xss[i]? = some cs) (hv : asVal agg cs = some v) (hd : Nat.blt d F.n = true) (h : WPL P F Q ops rest ((d, v) :: l) H L) : WPL P F Q ops (⟨some d, .load T x, ty, pos, after, none⟩ :: rest) l H L := wpl_y (ystep_loadR hx hR.eq ho hi hv).q hd h
theorem slb {d ty : Nat} {pos : String} {after : Array Edge} {ops : Array Oper} {rest : List Oper} {T : Nat} {x : Operand} {g o cc : Nat} {xs : List Int} {b : Int} {L1 L2 : OL} [TyK P T false 1] (hx : ev l x = some (.pointer (some ⟨g, o, none⟩))) [hR : HasR L (some ⟨g, 0, none⟩) T 1 cc (bys xs) L1 L2] (hi : xs[o]? = some b) (hd : Nat.blt d F.n = true) (h : WPL P F Q ops rest ((d, .int .u8 b) :: l) H L) : WPL P F Q ops (⟨some d, .load T x, ty, pos, after, none⟩ :: rest) l H L := wpl_y (ystep_loadR (i := o) (cs := [.int .u8 b]) hx hR.eq (by omega) (by simp [bys, hi]) rfl).q hd h
theorem qlr {d ty : Nat} {pos : String} {after : Array Edge} {ops : Array Oper} {rest : List Oper} {T : Nat} {agg : Bool} {k : Nat} {x : Operand} {g o cc : Nat} {xss : List (List Value)} {cs : List Value} {L1 L2 : OL} {v : Value} (i : Nat) [TyK P T agg k] (hx : ev l x = some (.pointer (some ⟨g, o, none⟩))) [hR : HasR L (some ⟨g, 0, none⟩) T k cc xss L1 L2] (ho : o = i * k) (hi : xss[i]? = some cs) (hv : asVal agg cs = some v) (hd : Nat.blt d F.n = true) (h : WPQ P F ops Q rest ((d, v) :: l) H L) : WPQ P F ops Q (⟨some d, .load T x, ty, pos, after, none⟩ :: rest) l H L := wpq_y (ystep_loadR hx hR.eq ho hi hv).q hd h
theorem qlb {d ty : Nat} {pos : String} {after : Array Edge} {ops : Array Oper} {rest : List Oper} {T : Nat} {x : Operand} {g o cc : Nat} {xs : List Int} {b : Int} {L1 L2 : OL} [TyK P T false 1] (hx : ev l x = some (.pointer (some ⟨g, o, none⟩))) [hR : HasR L (some ⟨g, 0, none⟩) T 1 cc (bys xs) L1 L2] (hi : xs[o]? = some b) (hd : Nat.blt d F.n = true) (h : WPQ P F ops Q rest ((d, .int .u8 b) :: l) H L) : WPQ P F ops Q (⟨some d, .load T x, ty, pos, after, none⟩ :: rest) l H L := wpq_y (ystep_loadR (i := o) (cs := [.int .u8 b]) hx hR.eq (by omega) (by simp [bys, hi]) rfl).q hd h
theorem tlr {d ty : Nat} {pos : String} {after : Array Edge} {ops : Array Oper} {rest : List Oper} {K : Fm → Prop} {T : Nat} {agg : Bool} {k : Nat} {x : Operand} {g o cc : Nat} {xss : List (List Value)} {cs : List Value} {L1 L2 : OL} {v : Value} (i : Nat) [TyK P T agg k] (hx : ev l x = some (.pointer (some ⟨g, o, none⟩))) [hR : HasR L (some ⟨g, 0, none⟩) T k cc xss L1 L2] (ho : o = i * k) (hi : xss[i]? = some cs) (hv : asVal agg cs = some v) (hd : Nat.blt d F.n = true) (h : WPT P F ops H L rest ((d, v) :: l) K) : WPT P F ops H L (⟨some d, .load T x, ty, pos, after, none⟩ :: rest) l K := wpt_y (ystep_loadR hx hR.eq ho hi hv) hd h
theorem tlb {d ty : Nat} {pos : String} {after : Array Edge} {ops : Array Oper} {rest : List Oper} {K : Fm → Prop} {T : Nat} {x : Operand} {g o cc : Nat} {xs : List Int} {b : Int} {L1 L2 : OL} [TyK P T false 1] (hx : ev l x = some (.pointer (some ⟨g, o, none⟩))) [hR : HasR L (some ⟨g, 0, none⟩) T 1 cc (bys xs) L1 L2] (hi : xs[o]? = some b) (hd : Nat.blt d F.n = true) (h : WPT P F ops H L rest ((d, .int .u8 b) :: l) K) : WPT P F ops H L (⟨some d, .load T x, ty, pos, after, none⟩ :: rest) l K := wpt_y (ystep_loadR (i := o) (cs := [.int .u8 b]) hx hR.eq (by omega) (by simp [bys, hi]) rfl) hd h
theorem ssr {ops : Array Oper} {rest : List Oper} {T : Nat} {agg : Bool} {k : Nat} {x y : Operand} {ty : Nat} {pos : String} {after : Array Edge} {g o cc : Nat} {xss : List (List Value)} {L1 L2 : OL} {v : Value} (i : Nat)
    (hx : ev l x = some (.pointer (some ⟨g, o, none⟩))) (hy : ev l y = some v) [TyK P T agg k] [hR : HasR L (some ⟨g, 0, none⟩) T k cc xss L1 L2] (ho : o = i * k) (hi : i < xss.length) (hn : Nat.beq (cellsL v).length k = true) (h1 : oneC (cellsL v) = true)
    (h : WPL P F Q ops rest l H (L1 ++ .row T k (some ⟨g, 0, none⟩) cc (xss.set i (cellsL v)) :: L2)) : WPL P F Q ops (⟨none, .store T x y, ty, pos, after, none⟩ :: rest) l H L :=
  wpl_t (tstep_storeR (d := none) (ty := ty) (pos := pos) (after := after) (guard := none) hx hy hR.eq ho hi hn h1) (wants_none rfl) rfl (by rintro v H' L' ⟨rfl, rfl, rfl⟩; exact h)
theorem ssb_ {ops : Array Oper} {rest : List Oper} {T : Nat} {x y : Operand} {ty : Nat} {pos : String} {after : Array Edge} {g o cc : Nat} {xs : List Int} {b : Int} {L1 L2 : OL}
    (hx : ev l x = some (.pointer (some ⟨g, o, none⟩))) (hy : ev l y = some (.int .u8 b)) [TyK P T false 1] [hR : HasR L (some ⟨g, 0, none⟩) T 1 cc (bys xs) L1 L2] (hi : o < xs.length)
    (h : WPL P F Q ops rest l H (L1 ++ .row T 1 (some ⟨g, 0, none⟩) cc (bys (xs.set o b)) :: L2)) : WPL P F Q ops (⟨none, .store T x y, ty, pos, after, none⟩ :: rest) l H L := by
  refine ssr (xss := bys xs) o hx hy (by omega) (by rw [bys_length]; exact hi) rfl rfl ?_
  rw [show (bys xs).set o (cellsL (.int .u8 b)) = bys (xs.set o b) by simp [bys, cellsL, List.map_set]]
  exact h
end
end Go.Eng
set_option linter.unusedVariables false
set_option linter.unusedSimpArgs false
namespace Go.Eng
open Go
variable {P : Program} {F : Fx} {Q : Post} {l : Fm} {H : GH} {L : OL}
/-! ### another order of what is owned -/
def rear : List Nat → OL → Option OL
  | [], L => nrm L
  | i :: r, L => match pick i L with
    | some (a, e, b) => match rear r (a ++ b) with
      | some t => some (e :: t)
      | none => none
    | none => none
theorem rear_perm : ∀ (r : List Nat) (L L' : OL), rear r L = some L' → L.Perm L'
  | [], L, L', h => by rw [nrm_spec h]
  | i :: r, L, L', h => by
    simp only [rear] at h
    split at h
    · rename_i a e b hp
      split at h
      · rename_i t ht
        simp only [Option.some.injEq] at h
        subst h
        rw [pick_spec hp]
        exact List.perm_middle.trans ((rear_perm r _ _ ht).cons e)
      · cases h
    · cases h
theorem wrl (r : List Nat) {ops : Array Oper} {rest : List Oper} {L' : OL} (hr : rear r L = some L') (h : WPL P F Q ops rest l H L') : WPL P F Q ops rest l H L := wpl_perm _ (rear_perm r _ _ hr) h
theorem wrc (r : List Nat) {c : Code} {L' : OL} (hr : rear r L = some L') (h : WPC P F Q c l H L') : WPC P F Q c l H L := wpc_perm _ (rear_perm r _ _ hr) h
def selL : List Nat → OL → Option OL
  | [], _ => some []
  | i :: r, L => match pick i L with
    | some (_, e, _) => match selL r L with
      | some t => some (e :: t)
      | none => none
    | none => none
theorem wpc_heldI (idx : List Nat) (n : Nat) {LS : OL} {i : Nat} {ops : Array Oper} (hm : P.follows .mixedOrders = true) (hs : selL idx L = some LS) (h : WPH P F ops Q H LS n ops.size (Array.replicate ops.size false) l H L) : WPC P F Q (.region i ops true) l H L := wpc_held LS n hm h
/-! ### a part of an element of a row -/
theorem ystep_loadRF {T : Nat} {agg : Bool} {kk n : Nat} [TyK P T agg kk] {d : Option Nat} {x : Operand} {ty : Nat} {pos : String} {after : Array Edge} {guard : Option (Nat × Bool)} {g o e c i k f : Nat} {xss : List (List Value)} {cs us : List Value} {L1 L2 : OL} {v : Value}
    (hx : ev l x = some (.pointer (some ⟨g, o, none⟩))) (hR : L = L1 ++ .row e k (some ⟨g, 0, none⟩) c xss :: L2) (hi : xss[i]? = some cs) (hs : sl cs f kk = some us) (hv : asVal agg us = some v) (ho : o = i * k + f) :
    YStep P n l H L ⟨d, .load T x, ty, pos, after, guard⟩ v := by
  unfold YStep
  intro a ha W hW
  show (do pure (.value (← Instr.loadAt T (a.eval x))) : Sem Next).run P W = _
  rw [ha.eval hx]
  obtain ⟨h1, _, _, h4, h5, rest, h6, h7⟩ := hW.1 (.row e k (some ⟨g, 0, none⟩) c xss) (by rw [hR]; simp)
  have hl : cs.length = k := h1 cs (List.mem_of_getElem? hi)
  obtain ⟨s1, s2⟩ := sl_spec hs
  refine runV ?_
  simp only [Instr.loadAt, Instr.sureAddr, pure_bind]
  refine run_loadVarK s1 (fun t u ht => ?_) hv
  have hlt : t < kk := by rw [← s1]; exact (List.getElem?_eq_some_iff.1 ht).1
  have hcs : cs[f + t]? = some u := by rw [s2 t hlt, ht]
  have hft : f + t < k := by rw [← hl]; exact (List.getElem?_eq_some_iff.1 hcs).1
  rw [addr_add, cell_of_cells h7, ← hcs, ← flat_get (rest := rest) h1 hi (f + t) hft, ho, Nat.add_assoc]
  simp
/-- Where a row is owned, by its address. -/
class HasRG (L : OL) (g : Nat) (e k c : outParam Nat) (xss : outParam (List (List Value))) (L1 L2 : outParam OL) : Prop where
  eq : L = L1 ++ .row e k (some ⟨g, 0, none⟩) c xss :: L2
instance HasRG.head {g e k c : Nat} {xss : List (List Value)} {r : OL} : HasRG (.row e k (some ⟨g, 0, none⟩) c xss :: r) g e k c xss [] r := ⟨rfl⟩
instance HasRG.tail {g e k c : Nat} {xss : List (List Value)} {x : Ent} {r L1 L2 : OL} [h : HasRG r g e k c xss L1 L2] : HasRG (x :: r) g e k c xss (x :: L1) L2 := ⟨by rw [h.eq]; rfl⟩
theorem slf {d ty : Nat} {pos : String} {after : Array Edge} {ops : Array Oper} {rest : List Oper} {T : Nat} {agg : Bool} {kk : Nat} {x : Operand} {g o e c k : Nat} {xss : List (List Value)} {cs us : List Value} {L1 L2 : OL} {v : Value} (i : Nat) [TyK P T agg kk] (hx : ev l x = some (.pointer (some ⟨g, o, none⟩))) [hR : HasRG L g e k c xss L1 L2] (hi : xss[i]? = some cs) (f : Nat) (hs : sl cs f kk = some us) (hv : asVal agg us = some v) (ho : o = i * k + f) (hd : Nat.blt d F.n = true) (h : WPL P F Q ops rest ((d, v) :: l) H L) : WPL P F Q ops (⟨some d, .load T x, ty, pos, after, none⟩ :: rest) l H L := wpl_y (ystep_loadRF hx hR.eq hi hs hv ho ).q hd h
theorem qlf {d ty : Nat} {pos : String} {after : Array Edge} {ops : Array Oper} {rest : List Oper} {T : Nat} {agg : Bool} {kk : Nat} {x : Operand} {g o e c k : Nat} {xss : List (List Value)} {cs us : List Value} {L1 L2 : OL} {v : Value} (i : Nat) [TyK P T agg kk] (hx : ev l x = some (.pointer (some ⟨g, o, none⟩))) [hR : HasRG L g e k c xss L1 L2] (hi : xss[i]? = some cs) (f : Nat) (hs : sl cs f kk = some us) (hv : asVal agg us = some v) (ho : o = i * k + f) (hd : Nat.blt d F.n = true) (h : WPQ P F ops Q rest ((d, v) :: l) H L) : WPQ P F ops Q (⟨some d, .load T x, ty, pos, after, none⟩ :: rest) l H L := wpq_y (ystep_loadRF hx hR.eq hi hs hv ho ).q hd h
theorem tlf {d ty : Nat} {pos : String} {after : Array Edge} {ops : Array Oper} {rest : List Oper} {K : Fm → Prop} {T : Nat} {agg : Bool} {kk : Nat} {x : Operand} {g o e c k : Nat} {xss : List (List Value)} {cs us : List Value} {L1 L2 : OL} {v : Value} (i : Nat) [TyK P T agg kk] (hx : ev l x = some (.pointer (some ⟨g, o, none⟩))) [hR : HasRG L g e k c xss L1 L2] (hi : xss[i]? = some cs) (f : Nat) (hs : sl cs f kk = some us) (hv : asVal agg us = some v) (ho : o = i * k + f) (hd : Nat.blt d F.n = true) (h : WPT P F ops H L rest ((d, v) :: l) K) : WPT P F ops H L (⟨some d, .load T x, ty, pos, after, none⟩ :: rest) l K := wpt_y (ystep_loadRF hx hR.eq hi hs hv ho ) hd h
/-! ### maps whose keys are strings -/
def mapE : Nat → List (ByteArray × Value) → List MapEntry
  | _, [] => []
  | i, p :: r => { key := .string p.1, val := p.2, born := i } :: mapE (i + 1) r
/-- A map into which pairs were put, one behind the other, none of them again. -/
def mapO (kvs : List (ByteArray × Value)) : Obj := .map (mapE 0 kvs).toArray kvs.length
def mfind : List (ByteArray × Value) → ByteArray → Option Value
  | [], _ => none
  | p :: r, k => if k = p.1 then some p.2 else mfind r k
theorem mapE_snoc : ∀ (kvs : List (ByteArray × Value)) (i : Nat) (p : ByteArray × Value), mapE i (kvs ++ [p]) = mapE i kvs ++ [{ key := .string p.1, val := p.2, born := i + kvs.length }]
  | [], i, p => rfl
  | q :: r, i, p => by simp [mapE, mapE_snoc r, Nat.add_assoc, Nat.add_comm 1]
theorem mapE_len : ∀ (kvs : List (ByteArray × Value)) (i : Nat), (mapE i kvs).length = kvs.length
  | [], i => rfl
  | q :: r, i => by simp [mapE, mapE_len r]
theorem ba_beq (a b : ByteArray) : (a == b) = decide (a = b) := by
  cases a with
  | mk x =>
  cases b with
  | mk y =>
  rw [Bool.eq_iff_iff, decide_eq_true_eq, ByteArray.mk.injEq]
  show (x == y) = true ↔ x = y
  exact beq_iff_eq
theorem findNow_str : ∀ (kvs : List (ByteArray × Value)) (k : ByteArray) (i j : Nat), ∃ r, Instr.findNow .string (.string k) (mapE i kvs) j = some r ∧ r.map (·.2) = mfind kvs k
  | [], k, i, j => ⟨none, rfl, rfl⟩
  | p :: r, k, i, j => by
    by_cases h : k = p.1
    · refine ⟨some (j, p.2), ?_, by simp [mfind, h]⟩
      simp [mapE, Instr.findNow, Instr.sameNow, h, ba_beq]
    · obtain ⟨x, h1, h2⟩ := findNow_str r k (i + 1) (j + 1)
      refine ⟨x, ?_, by simp [mfind, h, h2]⟩
      simp [mapE, Instr.findNow, Instr.sameNow, h, h1, ba_beq]
theorem run_getMap {r : Nat} {es : Array MapEntry} {c : Nat} {W : World} (h : W.heap[r]? = some (.map es c)) : (getObj r).run P W = .ok (.map es c) W := by
  simp [getObj, Sem.run, h]
theorem run_zeroV (T : Nat) {v : Value} [h : ZeroV P T v] (W : World) : (zeroValue T).run P W = .ok v W := by
  obtain ⟨inf, hinf, hz⟩ := Option.map_eq_some_iff.1 h.zero
  simp [zeroValue, typeInfo, hinf, hz]
theorem run_und (T : Nat) {d : TypeDesc} [h : UndK P T d] (W : World) : (underlying T).run P W = .ok d W := by
  simp [underlying, h.und]
theorem ystep_lookup {T kt et n : Nat} {z : Value} [UndK P T (.map kt et)] [UndK P kt .string] [ZeroV P et z] {d : Option Nat} {x y : Operand} {ty : Nat} {pos : String} {after : Array Edge} {guard : Option (Nat × Bool)} {g : Nat} {k : ByteArray} {kvs : List (ByteArray × Value)} {L1 L2 : OL}
    (hx : ev l x = some (.map (some g))) (hy : ev l y = some (.string k)) (hL : L = L1 ++ .blk g (mapO kvs) :: L2) : YStep P n l H L ⟨d, .lookup T x y false, ty, pos, after, guard⟩ ((mfind kvs k).getD z) := by
  unfold YStep
  intro a ha W hW
  show (do pure (Next.value (← Instr.lookup T (a.eval x) (a.eval y) false)) : Sem Next).run P W = _
  rw [ha.eval hx, ha.eval hy]
  have hb : W.heap[g]? = some (mapO kvs) := hW.1 (.blk g (mapO kvs)) (by rw [hL]; simp)
  refine runV ?_
  unfold Instr.lookup
  obtain ⟨r, hr, hr'⟩ := findNow_str kvs k 0 0
  rw [Sem.run_bind, run_und T]
  simp only [Result.andThen_ok]
  rw [Sem.run_bind, run_getMap hb]
  simp only [Result.andThen_ok, pure_bind]
  have hck : (Instr.checkKey (mapE 0 kvs).toArray.isEmpty 10000 kt (.string k)).run P W = .ok () W := by
    unfold Instr.checkKey
    rw [Sem.run_bind, run_und kt]
    rfl
  rw [Sem.run_bind, hck]
  simp only [Result.andThen_ok]
  have hfk : (Instr.findKey kt (.string k) (mapE 0 kvs).toArray.toList).run P W = .ok r W := by
    unfold Instr.findKey
    rw [Sem.run_bind, run_und kt]
    simp only [Result.andThen_ok, hr, Sem.run_pure]
  rw [Sem.run_bind, hfk]
  simp only [Result.andThen_ok]
  cases r with
  | none =>
    rw [← hr']
    simp only [Sem.run_bind, run_zeroV et, Result.andThen_ok, Sem.run_pure]
    rfl
  | some q =>
    rw [← hr']
    rfl
/-- Where a map is owned. -/
class HasM (L : OL) (g : Nat) (kvs : outParam (List (ByteArray × Value))) (L1 L2 : outParam OL) : Prop where
  eq : L = L1 ++ .blk g (mapO kvs) :: L2
instance HasM.head {g : Nat} {kvs : List (ByteArray × Value)} {r : OL} : HasM (.blk g (mapO kvs) :: r) g kvs [] r := ⟨rfl⟩
instance HasM.tail {g : Nat} {kvs : List (ByteArray × Value)} {e : Ent} {r L1 L2 : OL} [h : HasM r g kvs L1 L2] : HasM (e :: r) g kvs (e :: L1) L2 := ⟨by rw [h.eq]; rfl⟩
theorem slu {r : Option Value} {d ty : Nat} {pos : String} {after : Array Edge} {ops : Array Oper} {rest : List Oper} {T kt et : Nat} {z : Value} {x y : Operand} {g : Nat} {k : ByteArray} {kvs : List (ByteArray × Value)} {L1 L2 : OL} (hx : ev l x = some (.map (some g))) (hy : ev l y = some (.string k)) [UndK P T (.map kt et)] [UndK P kt .string] [ZeroV P et z] [hM : HasM L g kvs L1 L2] (hr : mfind kvs k = r) (hd : Nat.blt d F.n = true)
    (h : WPL P F Q ops rest ((d, r.getD z) :: l) H L) : WPL P F Q ops (⟨some d, .lookup T x y false, ty, pos, after, none⟩ :: rest) l H L := wpl_y (ystep_lookup hx hy hM.eq).q hd (by rw [hr]; exact h)
theorem qlu {r : Option Value} {d ty : Nat} {pos : String} {after : Array Edge} {ops : Array Oper} {rest : List Oper} {T kt et : Nat} {z : Value} {x y : Operand} {g : Nat} {k : ByteArray} {kvs : List (ByteArray × Value)} {L1 L2 : OL} (hx : ev l x = some (.map (some g))) (hy : ev l y = some (.string k)) [UndK P T (.map kt et)] [UndK P kt .string] [ZeroV P et z] [hM : HasM L g kvs L1 L2] (hr : mfind kvs k = r) (hd : Nat.blt d F.n = true)
    (h : WPQ P F ops Q rest ((d, r.getD z) :: l) H L) : WPQ P F ops Q (⟨some d, .lookup T x y false, ty, pos, after, none⟩ :: rest) l H L := wpq_y (ystep_lookup hx hy hM.eq).q hd (by rw [hr]; exact h)
theorem smm {ops : Array Oper} {rest : List Oper} {T : Nat} {d : Nat} {ty : Nat} {pos : String} {after : Array Edge} (hd : Nat.blt d F.n = true)
    (h : ∀ g, WPL P F Q ops rest ((d, .map (some g)) :: l) H (.blk g (mapO []) :: L)) : WPL P F Q ops (⟨some d, .makeMap T none, ty, pos, after, none⟩ :: rest) l H L := by
  refine wpl_t (X := fun r H' L' => ∃ g, r = .map (some g) ∧ H' = H ∧ L' = .blk g (mapO []) :: L) ?_ (wants_none rfl) hd (by rintro v H' L' ⟨g, rfl, rfl, rfl⟩; exact h g)
  unfold TStep
  intro a W ha hW K Q hK
  show Oper.upon P _ a K Q ((do pure (.value (← Instr.makeMap T none)) : Sem Next).run P W)
  have : (Instr.makeMap T none).run P W = .ok (.map (some W.heap.size)) { W with heap := W.heap.push (mapO []) } := by
    simp [Instr.makeMap, newObj, Sem.run, mapO, mapE]
  rw [runV this]
  exact hK _ H _ _ ⟨_, rfl, rfl, rfl⟩ (hW.alloc _)
/-- A new key. -/
theorem smp {ops : Array Oper} {rest : List Oper} {T kt et : Nat} {x y z : Operand} {ty : Nat} {pos : String} {after : Array Edge} {g : Nat} {k : ByteArray} {v : Value} {kvs : List (ByteArray × Value)} {L1 L2 : OL} (hx : ev l x = some (.map (some g))) (hy : ev l y = some (.string k)) (hz : ev l z = some v) [UndK P T (.map kt et)] [UndK P kt .string] [hM : HasM L g kvs L1 L2] (hk : mfind kvs k = none)
    (h : WPL P F Q ops rest l H (L1 ++ .blk g (mapO (kvs ++ [(k, v)])) :: L2)) : WPL P F Q ops (⟨none, .mapUpdate T x y z, ty, pos, after, none⟩ :: rest) l H L := by
  refine wpl_t (X := fun r H' L' => r = undef ∧ H' = H ∧ L' = L1 ++ .blk g (mapO (kvs ++ [(k, v)])) :: L2) ?_ (wants_none rfl) rfl (by rintro v H' L' ⟨rfl, rfl, rfl⟩; exact h)
  unfold TStep
  intro a W ha hW K Q hK
  show Oper.upon P _ a K Q ((do Instr.mapUpdate T (a.eval x) (a.eval y) (a.eval z); pure .skip : Sem Next).run P W)
  rw [ha.eval hx, ha.eval hy, ha.eval hz]
  have hb : W.heap[g]? = some (mapO kvs) := hW.own (.blk g (mapO kvs)) (by rw [hM.eq]; simp)
  have hlt : g < W.heap.size := (Array.getElem?_eq_some_iff.1 hb).1
  obtain ⟨r, hr, hr'⟩ := findNow_str kvs k 0 0
  rw [hk] at hr'
  have hr0 : r = none := by cases r with | none => rfl | some q => cases hr'
  subst hr0
  have hrun : (Instr.mapUpdate T (.map (some g)) (.string k) v).run P W = .ok () { W with heap := W.heap.setIfInBounds g (mapO (kvs ++ [(k, v)])) } := by
    unfold Instr.mapUpdate
    rw [Sem.run_bind, run_und T]
    simp only [Result.andThen_ok]
    rw [Sem.run_bind, run_getMap hb]
    simp only [Result.andThen_ok]
    have hck : (Instr.checkKey false 10000 kt (.string k)).run P W = .ok () W := by
      unfold Instr.checkKey
      rw [Sem.run_bind, run_und kt]
      rfl
    rw [Sem.run_bind, hck]
    simp only [Result.andThen_ok]
    have hfk : (Instr.findKey kt (.string k) (mapE 0 kvs).toArray.toList).run P W = .ok none W := by
      unfold Instr.findKey
      rw [Sem.run_bind, run_und kt]
      simp only [Result.andThen_ok, hr, Sem.run_pure]
    rw [Sem.run_bind, hfk]
    simp only [Result.andThen_ok]
    have e : (Obj.map ((mapE 0 kvs).toArray.push { key := .string k, val := v, born := kvs.length }) (kvs.length + 1)) = mapO (kvs ++ [(k, v)]) := by
      unfold mapO
      rw [mapE_snoc]
      simp
    rw [e]
    simp [setObj, Sem.run, mapO, hb]
  rw [runU hrun]
  have hW0 := hW
  rw [hM.eq] at hW0
  refine hK _ H _ _ ⟨rfl, rfl, rfl⟩ (hW0.turn (e' := .blk g (mapO (kvs ++ [(k, v)]))) rfl rfl rfl (by simp) (fun b hbl hbn => ?_) ?_ (.inl rfl))
  · have : b ≠ g := fun e => hbn (by simp [Ent.ids, e])
    simp [Array.getElem?_setIfInBounds, Ne.symm this]
  · simp [Ent.ok, hlt]
/-- A map that says what was seen. -/
def onesM (ks : List ByteArray) : List (ByteArray × Value) := ks.map fun k => (k, .int .i64 1)
theorem onesM_snoc (ks : List ByteArray) (k : ByteArray) : onesM ks ++ [(k, .int .i64 1)] = onesM (ks ++ [k]) := by simp [onesM]
theorem onesM_find : ∀ (ks : List ByteArray) (k : ByteArray), mfind (onesM ks) k = if (ks.any fun q => decide (k = q)) = true then some (.int .i64 1) else none
  | [], k => rfl
  | q :: r, k => by
    show (if k = q then some (Value.int .i64 1) else mfind (onesM r) k) = _
    by_cases h : k = q
    · simp [h]
    · rw [if_neg h, onesM_find r k, List.any_cons, decide_eq_false h, Bool.false_or]
/-! ### what stays from now on -/
/-- Where the elements of a slice lie, that stay. -/
def sliceAt (H : GH) (A : Option Addr) (xss : List (List Value)) : Prop := (A = none ∧ xss = []) ∨ ∃ g o, A = some ⟨g, o, none⟩ ∧ (xss = [] ∨ CellsAt H g o xss.flatten)
theorem sliceAt.mono {H H' : GH} {A : Option Addr} {xss : List (List Value)} (hl : HLe H H') (h : sliceAt H A xss) : sliceAt H' A xss := by
  rcases h with h | ⟨g, o, h1, h2 | h2⟩
  · exact .inl h
  · exact .inr ⟨g, o, h1, .inl h2⟩
  · exact .inr ⟨g, o, h1, .inr (h2.mono hl)⟩
theorem St.freezeRow {w0 : World} {ids : List Nat} {W : World} {e k c : Nat} {A : Option Addr} {xss : List (List Value)} {L1 L2 : OL} (h : St w0 ids H (L1 ++ .row e k A c xss :: L2) W) (hids : ∀ b ∈ ids, b ∈ idsOf (L1 ++ L2)) :
    ∃ H', Grow w0 H H' ∧ sliceAt H' A xss ∧ St w0 ids H' (L1 ++ L2) W := by
  have hok := h.own (.row e k A c xss) (by simp)
  have hnd := h.nd
  have hn : ∀ b ∈ (Ent.row e k A c xss).ids, w0.heap.size ≤ b := by
    intro b hb
    have hin : b ∈ idsOf (L1 ++ .row e k A c xss :: L2) := by
      simp only [idsOf, List.flatMap_append, List.flatMap_cons, List.mem_append]; exact .inr (.inl hb)
    rcases h.new b hin with h1 | h1
    · have h2 := hids b h1
      simp only [idsOf, List.flatMap_append, List.flatMap_cons] at hnd h2
      rw [List.nodup_append] at hnd
      obtain ⟨n1, n2, n3⟩ := hnd
      rw [List.nodup_append] at n2
      obtain ⟨m1, m2, m3⟩ := n2
      rcases List.mem_append.1 h2 with h2 | h2
      · exact absurd rfl (n3 b h2 b (List.mem_append_left _ hb))
      · exact absurd rfl (m3 b hb b h2)
    · exact h1
  obtain ⟨H', hg, hst, hin⟩ := h.freeze hn
  refine ⟨H', hg, ?_, hst⟩
  cases A with
  | none => exact .inl ⟨rfl, hok.1⟩
  | some a =>
    obtain ⟨_, ho, hs, _, _, rest, _, hb⟩ := hok
    obtain ⟨g, o, sp⟩ := a
    dsimp only at ho hs hb
    subst ho hs
    refine .inr ⟨g, 0, rfl, .inr ⟨(xss.flatten ++ rest).toArray, e, (0, 0), ?_, fun t v ht => ?_⟩⟩
    · rw [hin g (by simp [Ent.ids]), hb]
    · have : t < xss.flatten.length := (List.getElem?_eq_some_iff.1 ht).1
      show (xss.flatten ++ rest).toArray[0 + t]? = _
      rw [Nat.zero_add, List.getElem?_toArray, List.getElem?_append_left this]; exact ht
theorem wpl_freeze {ops : Array Oper} {rest : List Oper} {e k c : Nat} {A : Option Addr} {xss : List (List Value)} (L1 L2 : OL) (hL : L = L1 ++ .row e k A c xss :: L2) (hids : ∀ b ∈ F.ids, b ∈ idsOf (L1 ++ L2))
    (h : ∀ H', Grow F.w0 H H' → sliceAt H' A xss → WPL P F Q ops rest l H' (L1 ++ L2)) : WPL P F Q ops rest l H L := by
  unfold WPL at *
  intro a W ha hW
  subst hL
  obtain ⟨H', hg, hc, hst⟩ := hW.freezeRow hids
  exact h H' hg hc a W ha hst
theorem wpc_freeze {code : Code} {e k c : Nat} {A : Option Addr} {xss : List (List Value)} (L1 L2 : OL) (hL : L = L1 ++ .row e k A c xss :: L2) (hids : ∀ b ∈ F.ids, b ∈ idsOf (L1 ++ L2))
    (h : ∀ H', Grow F.w0 H H' → sliceAt H' A xss → WPC P F Q code l H' (L1 ++ L2)) : WPC P F Q code l H L := by
  unfold WPC at *
  intro a W ha hW
  subst hL
  obtain ⟨H', hg, hc, hst⟩ := hW.freezeRow hids
  exact h H' hg hc a W ha hst
theorem wpe_freeze {x : Exit} {e k c : Nat} {A : Option Addr} {xss : List (List Value)} (L1 L2 : OL) (hL : L = L1 ++ .row e k A c xss :: L2) (hids : ∀ b ∈ F.ids, b ∈ idsOf (L1 ++ L2))
    (h : ∀ H', Grow F.w0 H H' → sliceAt H' A xss → WPE F Q x l H' (L1 ++ L2)) : WPE F Q x l H L := by
  unfold WPE at *
  intro a W ha hW
  subst hL
  obtain ⟨H', hg, hc, hst⟩ := hW.freezeRow hids
  exact h H' hg hc a W ha hst
theorem Grow.tr {w0 : World} {a b c : GH} (h : Grow w0 a b) (k : Grow w0 b c) : Grow w0 a c := h.trans (Nat.le_refl _) k
/-- An element of what stays. -/
theorem CellsAt.el {g o k i : Nat} {xss : List (List Value)} {cs : List Value} (h : CellsAt H g o xss.flatten) (hk : ∀ xs ∈ xss, xs.length = k) (hi : xss[i]? = some cs) : CellsAt H g (o + i * k) cs := by
  obtain ⟨c, T, fz, h1, h2⟩ := h
  refine ⟨c, T, fz, h1, fun t v ht => ?_⟩
  have htk : t < k := by
    have := (List.getElem?_eq_some_iff.1 ht).1
    rw [hk cs (List.mem_of_getElem? hi)] at this
    exact this
  have := flat_get (rest := []) hk hi t htk
  rw [List.append_nil] at this
  rw [Nat.add_assoc]
  exact h2 _ _ (this.trans ht)
end Go.Eng
set_option linter.unusedVariables false
set_option linter.unusedSimpArgs false
namespace Go.Eng
open Go
variable {P : Program} {F : Fx} {Q : Post} {l : Fm} {H : GH} {L : OL}
/-- Does operation j wait for operation i? -/
def waits (o : Oper) (i : Nat) : Bool := o.after.any fun e => Region.binds .any e && e.on == i
/-- Is S asked behind operation j? M: the operations that look; U: those that neither look nor store. -/
def condU (ops : Array Oper) (M U : List Nat) (j : Nat) : Bool := !U.contains j && (match ops[j]? with
  | some o => M.any fun i => !waits o i
  | none => true)
def anyU (P : Program) (ops : Array Oper) (Q : Post) (S : World → Prop) (M U : List Nat) : Nat → Array Bool → Act → World → Prop
  | 0, listed, a, w => Region.ready .any ops listed = [] ∧ Q .normal a w
  | fuel + 1, listed, a, w =>
    (Region.ready .any ops listed = [] → Q .normal a w) ∧
    ∀ i ∈ Region.ready .any ops listed, wpOp P ops Q i (fun a' w' => (condU ops M U i = true → S w') ∧ anyU P ops Q S M U fuel (listed.setIfInBounds i true) a' w') a w
theorem anyU_any {ops : Array Oper} {S : World → Prop} {M U : List Nat} : ∀ (fuel : Nat) (listed : Array Bool) (a : Act) (w : World), anyU P ops Q S M U fuel listed a w → wpAny P .any ops Q fuel listed a w
  | 0, _, _, _, h => h
  | fuel + 1, _, _, _, h => ⟨h.1, fun i hi => wpOp_mono (fun a' w' h' => anyU_any fuel _ a' w' h'.2) (h.2 i hi)⟩
theorem waits_not {o : Oper} {i : Nat} (h : ∀ e ∈ o.after, Region.binds .any e = true → e.on ≠ i) : waits o i = false := by
  unfold waits
  rw [Bool.eq_false_iff]
  intro hc
  rw [Array.any_eq_true'] at hc
  obtain ⟨e, he, hc⟩ := hc
  simp only [Bool.and_eq_true, beq_iff_eq] at hc
  exact h e he hc.1 hc.2
theorem condU_of {ops : Array Oper} {M U : List Nat} {i j : Nat} {oj : Oper} (hj : ops[j]? = some oj) (hU : U.contains j = false) (hi : i ∈ M) (h : ∀ e ∈ oj.after, Region.binds .any e = true → e.on ≠ i) : condU ops M U j = true := by
  unfold condU
  rw [hU, hj]
  simp only [Bool.not_false, Bool.true_and]
  rw [List.any_eq_true]
  exact ⟨i, hi, by rw [waits_not h]; rfl⟩
/-- Do all that neither look nor store, and are not listed, wait for operation i? -/
def restU (ops : Array Oper) (listed : Array Bool) (U : List Nat) (i : Nat) : Bool := U.all fun j => listed.getD j true || j == i || (match ops[j]? with | some o => waits o i | none => true)
/-- A first one that looks. -/
theorem anyU_first {ops : Array Oper} {S : World → Prop} {M U : List Nat} {i : Nat} {oi : Oper} {v : Value} (hi : ops[i]? = some oi) (hM : i ∈ M) (hsel : ∀ (j : Nat) (o : Oper) cs b, ops[j]? = some o → o.op ≠ .select cs b)
    (hQ : ∀ c a w, Q (.panic c) (a.put oi.dst v) w → Q (.panic c) a w) :
    ∀ (fuel : Nat) (listed : Array Bool) (a : Act) (w : World), restU ops listed U i = true →
      (∀ j oj, ops[j]? = some oj → j ≠ i → listed.getD j true = false → (∀ e ∈ oj.after, Region.binds .any e = true → e.on ≠ i) → oi.apart ops oj = true) →
      i ∈ Region.ready .any ops listed → YieldsIf P ops S oi v a → S w →
      anyU P ops Q S M U fuel (listed.setIfInBounds i true) (a.put oi.dst v) w → anyU P ops Q S M U (fuel + 1) listed a w := by
  intro fuel
  induction fuel with
  | zero =>
    intro listed a w hR hfree hr hy hS H
    refine ⟨fun h => (by rw [h] at hr; cases hr), fun j hj => ?_⟩
    by_cases hji : j = i
    · subst hji; exact hy.wpOp hi hS ⟨fun _ => hS, H⟩
    · have := ready_mono hj hji
      rw [H.1] at this
      cases this
  | succ fuel ih =>
    intro listed a w hR hfree hr hy hS H
    refine ⟨fun h => (by rw [h] at hr; cases hr), fun j hj => ?_⟩
    by_cases hji : j = i
    · subst hji; exact hy.wpOp hi hS ⟨fun _ => hS, H⟩
    have h1 := H.2 j (ready_mono hj hji)
    obtain ⟨hjun, oj, hoj, hall⟩ := mem_ready.1 hj
    have hiun := (mem_ready.1 hr).1
    have hnot : ∀ e ∈ oj.after, Region.binds .any e = true → e.on ≠ i := by
      intro e he hb heq
      have h1 := hall e he hb
      rw [heq] at h1
      by_cases h' : i < listed.size
      · simp [h'] at hiun h1; rw [hiun] at h1; cases h1
      · simp [Array.getElem?_eq_none (Nat.le_of_not_lt h')] at h1
    have hjU : U.contains j = false := by
      cases hc : U.contains j with
      | false => rfl
      | true =>
        unfold restU at hR
        have := List.all_eq_true.1 hR j (by simpa using hc)
        rw [hjun, hoj] at this
        simp only [Bool.false_or, Bool.or_eq_true, beq_iff_eq] at this
        rcases this with h | h
        · exact absurd h hji
        · rw [waits_not hnot] at h; cases h
    have h2 := wpOp_putIf hoj (hfree j oj hoj hji hjun hnot) (fun cs b => hsel i oi cs b hi) (fun cs b => hsel j oj cs b hoj) hQ hy h1
    have hri := ready_mono hr (Ne.symm hji)
    refine wpOp_mono (fun a' w' h3 => ?_) h2
    obtain ⟨hy', hSn, hrest⟩ := h3
    have hS' : S w' := hSn (condU_of hoj hjU hM hnot)
    refine ⟨hSn, ?_⟩
    refine ih (listed.setIfInBounds j true) a' w' ?_ ?_ hri hy' hS' ?_
    · unfold restU at hR ⊢
      rw [List.all_eq_true] at hR ⊢
      intro k hk
      have := hR k hk
      by_cases hjk : j = k
      · subst hjk
        have : (listed.setIfInBounds j true).getD j true = true := by
          rw [Array.getD_eq_getD_getElem?, Array.getElem?_setIfInBounds]
          by_cases h : j < listed.size <;> simp [h]
        rw [this]; simp
      · rw [getD_set_ne true hjk]; exact this
    · intro k ok hk hki hun hno
      refine hfree k ok hk hki ?_ hno
      by_cases hjk : j = k
      · subst hjk; exact hjun
      · rw [getD_set_ne true hjk] at hun; exact hun
    · rw [Array.setIfInBounds_comm _ _ hji]
      exact hrest
/-- A first one that neither looks nor stores. -/
theorem anyU_free {ops : Array Oper} {S : World → Prop} {M U : List Nat} {i : Nat} {oi : Oper} {v : Value} (hi : ops[i]? = some oi) (hU : U.contains i = true) (hsel : ∀ (j : Nat) (o : Oper) cs b, ops[j]? = some o → o.op ≠ .select cs b)
    (hQ : ∀ c a w, Q (.panic c) (a.put oi.dst v) w → Q (.panic c) a w) :
    ∀ (fuel : Nat) (listed : Array Bool) (a : Act) (w : World),
      (∀ j oj, ops[j]? = some oj → j ≠ i → listed.getD j true = false → (∀ e ∈ oj.after, Region.binds .any e = true → e.on ≠ i) → oi.apart ops oj = true) →
      i ∈ Region.ready .any ops listed → YieldsIf P ops (fun _ => True) oi v a →
      anyU P ops Q S M U fuel (listed.setIfInBounds i true) (a.put oi.dst v) w → anyU P ops Q S M U (fuel + 1) listed a w := by
  have hc : condU ops M U i = false := by unfold condU; rw [hU]; rfl
  intro fuel
  induction fuel with
  | zero =>
    intro listed a w hfree hr hy H
    refine ⟨fun h => (by rw [h] at hr; cases hr), fun j hj => ?_⟩
    by_cases hji : j = i
    · subst hji; exact hy.wpOp hi trivial ⟨fun h => (by rw [hc] at h; cases h), H⟩
    · have := ready_mono hj hji
      rw [H.1] at this
      cases this
  | succ fuel ih =>
    intro listed a w hfree hr hy H
    refine ⟨fun h => (by rw [h] at hr; cases hr), fun j hj => ?_⟩
    by_cases hji : j = i
    · subst hji; exact hy.wpOp hi trivial ⟨fun h => (by rw [hc] at h; cases h), H⟩
    have h1 := H.2 j (ready_mono hj hji)
    obtain ⟨hjun, oj, hoj, hall⟩ := mem_ready.1 hj
    have hiun := (mem_ready.1 hr).1
    have hnot : ∀ e ∈ oj.after, Region.binds .any e = true → e.on ≠ i := by
      intro e he hb heq
      have h1 := hall e he hb
      rw [heq] at h1
      by_cases h' : i < listed.size
      · simp [h'] at hiun h1; rw [hiun] at h1; cases h1
      · simp [Array.getElem?_eq_none (Nat.le_of_not_lt h')] at h1
    have h2 := wpOp_putIf hoj (hfree j oj hoj hji hjun hnot) (fun cs b => hsel i oi cs b hi) (fun cs b => hsel j oj cs b hoj) hQ hy h1
    have hri := ready_mono hr (Ne.symm hji)
    refine wpOp_mono (fun a' w' h3 => ?_) h2
    obtain ⟨hy', hSn, hrest⟩ := h3
    refine ⟨hSn, ?_⟩
    refine ih (listed.setIfInBounds j true) a' w' ?_ hri hy' ?_
    · intro k ok hk hki hun hno
      refine hfree k ok hk hki ?_ hno
      by_cases hjk : j = k
      · subst hjk; exact hjun
      · rw [getD_set_ne true hjk] at hun; exact hun
    · rw [Array.setIfInBounds_comm _ _ hji]
      exact hrest
def WPHU (P : Program) (F : Fx) (ops : Array Oper) (Q : Post) (HS : GH) (LS : OL) (M U : List Nat) (fuel : Nat) (listed : Array Bool) (l : Fm) (H : GH) (L : OL) : Prop :=
  ∀ a W, Knows F.n l a → St F.w0 F.ids H L W → anyU P ops (NoPanic Q) (Hs HS LS) M U fuel listed a W
theorem wpc_heldU (idx M U : List Nat) {LS : OL} {i : Nat} {ops : Array Oper} (hm : P.follows .mixedOrders = true) (hs : selL idx L = some LS) (h : WPHU P F ops Q H LS M U ops.size (Array.replicate ops.size false) l H L) : WPC P F Q (.region i ops true) l H L := by
  unfold WPC
  exact fun a W ha hW => wp_region_noPanic (wp_region_any hm (anyU_any _ _ _ _ (h a _ ha (hW.drawn _))))
def looksOk (ops : Array Oper) (M U : List Nat) (listed : Array Bool) : List Nat → Bool
  | [] => true
  | i :: r => (Region.ready .any ops listed).contains i && Region.free .any ops listed i && M.contains i && restU ops listed U i && looksOk ops M U (listed.setIfInBounds i true) r
theorem whu_looks0 {ops : Array Oper} {HS : GH} {LS : OL} {M U : List Nat} {fuel : Nat} (hs : Region.noSelect ops = true) (hH : HLe HS H) (hL : LS.Sublist L) : ∀ (idx : List Nat) (listed : Array Bool) (l : Fm) (os : List Oper), pickOps ops idx = some os → looksOk ops M U listed idx = true →
    WPT P F ops HS LS os l (fun l' => WPHU P F ops Q HS LS M U fuel (setAll listed idx) l' H L) → WPHU P F ops Q HS LS M U (fuel + idx.length) listed l H L
  | [], listed, l, os, ho, hk, h => by
    simp only [pickOps, Option.some.injEq] at ho
    subst ho
    rw [wpt_nil_eq] at h
    exact h
  | i :: r, listed, l, os, ho, hk, h => by
    simp only [pickOps] at ho
    split at ho
    · rename_i o os' h1 h2
      simp only [Option.some.injEq] at ho
      subst ho
      simp only [looksOk, Bool.and_eq_true] at hk
      rw [wpt_cons_eq] at h
      obtain ⟨v, hv, hd, hr⟩ := h
      have ih := whu_looks0 hs hH hL r (listed.setIfInBounds i true) _ os' h2 hk.2 hr
      intro a W ha hW
      have hS : Hs HS LS W := by
        have := (hW.drop hL).hs
        exact ⟨this.1, fun b o hb => this.2 b o (hH b o hb)⟩
      refine anyU_first h1 (by simpa using hk.1.1.2) (Region.noSelect_spec hs) (fun c a w h => h) (fuel + r.length) listed a W hk.1.2 (Region.free_spec h1 hk.1.1.1.2) (by simpa using hk.1.1.1.1) ?_ hS (ih _ W (ha.upd hd v) hW)
      rcases hv with ⟨hw, hy⟩ | ⟨hw, rfl⟩
      · unfold Wants at hw
        unfold YStep at hy
        exact .inl ⟨hw F.n a ha, fun w hS => hy a ha w hS⟩
      · unfold Wants at hw
        exact .inr ⟨hw F.n a ha, rfl⟩
    · cases ho
theorem whu_looks (idx : List Nat) {M U : List Nat} {fuel fuel' : Nat} {ops : Array Oper} {HS : GH} {LS : OL} {listed listed' : Array Bool} {os : List Oper} (hk : (Region.noSelect ops && looksOk ops M U listed idx && (fuel' == fuel + idx.length)) = true) (ho : pickOps ops idx = some os) (hl : setAll listed idx = listed') (hH : HLe HS H) (hL : LS.Sublist L)
    (h : WPT P F ops HS LS os l (fun l' => WPHU P F ops Q HS LS M U fuel listed' l' H L)) : WPHU P F ops Q HS LS M U fuel' listed l H L := by
  subst hl
  simp only [Bool.and_eq_true, beq_iff_eq] at hk
  obtain ⟨⟨h1, h2⟩, rfl⟩ := hk
  exact whu_looks0 h1 hH hL idx listed l os ho h2 h
theorem whu_free0 {ops : Array Oper} {HS : GH} {LS : OL} {M U : List Nat} {fuel : Nat} (hs : Region.noSelect ops = true) : ∀ (idx : List Nat) (listed : Array Bool) (l : Fm) (os : List Oper), (∀ i ∈ idx, U.contains i = true) → pickOps ops idx = some os → takesOk ops listed idx = true →
    WPT P F ops (fun _ => none) [] os l (fun l' => WPHU P F ops Q HS LS M U fuel (setAll listed idx) l' H L) → WPHU P F ops Q HS LS M U (fuel + idx.length) listed l H L
  | [], listed, l, os, hn, ho, hk, h => by
    simp only [pickOps, Option.some.injEq] at ho
    subst ho
    rw [wpt_nil_eq] at h
    exact h
  | i :: r, listed, l, os, hn, ho, hk, h => by
    simp only [pickOps] at ho
    split at ho
    · rename_i o os' h1 h2
      simp only [Option.some.injEq] at ho
      subst ho
      simp only [takesOk, Bool.and_eq_true] at hk
      rw [wpt_cons_eq] at h
      obtain ⟨v, hv, hd, hr⟩ := h
      have ih := whu_free0 hs r (listed.setIfInBounds i true) _ os' (fun j hj => hn j (List.mem_cons_of_mem _ hj)) h2 hk.2 hr
      intro a W ha hW
      refine anyU_free h1 (hn i (List.mem_cons_self ..)) (Region.noSelect_spec hs) (fun c a w h => h) (fuel + r.length) listed a W (Region.free_spec h1 hk.1.2) (by simpa using hk.1.1) ?_ (ih _ W (ha.upd hd v) hW)
      rcases hv with ⟨hw, hy⟩ | ⟨hw, rfl⟩
      · unfold Wants at hw
        unfold YStep at hy
        exact .inl ⟨hw F.n a ha, fun w _ => hy a ha w (by unfold Hs; simp)⟩
      · unfold Wants at hw
        exact .inr ⟨hw F.n a ha, rfl⟩
    · cases ho
theorem whu_free (idx : List Nat) {M U : List Nat} {fuel fuel' : Nat} {ops : Array Oper} {HS : GH} {LS : OL} {listed listed' : Array Bool} {os : List Oper} (hk : (Region.noSelect ops && takesOk ops listed idx && (fuel' == fuel + idx.length) && idx.all (fun i => U.contains i)) = true) (ho : pickOps ops idx = some os) (hl : setAll listed idx = listed')
    (h : WPT P F ops (fun _ => none) [] os l (fun l' => WPHU P F ops Q HS LS M U fuel listed' l' H L)) : WPHU P F ops Q HS LS M U fuel' listed l H L := by
  subst hl
  simp only [Bool.and_eq_true, beq_iff_eq] at hk
  obtain ⟨⟨⟨h1, h2⟩, rfl⟩, h3⟩ := hk
  exact whu_free0 h1 idx listed l os (fun i hi => List.all_eq_true.1 h3 i hi) ho h2 h
def HoldU (P : Program) (ops : Array Oper) (Q : Post) (HS : GH) (LS : OL) (M U : List Nat) (i fuel : Nat) (listed : Array Bool) : Post := Exit.then (fun a W => (condU ops M U i = true → Hs HS LS W) ∧ anyU P ops (NoPanic Q) (Hs HS LS) M U fuel listed a W) (NoPanic Q)
theorem weu_hold {ops : Array Oper} {HS : GH} {LS : OL} {M U : List Nat} {i fuel : Nat} {listed : Array Bool} (hH : HLe HS H) (hL : LS.Sublist L) (h : WPHU P F ops Q HS LS M U fuel listed l H L) : WPE F (HoldU P ops Q HS LS M U i fuel listed) .normal l H L := by
  unfold WPE
  intro a W ha hW
  have hS : Hs HS LS W := by
    have := (hW.drop hL).hs
    exact ⟨this.1, fun b o hb => this.2 b o (hH b o hb)⟩
  exact ⟨fun _ => hS, h a W ha hW⟩
theorem weu_last {ops : Array Oper} {HS : GH} {LS : OL} {M U : List Nat} {i fuel : Nat} {listed : Array Bool} (hn : condU ops M U i = false) (h : WPHU P F ops Q HS LS M U fuel listed l H L) : WPE F (HoldU P ops Q HS LS M U i fuel listed) .normal l H L := by
  unfold WPE
  intro a W ha hW
  exact ⟨fun hc => by (rw [hn] at hc; cases hc), h a W ha hW⟩
theorem one_stepU {ops : Array Oper} {HS : GH} {LS : OL} {M U : List Nat} {fuel : Nat} {listed : Array Bool} {i : Nat} {o : Oper} {a : Act} {W : World} (ho : ops[i]? = some o) (h : wpList P ops (HoldU P ops Q HS LS M U i fuel listed) [o] a W) :
    wpOp P ops (NoPanic Q) i (fun a' w' => (condU ops M U i = true → Hs HS LS w') ∧ anyU P ops (NoPanic Q) (Hs HS LS) M U fuel listed a' w') a W := by
  unfold wpOp
  simp only [ho]
  unfold wpList at h
  split
  · rename_i hw
    rw [if_pos hw] at h
    rcases h with h | ⟨h1, h2⟩
    · refine .inl ?_
      unfold Oper.wp at *
      generalize (execOp a.eval o).run P W = r at *
      cases r with
      | ok x w' =>
        cases x <;> simp only [Oper.upon] at h ⊢ <;>
          first
            | exact h
            | exact Calls.mono h (fun e w'' he => by cases e <;> first | exact he | exact he.elim)
            | exact Rows.mono h (fun _ _ he => he)
      | halt x w' => cases x <;> simp only [Oper.upon] at h ⊢ <;> exact h
    · exact .inr ⟨h1, h2⟩
  · rename_i hw
    rw [if_neg hw] at h
    exact h
theorem whu_one (i : Nat) {M U : List Nat} {fuel : Nat} {ops : Array Oper} {HS : GH} {LS : OL} {listed listed' : Array Bool} {o : Oper} (hr : Region.ready .any ops listed = [i]) (ho : ops[i]? = some o) (hl : listed.setIfInBounds i true = listed')
    (h : WPL P F (HoldU P ops Q HS LS M U i fuel listed') ops [o] l H L) : WPHU P F ops Q HS LS M U (fuel + 1) listed l H L := fun a W ha hW => by
  subst hl
  unfold WPL at h
  refine ⟨fun h0 => by (rw [hr] at h0; cases h0), fun j hj => ?_⟩
  rw [hr] at hj
  simp only [List.mem_singleton] at hj
  subst hj
  exact one_stepU ho (h a W ha hW)
theorem whu_two (i j : Nat) {M U : List Nat} {fuel : Nat} {ops : Array Oper} {HS : GH} {LS : OL} {listed li lj : Array Bool} {o o' : Oper} (hr : Region.ready .any ops listed = [i, j]) (ho : ops[i]? = some o) (ho' : ops[j]? = some o') (hl : listed.setIfInBounds i true = li) (hl' : listed.setIfInBounds j true = lj)
    (h : WPL P F (HoldU P ops Q HS LS M U i fuel li) ops [o] l H L) (h' : WPL P F (HoldU P ops Q HS LS M U j fuel lj) ops [o'] l H L) : WPHU P F ops Q HS LS M U (fuel + 1) listed l H L := fun a W ha hW => by
  subst hl
  subst hl'
  unfold WPL at h h'
  refine ⟨fun h0 => by (rw [hr] at h0; cases h0), fun k hk => ?_⟩
  rw [hr] at hk
  simp only [List.mem_cons, List.not_mem_nil, or_false] at hk
  rcases hk with rfl | rfl
  · exact one_stepU ho (h a W ha hW)
  · exact one_stepU ho' (h' a W ha hW)
theorem whu_done {M U : List Nat} {fuel : Nat} {ops : Array Oper} {HS : GH} {LS : OL} {listed : Array Bool} (hr : Region.ready .any ops listed = []) (h : WPE F Q .normal l H L) : WPHU P F ops Q HS LS M U fuel listed l H L := fun a W ha hW => by
  unfold WPE at h
  have := NoPanic.normal (h a W ha hW)
  cases fuel with
  | zero => exact ⟨hr, this⟩
  | succ fuel => exact ⟨fun _ => this, fun j hj => by (rw [hr] at hj; cases hj)⟩
attribute [irreducible] WPHU HoldU
end Go.Eng
set_option linter.unusedVariables false
set_option linter.unusedSimpArgs false
namespace Go.Eng
open Go
variable {P : Program} {F : Fx} {Q : Post} {l : Fm} {H : GH} {L : OL}
instance : ShK 1 2 := ⟨by decide⟩
/-- A loop, entered where more is known. -/
theorem wpc_loopS {ι : Type} {c : Code} (Φ : ι → Prop) (μ : ι → Nat) (fm : ι → Fm) (hh : ι → GH) (ll : ι → OL) (x0 : ι) (h0 : Φ x0) (hf : subF (fm x0) l) (hH : hh x0 = H) (hL : (ll x0).Sublist L)
    (round : ∀ x, Φ x → WPC P F (BackP F Φ μ (μ x) fm hh ll Q) c (fm x) (hh x) (ll x)) : WPC P F Q (.loop c) l H L := by
  subst hH
  exact wpc_less hf hL (wpc_loop Φ μ fm hh ll round x0 h0)
theorem lki {k : IntKind} {x y : Int} (h : x = y) : some (Value.int k x) = some (Value.int k y) := by rw [h]
theorem wrapU_in {x : Int} (h0 : 0 ≤ x) (h1 : x ≤ 9223372036854775807) : IntKind.u64.wrap x = x := by
  have e1 : (2 : Int) ^ IntKind.u64.bits = 18446744073709551616 := by decide
  unfold IntKind.wrap
  rw [e1]
  simp only [IntKind.signed, Bool.false_and, Bool.false_eq_true, if_false]
  omega
theorem ystep_conv7 {S D n : Nat} {ks : IntKind} [hs : UndK P S (.int ks)] [hd : UndK P D (.int .u64)] {d : Option Nat} {x : Operand} {ty : Nat} {pos : String} {after : Array Edge} {guard : Option (Nat × Bool)} {k : IntKind} {i : Int}
    (hx : ev l x = some (.int k i)) (h0 : 0 ≤ i) (h1 : i ≤ 9223372036854775807) : YStep P n l H L ⟨d, .convert S D x, ty, pos, after, guard⟩ (.int .u64 i) := by
  have := ystep_convInt (P := P) (n := n) (H := H) (L := L) (S := S) (D := D) (ks := ks) (kd := .u64) (d := d) (ty := ty) (pos := pos) (after := after) (guard := guard) hx
  rw [wrapU_in h0 h1] at this
  exact this
theorem ystep_shr {n : Nat} {d : Option Nat} {x y : Operand} {t t' ty : Nat} {pos : String} {after : Array Edge} {guard : Option (Nat × Bool)} {i j m : Int} {k kj : IntKind} (hx : ev l x = some (.int k i)) (hy : ev l y = some (.int kj j)) [hs : ShK j m] (hk : Nat.beq k.bits 64 = true) :
    YStep P n l H L ⟨d, .binOp .shr t x y t', ty, pos, after, guard⟩ (.int k (i / m)) := by
  unfold YStep
  intro a ha W hW
  show (do pure (.value (← (do eqGuard .shr t x y (a.eval x) (a.eval y); Go.binOp .shr t (a.eval x) (a.eval y)))) : Sem Next).run P W = _
  rw [ha.eval hx, ha.eval hy, eqGuard_int]
  have hj : ¬ j < 0 := by have := hs.eq.2; omega
  have hb : k.bits = 64 := Nat.eq_of_beq_eq_true hk
  have hm : (2 : Int) ^ (min j.toNat k.bits) = m := by rw [hb]; exact hs.eq.1
  have hm0 : 0 ≤ m := by rw [← hm]; exact Int.pow_nonneg (by decide)
  refine runV ?_
  unfold Go.binOp
  simp [Op.shift, hj, hm, pure, Sem.run, Int.fdiv_eq_ediv_of_nonneg _ hm0]
theorem sc7 {d ty : Nat} {pos : String} {after : Array Edge} {ops : Array Oper} {rest : List Oper} {S D : Nat} {ks : IntKind} {x : Operand} {k : IntKind} {i : Int} [UndK P S (.int ks)] [UndK P D (.int .u64)] (hx : ev l x = some (.int k i)) (h0 : 0 ≤ i) (h1 : i ≤ 9223372036854775807) (hd : Nat.blt d F.n = true) (h : WPL P F Q ops rest ((d, .int .u64 i) :: l) H L) : WPL P F Q ops (⟨some d, .convert S D x, ty, pos, after, none⟩ :: rest) l H L := wpl_y (ystep_conv7 hx h0 h1).q hd h
theorem qc7 {d ty : Nat} {pos : String} {after : Array Edge} {ops : Array Oper} {rest : List Oper} {S D : Nat} {ks : IntKind} {x : Operand} {k : IntKind} {i : Int} [UndK P S (.int ks)] [UndK P D (.int .u64)] (hx : ev l x = some (.int k i)) (h0 : 0 ≤ i) (h1 : i ≤ 9223372036854775807) (hd : Nat.blt d F.n = true) (h : WPQ P F ops Q rest ((d, .int .u64 i) :: l) H L) : WPQ P F ops Q (⟨some d, .convert S D x, ty, pos, after, none⟩ :: rest) l H L := wpq_y (ystep_conv7 hx h0 h1).q hd h
theorem tc7 {d ty : Nat} {pos : String} {after : Array Edge} {ops : Array Oper} {rest : List Oper} {K : Fm → Prop} {S D : Nat} {ks : IntKind} {x : Operand} {k : IntKind} {i : Int} [UndK P S (.int ks)] [UndK P D (.int .u64)] (hx : ev l x = some (.int k i)) (h0 : 0 ≤ i) (h1 : i ≤ 9223372036854775807) (hd : Nat.blt d F.n = true) (h : WPT P F ops H L rest ((d, .int .u64 i) :: l) K) : WPT P F ops H L (⟨some d, .convert S D x, ty, pos, after, none⟩ :: rest) l K := wpt_y (ystep_conv7 hx h0 h1) hd h
theorem shr {d ty : Nat} {pos : String} {after : Array Edge} {ops : Array Oper} {rest : List Oper} {t t' : Nat} {x y : Operand} {i j m : Int} {k kj : IntKind} (hx : ev l x = some (.int k i)) (hy : ev l y = some (.int kj j)) [ShK j m] (hk : Nat.beq k.bits 64 = true) (hd : Nat.blt d F.n = true) (h : WPL P F Q ops rest ((d, .int k (i / m)) :: l) H L) : WPL P F Q ops (⟨some d, .binOp .shr t x y t', ty, pos, after, none⟩ :: rest) l H L := wpl_y (ystep_shr hx hy hk).q hd h
theorem qhr {d ty : Nat} {pos : String} {after : Array Edge} {ops : Array Oper} {rest : List Oper} {t t' : Nat} {x y : Operand} {i j m : Int} {k kj : IntKind} (hx : ev l x = some (.int k i)) (hy : ev l y = some (.int kj j)) [ShK j m] (hk : Nat.beq k.bits 64 = true) (hd : Nat.blt d F.n = true) (h : WPQ P F ops Q rest ((d, .int k (i / m)) :: l) H L) : WPQ P F ops Q (⟨some d, .binOp .shr t x y t', ty, pos, after, none⟩ :: rest) l H L := wpq_y (ystep_shr hx hy hk).q hd h
theorem thr {d ty : Nat} {pos : String} {after : Array Edge} {ops : Array Oper} {rest : List Oper} {K : Fm → Prop} {t t' : Nat} {x y : Operand} {i j m : Int} {k kj : IntKind} (hx : ev l x = some (.int k i)) (hy : ev l y = some (.int kj j)) [ShK j m] (hk : Nat.beq k.bits 64 = true) (hd : Nat.blt d F.n = true) (h : WPT P F ops H L rest ((d, .int k (i / m)) :: l) K) : WPT P F ops H L (⟨some d, .binOp .shr t x y t', ty, pos, after, none⟩ :: rest) l K := wpt_y (ystep_shr hx hy hk) hd h
end Go.Eng
set_option linter.unusedVariables false
set_option linter.unusedSimpArgs false
namespace Go.Eng
open Go
variable {P : Program} {F : Fx} {Q : Post} {l : Fm} {H : GH} {L : OL}
theorem run_nilEq {T e k bytes : Nat} {z : List Value} [h : SliceK P T e k bytes z] (A : Option Addr) (n c : Nat) (W : World) : (Go.binOp .eql T (.slice A n c) (.slice none 0 0)).run P W = .ok (.bool A.isNone) W := by
  unfold Go.binOp
  simp only [Op.equal, Op.maxDepth]
  unfold Op.equalIn
  cases A <;> simp [underlying, h.und]
theorem ystep_nilEq {T e k bytes : Nat} {z : List Value} [h : SliceK P T e k bytes z] {n : Nat} {d : Option Nat} {x : Operand} {t' ty : Nat} {pos : String} {after : Array Edge} {guard : Option (Nat × Bool)} {A : Option Addr} {m c : Nat} (hx : ev l x = some (.slice A m c)) :
    YStep P n l H L ⟨d, .binOp .eql T x (.const (.slice none 0 0)) t', ty, pos, after, guard⟩ (.bool A.isNone) := by
  unfold YStep
  intro a ha W hW
  show (do pure (.value (← (do eqGuard .eql T x (.const (.slice none 0 0)) (a.eval x) (.slice none 0 0); Go.binOp .eql T (a.eval x) (.slice none 0 0)))) : Sem Next).run P W = _
  rw [ha.eval hx]
  have : eqGuard .eql T x (.const (.slice none 0 0)) (.slice A m c) (.slice none 0 0) = pure () := by simp [eqGuard]
  rw [this]
  refine runV ?_
  simp only [pure_bind]
  exact run_nilEq A m c W
theorem snl {d ty : Nat} {pos : String} {after : Array Edge} {ops : Array Oper} {rest : List Oper} {T e k bytes t' : Nat} {z : List Value} [SliceK P T e k bytes z] {x : Operand} {A : Option Addr} {m c : Nat} (hx : ev l x = some (.slice A m c)) (hd : Nat.blt d F.n = true)
    (h : WPL P F Q ops rest ((d, .bool A.isNone) :: l) H L) : WPL P F Q ops (⟨some d, .binOp .eql T x (.const (.slice none 0 0)) t', ty, pos, after, none⟩ :: rest) l H L := wpl_y (ystep_nilEq hx).q hd h
theorem flat_len {k : Nat} : ∀ {yss : List (List Value)}, (∀ ys ∈ yss, ys.length = k) → yss.flatten.length = yss.length * k
  | [], _ => by simp
  | y :: r, h => by
    simp only [List.flatten_cons, List.length_append, List.length_cons]
    rw [flat_len (fun ys hys => h ys (List.mem_cons_of_mem _ hys)), h y (List.mem_cons_self ..), Nat.add_mul]; omega
/-- What stays is appended to what is owned. -/
theorem tstep_appendH {t e k bytes : Nat} {z : List Value} [hk : SliceK P t e k bytes z] {d : Option Nat} {s x : Operand} {ty : Nat} {pos : String} {after : Array Edge} {guard : Option (Nat × Bool)} {A : Option Addr} {n c g o q mc : Nat} {xss yss : List (List Value)} {L1 L2 : OL}
    (hs : ev l s = some (.slice A n c)) (hx : ev l x = some (.slice (some ⟨g, o, none⟩) q mc)) (hR : L = L1 ++ .row e k A c xss :: L2) (hB : yss = [] ∨ CellsAt H g o yss.flatten) (hn : n = xss.length) (hq : q = yss.length) (hl : ∀ ys ∈ yss, ys.length = k) (h1 : ∀ ys ∈ yss, oneC ys = true) (hz : z.length = k) (hk0 : 0 < k) (hb : (xss.length + yss.length) * bytes ≤ 140737488355328) (hb0 : 0 < bytes) :
    TStep P F l H L ⟨d, .call { callee := .builtin .append, args := #[s, x], argTypes := #[t, t] }, ty, pos, after, guard⟩ (fun r H' L' => H' = H ∧ ∃ A' c', r = .slice A' (xss.length + yss.length) c' ∧ L' = L1 ++ .row e k A' c' (xss ++ yss) :: L2) := by
  unfold TStep
  intro a W ha hW K Q hK
  show Oper.upon P _ a K Q ((do let d ← resolve a.eval { callee := .builtin .append, args := #[s, x], argTypes := #[t, t] } ty; Go.invoke d.target d.args : Sem Next).run P W)
  have hrow : Ent.ok W (.row e k A c xss) := hW.own _ (by rw [hR]; simp)
  have hlen : ∀ xs ∈ xss, xs.length = k := by
    cases A with
    | none => obtain ⟨rfl, _⟩ := hrow; simp
    | some a => exact hrow.1
  obtain ⟨inf, hinf, hi'⟩ := Option.map_eq_some_iff.1 hk.info
  simp only [Prod.mk.injEq] at hi'
  obtain ⟨hi1, hi2, hi3⟩ := hi'
  obtain ⟨zv, hzv, hz'⟩ := Option.map_eq_some_iff.1 hi3
  have hzs : zv.cells.size = k := by rw [← hz, ← hz']; simp
  have hlt : xss.length + yss.length ≤ 140737488355328 := Nat.le_trans (Nat.le_mul_of_pos_right _ hb0) hb
  have hyl : yss.flatten.length = yss.length * k := flat_len hl
  have h1' : ∀ u ∈ yss.flatten, u.oneCell' = true := fun u hu => by
    obtain ⟨ys, hys, hu⟩ := List.mem_flatten.1 hu
    exact oneC_spec (h1 ys hys) u hu
  obtain ⟨v', w', hrun, hown, hgr, _, hat⟩ := run_append_own_at (P := P) W 0 t ty e inf zv k bytes hk.und hinf hzv hi1 hi2 hzs hk0 (.slice A n c) xss.length xss.flatten (by rw [hn]; exact row_owns hrow) ⟨g, o, none⟩ q mc yss.flatten (by rw [hyl, hq])
    (fun j u hu => by
      rcases hB with rfl | ⟨cells, T', fz, hg, hc⟩
      · simp at hu
      · rw [addr_add, cell_of_cells (hW.imm g _ hg)]; exact hc j u hu) h1' (by rw [hq]; simp only [maxLen]; omega) (by rw [hq]; exact hb) (Nat.zero_le _)
  have hrun' : (do let d ← resolve a.eval { callee := .builtin .append, args := #[s, x], argTypes := #[t, t] } ty; Go.invoke d.target d.args : Sem Next).run P W = .ok (.value v') w' := by
    have e1 : (#[s, x] : Array Operand).map a.eval = #[.slice A n c, .slice (some ⟨g, o, none⟩) q mc] := by simp [ha.eval hs, ha.eval hx]
    simp only [resolve, Sem.run_bind, Sem.run_pure, Result.andThen_ok, Go.invoke, Go.builtin, e1, hrun]
  rw [hrun']
  have hfl : xss.flatten ++ yss.flatten = (xss ++ yss).flatten := by simp
  rw [hfl, hq, show xss.length + yss.length = (xss ++ yss).length by simp] at hown
  obtain ⟨A', c', rfl, hok⟩ := owns_row (fun xs hxs => by
    rcases List.mem_append.1 hxs with h | h
    · exact hlen xs h
    · exact hl xs h) hown
  refine hK _ H _ w' ⟨rfl, A', c', by simp, rfl⟩ ?_
  rw [hR] at hW
  refine hW.turn hgr.os hgr.tape hgr.output hgr.size (fun b hb hn => hgr.block b hb ?_) hok ?_
  · cases A with
    | none => simp [Value.ownBlock]
    | some a => simp [Value.ownBlock]; simpa [Ent.ids] using hn
  · cases A' with
    | none =>
      cases A with
      | none => exact .inl rfl
      | some a => simp [Value.ownBlock] at hat
    | some a' =>
      cases A with
      | none =>
        simp [Value.ownBlock] at hat
        exact .inr ⟨a'.block, rfl, by omega⟩
      | some a =>
        simp [Value.ownBlock] at hat
        rcases hat with h | h
        · exact .inl (by simp [Ent.ids, h])
        · exact .inr ⟨a'.block, rfl, by omega⟩
theorem sapg {ops : Array Oper} {rest : List Oper} {t e k bytes : Nat} {z : List Value} {d : Nat} {s x : Operand} {ty : Nat} {pos : String} {after : Array Edge} {A : Option Addr} {n c g o q mc : Nat} {xss : List (List Value)} {L1 L2 : OL} (yss : List (List Value))
    (hs : ev l s = some (.slice A n c)) (hx : ev l x = some (.slice (some ⟨g, o, none⟩) q mc)) [SliceK P t e k bytes z] [hR : HasR L A e k c xss L1 L2] (hB : yss = [] ∨ CellsAt H g o yss.flatten) (hn : n = xss.length) (hq : q = yss.length) (hl : ∀ ys ∈ yss, ys.length = k) (h1 : ∀ ys ∈ yss, oneC ys = true) (hz : Nat.beq z.length k = true) (hk0 : Nat.blt 0 k = true) (hb0 : Nat.blt 0 bytes = true) (hb : (xss.length + yss.length) * bytes ≤ 140737488355328) (hd : Nat.blt d F.n = true)
    (h : ∀ A' c', WPL P F Q ops rest ((d, .slice A' (xss.length + yss.length) c') :: l) H (L1 ++ .row e k A' c' (xss ++ yss) :: L2)) : WPL P F Q ops (⟨some d, .call { callee := .builtin .append, args := #[s, x], argTypes := #[t, t] }, ty, pos, after, none⟩ :: rest) l H L :=
  wpl_t (tstep_appendH hs hx hR.eq hB hn hq hl h1 (Nat.eq_of_beq_eq_true hz) (Nat.blt_eq ▸ hk0) hb (Nat.blt_eq ▸ hb0)) (wants_none rfl) hd (by rintro v H' L' ⟨rfl, A', c', rfl, rfl⟩; exact h A' c')
theorem wpe_addRow (T k : Nat) {x : Exit} (h : WPE F Q x l H (.row T k none 0 [] :: L)) : WPE F Q x l H L := by
  unfold WPE at *
  intro a W ha hW
  exact h a W ha (hW.addRow T k)
end Go.Eng
set_option linter.unusedVariables false
set_option linter.unusedSimpArgs false
namespace Go.Eng
open Go
/-- A value: kind, number, generation, text, elements, pairs. -/
inductive Tr where
  | mk (k n g : Int) (s : ByteArray) (l : List Tr) (d : List (ByteArray × Tr))
deriving Inhabited
mutual
/-- How a value lies, cell by cell. -/
def Tr.rep (H : GH) : Tr → List Value → Prop
  | .mk k n g s l d, cs => ∃ A c B e, cs = [.int .i64 k, .int .i64 n, .int .i64 g, .string s, .slice A l.length c, .slice B d.length e] ∧ (∃ xss : List (List Value), Tr.repL H l xss ∧ sliceAt H A xss) ∧ (∃ xss : List (List Value), Tr.repD H d xss ∧ sliceAt H B xss)
def Tr.repL (H : GH) : List Tr → List (List Value) → Prop
  | [], [] => True
  | t :: r, x :: y => Tr.rep H t x ∧ Tr.repL H r y
  | _, _ => False
def Tr.repD (H : GH) : List (ByteArray × Tr) → List (List Value) → Prop
  | [], [] => True
  | (key, t) :: r, x :: y => (∃ x', x = .string key :: x' ∧ Tr.rep H t x') ∧ Tr.repD H r y
  | _, _ => False
end
variable {H H' : GH}
mutual
theorem Tr.rep_mono (hl : HLe H H') : ∀ {t : Tr} {cs : List Value}, t.rep H cs → t.rep H' cs
  | .mk k n g s l d, cs, h => by
    rw [Tr.rep] at h ⊢
    obtain ⟨A, c, B, e, h0, ⟨xs, h1, h2⟩, ys, h3, h4⟩ := h
    exact ⟨A, c, B, e, h0, ⟨xs, Tr.repL_mono hl h1, h2.mono hl⟩, ys, Tr.repD_mono hl h3, h4.mono hl⟩
theorem Tr.repL_mono (hl : HLe H H') : ∀ {l : List Tr} {xss : List (List Value)}, Tr.repL H l xss → Tr.repL H' l xss
  | [], [], h => by rw [Tr.repL]; trivial
  | t :: r, x :: y, h => by rw [Tr.repL] at h ⊢; exact ⟨Tr.rep_mono hl h.1, Tr.repL_mono hl h.2⟩
  | [], _ :: _, h => by simp [Tr.repL] at h
  | _ :: _, [], h => by simp [Tr.repL] at h
theorem Tr.repD_mono (hl : HLe H H') : ∀ {l : List (ByteArray × Tr)} {xss : List (List Value)}, Tr.repD H l xss → Tr.repD H' l xss
  | [], [], h => by rw [Tr.repD]; trivial
  | (key, t) :: r, x :: y, h => by
    rw [Tr.repD] at h ⊢
    obtain ⟨⟨x', h1, h2⟩, h3⟩ := h
    exact ⟨⟨x', h1, Tr.rep_mono hl h2⟩, Tr.repD_mono hl h3⟩
  | [], _ :: _, h => by simp [Tr.repD] at h
  | _ :: _, [], h => by simp [Tr.repD] at h
end
theorem Tr.cells {t : Tr} {cs : List Value} (h : t.rep H cs) : ∃ k n g s A m c B m' c', cs = [.int .i64 k, .int .i64 n, .int .i64 g, .string s, .slice A m c, .slice B m' c'] := by
  cases t with
  | mk k n g s l d =>
    rw [Tr.rep] at h
    obtain ⟨A, c, B, e, h0, _⟩ := h
    exact ⟨k, n, g, s, A, _, c, B, _, e, h0⟩
theorem Tr.repL_len : ∀ {l : List Tr} {xss : List (List Value)}, Tr.repL H l xss → xss.length = l.length ∧ ∀ xs ∈ xss, xs.length = 6
  | [], [], h => ⟨rfl, fun _ hx => by cases hx⟩
  | .mk k n g s l d :: r, x :: y, h => by
    rw [Tr.repL] at h
    have ih := Tr.repL_len h.2
    have h1 := h.1
    rw [Tr.rep] at h1
    obtain ⟨A, c, B, e, h0, _⟩ := h1
    refine ⟨by simp [ih.1], fun xs hx => ?_⟩
    rcases List.mem_cons.1 hx with rfl | hx
    · rw [h0]; rfl
    · exact ih.2 xs hx
  | [], _ :: _, h => by simp [Tr.repL] at h
  | _ :: _, [], h => by simp [Tr.repL] at h
theorem Tr.repD_len : ∀ {l : List (ByteArray × Tr)} {xss : List (List Value)}, Tr.repD H l xss → xss.length = l.length ∧ ∀ xs ∈ xss, xs.length = 7
  | [], [], h => ⟨rfl, fun _ hx => by cases hx⟩
  | (key, .mk k n g s l d) :: r, x :: y, h => by
    rw [Tr.repD] at h
    have ih := Tr.repD_len h.2
    obtain ⟨x', hx', h1⟩ := h.1
    rw [Tr.rep] at h1
    obtain ⟨A, c, B, e, h0, _⟩ := h1
    refine ⟨by simp [ih.1], fun xs hx => ?_⟩
    rcases List.mem_cons.1 hx with rfl | hx
    · rw [hx', h0]; rfl
    · exact ih.2 xs hx
  | [], _ :: _, h => by simp [Tr.repD] at h
  | _ :: _, [], h => by simp [Tr.repD] at h
theorem Tr.repL_snoc : ∀ {l : List Tr} {xss : List (List Value)} {t : Tr} {cs : List Value}, Tr.repL H l xss → t.rep H cs → Tr.repL H (l ++ [t]) (xss ++ [cs])
  | [], [], t, cs, _, h => by simp only [List.nil_append, Tr.repL]; exact ⟨h, trivial⟩
  | u :: r, x :: y, t, cs, h, h' => by
    rw [Tr.repL] at h
    simp only [List.cons_append, Tr.repL]
    exact ⟨h.1, Tr.repL_snoc h.2 h'⟩
  | [], _ :: _, _, _, h, _ => by simp [Tr.repL] at h
  | _ :: _, [], _, _, h, _ => by simp [Tr.repL] at h
theorem Tr.repD_snoc : ∀ {l : List (ByteArray × Tr)} {xss : List (List Value)} {key : ByteArray} {t : Tr} {cs : List Value}, Tr.repD H l xss → t.rep H cs → Tr.repD H (l ++ [(key, t)]) (xss ++ [.string key :: cs])
  | [], [], key, t, cs, _, h => by simp only [List.nil_append, Tr.repD]; exact ⟨⟨cs, rfl, h⟩, trivial⟩
  | u :: r, x :: y, key, t, cs, h, h' => by
    obtain ⟨a, b⟩ := u
    rw [Tr.repD] at h
    simp only [List.cons_append, Tr.repD]
    exact ⟨h.1, Tr.repD_snoc h.2 h'⟩
  | [], _ :: _, _, _, _, h, _ => by simp [Tr.repD] at h
  | _ :: _, [], _, _, _, h, _ => by simp [Tr.repD] at h
theorem Tr.repL_get : ∀ {l : List Tr} {xss : List (List Value)} {i : Nat} {t : Tr}, Tr.repL H l xss → l[i]? = some t → ∃ cs, xss[i]? = some cs ∧ t.rep H cs
  | [], [], i, t, _, h => by simp at h
  | u :: r, x :: y, 0, t, h, h' => by
    rw [Tr.repL] at h
    simp only [List.getElem?_cons_zero, Option.some.injEq] at h'
    subst h'
    exact ⟨x, rfl, h.1⟩
  | u :: r, x :: y, i + 1, t, h, h' => by
    rw [Tr.repL] at h
    simp only [List.getElem?_cons_succ] at h' ⊢
    exact Tr.repL_get h.2 h'
  | [], _ :: _, _, _, h, _ => by simp [Tr.repL] at h
  | _ :: _, [], _, _, h, _ => by simp [Tr.repL] at h
theorem Tr.repD_get : ∀ {l : List (ByteArray × Tr)} {xss : List (List Value)} {i : Nat} {key : ByteArray} {t : Tr}, Tr.repD H l xss → l[i]? = some (key, t) → ∃ cs, xss[i]? = some (.string key :: cs) ∧ t.rep H cs
  | [], [], i, key, t, _, h => by simp at h
  | (a, b) :: r, x :: y, 0, key, t, h, h' => by
    rw [Tr.repD] at h
    simp only [List.getElem?_cons_zero, Option.some.injEq, Prod.mk.injEq] at h'
    obtain ⟨rfl, rfl⟩ := h'
    obtain ⟨x', rfl, h1⟩ := h.1
    exact ⟨x', rfl, h1⟩
  | (a, b) :: r, x :: y, i + 1, key, t, h, h' => by
    rw [Tr.repD] at h
    simp only [List.getElem?_cons_succ] at h' ⊢
    exact Tr.repD_get h.2 h'
  | [], _ :: _, _, _, _, h, _ => by simp [Tr.repD] at h
  | _ :: _, [], _, _, _, h, _ => by simp [Tr.repD] at h
/-- A value that holds no others. -/
theorem Tr.rep_leaf (k n g : Int) (s : ByteArray) : (Tr.mk k n g s [] []).rep H [.int .i64 k, .int .i64 n, .int .i64 g, .string s, .slice none 0 0, .slice none 0 0] := by
  rw [Tr.rep]
  exact ⟨none, 0, none, 0, rfl, ⟨[], by rw [Tr.repL]; trivial, .inl ⟨rfl, rfl⟩⟩, [], by rw [Tr.repD]; trivial, .inl ⟨rfl, rfl⟩⟩
theorem Tr.rep_list {k n g : Int} {s : ByteArray} {l : List Tr} {xss : List (List Value)} {A : Option Addr} {c : Nat} (h : Tr.repL H l xss) (hA : sliceAt H A xss) :
    (Tr.mk k n g s l []).rep H [.int .i64 k, .int .i64 n, .int .i64 g, .string s, .slice A xss.length c, .slice none 0 0] := by
  rw [Tr.rep]
  exact ⟨A, c, none, 0, by rw [(Tr.repL_len h).1]; rfl, ⟨xss, h, hA⟩, [], by rw [Tr.repD]; trivial, .inl ⟨rfl, rfl⟩⟩
theorem Tr.rep_dict {k n g : Int} {s : ByteArray} {d : List (ByteArray × Tr)} {xss : List (List Value)} {A : Option Addr} {c : Nat} (h : Tr.repD H d xss) (hA : sliceAt H A xss) :
    (Tr.mk k n g s [] d).rep H [.int .i64 k, .int .i64 n, .int .i64 g, .string s, .slice none 0 0, .slice A xss.length c] := by
  rw [Tr.rep]
  exact ⟨none, 0, A, c, by rw [(Tr.repD_len h).1]; rfl, ⟨[], by rw [Tr.repL]; trivial, .inl ⟨rfl, rfl⟩⟩, xss, h, hA⟩
mutual
/-- How many values a value is. -/
def Tr.sz : Tr → Nat
  | .mk _ _ _ _ l d => 1 + Tr.szL l + Tr.szD d
def Tr.szL : List Tr → Nat
  | [] => 0
  | t :: r => t.sz + Tr.szL r
def Tr.szD : List (ByteArray × Tr) → Nat
  | [] => 0
  | (_, t) :: r => t.sz + Tr.szD r
end
theorem Tr.szL_get : ∀ {l : List Tr} {i : Nat} {t : Tr}, l[i]? = some t → t.sz ≤ Tr.szL l
  | [], i, t, h => by simp at h
  | u :: r, 0, t, h => by simp at h; subst h; rw [Tr.szL]; omega
  | u :: r, i + 1, t, h => by
    simp only [List.getElem?_cons_succ] at h
    have := Tr.szL_get h
    rw [Tr.szL]; omega
theorem Tr.szD_get : ∀ {l : List (ByteArray × Tr)} {i : Nat} {k : ByteArray} {t : Tr}, l[i]? = some (k, t) → t.sz ≤ Tr.szD l
  | [], i, k, t, h => by simp at h
  | (a, b) :: r, 0, k, t, h => by simp at h; obtain ⟨rfl, rfl⟩ := h; rw [Tr.szD]; omega
  | (a, b) :: r, i + 1, k, t, h => by
    simp only [List.getElem?_cons_succ] at h
    have := Tr.szD_get h
    rw [Tr.szD]; omega
end Go.Eng
