/- A part of the proof that the law TopThree returns true for all arguments of bulk at most 1048576 (no other condition). Here: What lies at some blocks of a world, and what a call leaves of the others: loads, stores, new boxes. -/
import Derived.Test.YtcbahkfbdlhabaaGreatDoorK01
import Derived.LoopN
import Derived.Deep.MidRow
namespace Go.Proofs.YtcbahkfbdlhabaaGreatDoor
set_option linter.unusedVariables false
set_option linter.unusedSimpArgs false
open Go.RowKit

/-- A block, what it holds, and whether the call itself has laid it. -/
structure En where
  b : Nat
  o : Obj
  own : Bool
def Lies (W : World) : List En → Prop
  | [] => True
  | e :: r => W.heap[e.b]? = some e.o ∧ Lies W r
theorem Lies.mem {W : World} : ∀ {l : List En}, Lies W l → ∀ e ∈ l, W.heap[e.b]? = some e.o
  | [], _, e, he => by simp at he
  | x :: r, h, e, he => by
    rcases List.mem_cons.1 he with rfl | he
    · exact h.1
    · exact Lies.mem h.2 e he
theorem Lies.of {W : World} : ∀ {l : List En}, (∀ e ∈ l, W.heap[e.b]? = some e.o) → Lies W l
  | [], _ => trivial
  | x :: r, h => ⟨h x (by simp), Lies.of (fun e he => h e (by simp [he]))⟩
/-- The world W, of w0: the blocks of l hold what l says; below the end of w0 no other block has turned. -/
structure Hp (w0 W : World) (l : List En) : Prop where
  lies : Lies W l
  nodup : (l.map En.b).Nodup
  own : ∀ e ∈ l, e.own = true → w0.heap.size ≤ e.b
  os : W.os = w0.os
  tape : W.tape = w0.tape
  output : W.output = w0.output
  size : w0.heap.size ≤ W.heap.size
  rest : ∀ k, k < w0.heap.size → (∀ e ∈ l, e.b ≠ k) → W.heap[k]? = w0.heap[k]?
theorem Hp.nil (w : World) : Hp w w [] := ⟨trivial, by simp, by simp, rfl, rfl, rfl, Nat.le_refl _, fun _ _ _ => rfl⟩
/-- Its list of entries. -/
abbrev Hp.lst {w0 W : World} {l : List En} (_ : Hp w0 W l) : List En := l
theorem Hp.start {w : World} {l : List En} (h : Lies w l) (hn : (l.map En.b).Nodup) (ho : l.all (fun e => !e.own) = true) : Hp w w l :=
  ⟨h, hn, fun e he ht => by have := List.all_eq_true.1 ho e he; simp [ht] at this, rfl, rfl, rfl, Nat.le_refl _, fun _ _ _ => rfl⟩
theorem Hp.lt {w0 W : World} {l : List En} (h : Hp w0 W l) (e : En) (he : e ∈ l) : e.b < W.heap.size :=
  (Array.getElem?_eq_some_iff.1 (h.lies.mem e he)).1
theorem Hp.get {w0 W : World} {l : List En} (h : Hp w0 W l) (i : Nat) {e : En} (hi : l[i]? = some e) : W.heap[e.b]? = some e.o :=
  h.lies.mem e (List.mem_of_getElem? hi)
theorem Hp.alloc {w0 W : World} {l : List En} (h : Hp w0 W l) (o : Obj) : Hp w0 (W.alloc o) (⟨W.heap.size, o, true⟩ :: l) := by
  refine ⟨⟨heap_alloc_new _ _, Lies.of fun e he => by rw [(Below.heap_alloc W o e.b (h.lt e he))]; exact h.lies.mem e he⟩, ?_, ?_, h.os, h.tape, h.output, by simp; have := h.size; omega, ?_⟩
  · rw [List.map_cons, List.nodup_cons]
    refine ⟨fun hm => ?_, h.nodup⟩
    obtain ⟨e, he, hb⟩ := List.mem_map.1 hm
    have := h.lt e he
    simp only at hb
    omega
  · intro e he ht
    rcases List.mem_cons.1 he with rfl | he
    · exact h.size
    · exact h.own e he ht
  · intro k hk hn
    rw [(Below.heap_alloc W o k (Nat.lt_of_lt_of_le hk h.size))]
    exact h.rest k hk (fun e he => hn e (by simp [he]))
theorem Lies.drew {W : World} {l : List En} (h : Lies W l) : Lies W.drew l := Lies.of fun e he => h.mem e he
theorem Hp.drew {w0 W : World} {l : List En} (h : Hp w0 W l) : Hp w0 W.drew l := ⟨h.lies.drew, h.nodup, h.own, h.os, h.tape, h.output, h.size, h.rest⟩
theorem Hp.next {w0 W V : World} {l : List En} (h : Hp w0 W l) (hb : Below W.heap.size W V) : Hp w0 V l :=
  ⟨Lies.of fun e he => by rw [hb.block _ (h.lt e he)]; exact h.lies.mem e he, h.nodup, h.own, hb.os.trans h.os, hb.tape.trans h.tape, hb.output.trans h.output, Nat.le_trans h.size hb.size,
   fun k hk hn => (hb.block k (Nat.lt_of_lt_of_le hk h.size)).trans (h.rest k hk hn)⟩
theorem Hp.stay {w0 : World} {l : List En} : ∀ V V', Hp w0 V l → Below V.heap.size V V' → Hp w0 V' l := fun _ _ h hb => h.next hb
theorem Hp.below {w0 W : World} {l : List En} (h : Hp w0 W l) (ho : l.all (·.own) = true) : Below w0.heap.size w0 W :=
  ⟨h.os, h.tape, h.output, h.size, fun k hk => h.rest k hk fun e he hb => by
    have := h.own e he (List.all_eq_true.1 ho e he)
    omega⟩
theorem Hp.below_at {w0 W : World} {l : List En} (h : Hp w0 W l) (ho : ∀ e ∈ l, e.own = true ∨ w0.heap[e.b]? = some e.o) : Below w0.heap.size w0 W :=
  ⟨h.os, h.tape, h.output, h.size, fun k hk => by
    by_cases hn : ∀ e ∈ l, e.b ≠ k
    · exact h.rest k hk hn
    · obtain ⟨e, he, hb⟩ : ∃ e ∈ l, e.b = k := by
        refine Classical.byContradiction fun hc => hn fun e he hb => hc ⟨e, he, hb⟩
      rcases ho e he with ho | ho
      · have := h.own e he ho
        omega
      · rw [← hb, h.lies.mem e he, ho]⟩
/-- What is below the end and not among the entries. -/
theorem Hp.drop {w0 W : World} {e : En} {l : List En} (h : Hp w0 W (e :: l)) (he : e.own = true) : Hp w0 W l :=
  ⟨h.lies.2, (List.nodup_cons.1 (by simpa using h.nodup)).2, fun x hx => h.own x (by simp [hx]), h.os, h.tape, h.output, h.size, fun k hk hn => h.rest k hk fun x hx hb => by
    rcases List.mem_cons.1 hx with rfl | hx
    · have := h.own x (by simp) he
      omega
    · exact hn x hx hb⟩
/-- Block b of W holds o in W', and nothing else has turned. -/
structure Turns (W : World) (b : Nat) (o : Obj) (W' : World) : Prop where
  row : W'.heap[b]? = some o
  size : W'.heap.size = W.heap.size
  rest : ∀ k, k ≠ b → W'.heap[k]? = W.heap[k]?
  tape : W'.tape = W.tape
  os : W'.os = W.os
  output : W'.output = W.output
theorem Turns.trans {W V U : World} {b : Nat} {c d : Obj} (h : Turns W b c V) (h2 : Turns V b d U) : Turns W b d U :=
  ⟨h2.row, h2.size.trans h.size, fun k hk => (h2.rest k hk).trans (h.rest k hk), h2.tape.trans h.tape, h2.os.trans h.os, h2.output.trans h.output⟩
theorem Turns.same {W : World} {b : Nat} {o : Obj} (h : W.heap[b]? = some o) : Turns W b o W := ⟨h, rfl, fun _ _ => rfl, rfl, rfl, rfl⟩
theorem Turns.cell {W : World} {b : Nat} {t : TypeId} {old : Array Value} (o : Nat) (v : Value) (h : W.heap[b]? = some (.cells old t (0, 0))) : Turns W b (.cells (old.setIfInBounds o v) t (0, 0)) (W.setCell ⟨b, o, none⟩ v) :=
  ⟨heap_setCell_same _ _ _ _ _ _ h, by simp [World.setCell], fun k hk => heap_setCell_other _ _ _ _ hk, rfl, rfl, rfl⟩
/-- vs over the cells from o on. -/
def putl : List Value → Nat → List Value → List Value
  | l, 0, [] => l
  | l, 0, v :: r => match l with | [] => [] | _ :: l => v :: putl l 0 r
  | [], _ + 1, _ => []
  | x :: l, o + 1, vs => x :: putl l o vs
theorem putl_nil : ∀ (l : List Value) (o : Nat), putl l o [] = l
  | l, 0 => by cases l <;> rfl
  | [], _ + 1 => rfl
  | x :: l, o + 1 => by rw [putl, putl_nil l o]
theorem putl_cons (v : Value) (r : List Value) : ∀ (l : List Value) (o : Nat), putl l o (v :: r) = putl (l.set o v) (o + 1) r
  | [], 0 => by rw [List.set_nil]; rfl
  | x :: l, 0 => by rw [zB]; rfl
  | [], o + 1 => by rw [List.set_nil]; rfl
  | x :: l, o + 1 => by rw [zC]; show x :: _ = x :: _; rw [putl_cons v r l o]
theorem Turns.setCells {b : Nat} {t : TypeId} : ∀ (vs : List Value) (o : Nat) {W : World} {old : List Value}, W.heap[b]? = some (.cells old.toArray t (0, 0)) → Turns W b (.cells (putl old o vs).toArray t (0, 0)) (W.setCells b o vs)
  | [], o, _, old, h => by rw [putl_nil]; exact Turns.same h
  | v :: r, o, W, old, h => by
    have h1 := Turns.cell (o := o) v h
    rw [zA] at h1
    rw [putl_cons]
    exact h1.trans (Turns.setCells r (o + 1) h1.row)
theorem map_set_b {e : En} {o : Obj} {w : Bool} : ∀ {l : List En} {i : Nat}, l[i]? = some e → (l.set i ⟨e.b, o, w⟩).map En.b = l.map En.b
  | [], i, h => by simp at h
  | x :: l, 0, h => by simp at h; subst h; simp
  | x :: l, i + 1, h => by
    rw [zC, List.map_cons, List.map_cons, map_set_b (l := l) (by simpa using h)]
theorem mem_set {e : En} : ∀ {l : List En} {i : Nat} {x : En}, x ∈ l.set i e → x = e ∨ (∃ j, j ≠ i ∧ l[j]? = some x)
  | [], i, x, h => by simp at h
  | y :: l, 0, x, h => by
    simp at h
    rcases h with rfl | h
    · exact .inl rfl
    · obtain ⟨j, hj⟩ := List.getElem?_of_mem h
      exact .inr ⟨j + 1, by omega, by simpa using hj⟩
  | y :: l, i + 1, x, h => by
    simp at h
    rcases h with rfl | h
    · exact .inr ⟨0, by omega, by simp⟩
    · rcases mem_set h with rfl | ⟨j, hj, hx⟩
      · exact .inl rfl
      · exact .inr ⟨j + 1, by omega, by simpa using hx⟩
theorem Hp.turn {w0 W W' : World} {l : List En} (h : Hp w0 W l) (i : Nat) {e : En} {o : Obj} (hi : l[i]? = some e) (ht : Turns W e.b o W') : Hp w0 W' (l.set i ⟨e.b, o, e.own⟩) := by
  have hlt : i < l.length := (List.getElem?_eq_some_iff.1 hi).1
  have hself : (⟨e.b, o, e.own⟩ : En) ∈ l.set i ⟨e.b, o, e.own⟩ := List.mem_of_getElem? (i := i) (by simp [hlt])
  have hin : e ∈ l := List.mem_of_getElem? hi
  refine ⟨Lies.of fun x hx => ?_, by rw [map_set_b hi]; exact h.nodup, fun x hx hw => ?_, ht.os.trans h.os, ht.tape.trans h.tape, ht.output.trans h.output, by rw [ht.size]; exact h.size, fun k hk hn => ?_⟩
  · rcases mem_set hx with rfl | ⟨j, hj, hx⟩
    · exact ht.row
    · rw [ht.rest _ fun hb => ?_]
      · exact h.lies.mem x (List.mem_of_getElem? hx)
      · have hl : j < (l.map En.b).length := by simpa using (List.getElem?_eq_some_iff.1 hx).1
        have h1 : (l.map En.b)[j]? = (l.map En.b)[i]? := by simp [hx, hi, hb]
        exact hj ((List.getElem?_inj hl h.nodup).1 h1)
  · rcases mem_set hx with rfl | ⟨j, hj, hx⟩
    · exact h.own e hin hw
    · exact h.own x (List.mem_of_getElem? hx) hw
  · rw [ht.rest k (fun hb => hn _ hself hb.symm)]
    refine h.rest k hk fun x hx hb => ?_
    obtain ⟨j, hj⟩ := List.getElem?_of_mem hx
    by_cases hji : j = i
    · subst hji
      rw [hj] at hi
      cases hi
      exact hn _ hself hb
    · exact hn x (List.mem_of_getElem? (i := j) (by rw [List.getElem?_set_ne (Ne.symm hji)]; exact hj)) hb

/-- A type's shape: is it a row, and of how many cells. -/
class Shp (T : TypeId) (agg : outParam Bool) (n : outParam Nat) : Prop where
  agg : ∀ w, (isAgg T).run Tryz.prog w = .ok agg w
  size : (Tryz.prog.info? T).map (·.size) = some n
/-- A type's zero value. -/
class Zro (T : TypeId) (v : outParam Value) : Prop where
  z : ∀ w, (zeroValue T).run Tryz.prog w = .ok v w
/-- n cells from o on, as a value. -/
def rdv (agg : Bool) (n : Nat) (l : List Value) (o : Nat) : Option Value :=
  if agg then (if o + n ≤ l.length then some (.agg ((l.drop o).take n).toArray) else none) else l[o]?
theorem Shp.sizeOf {T n : Nat} {agg : Bool} (hs : Shp T agg n) (w : World) : (Go.sizeOf T).run Tryz.prog w = .ok n w := by
  cases hq : Tryz.prog.info? T with
  | none => have := hs.size; simp [hq] at this
  | some i =>
    have h2 : i.size = n := by have := hs.size; simpa [hq] using this
    simp [Go.sizeOf, typeInfo, hq, h2]
theorem run_load_en {T n : Nat} {agg : Bool} (hs : Shp T agg n) {W : World} {b o : Nat} {l : List Value} {t : TypeId} {v : Value} (h : W.heap[b]? = some (.cells l.toArray t (0, 0))) (hv : rdv agg n l o = some v) :
    (Instr.loadAt T (.pointer (some ⟨b, o, none⟩))).run Tryz.prog W = .ok v W := by
  have hz := hs.sizeOf W
  have ha := hs.agg W
  simp only [Instr.loadAt, Instr.sureAddr, Sem.run_bind, Sem.run_pure, Result.andThen_ok]
  cases agg with
  | true =>
    simp only [rdv, if_true] at hv
    split at hv
    · rename_i hle
      cases hv
      have hl : (loadCells ⟨b, o, none⟩ ((l.drop o).take n).length).run Tryz.prog W = .ok ((l.drop o).take n).toArray W :=
        run_loadCells_list (P := Tryz.prog) W ⟨b, o, none⟩ _ (fun j v hj => by
          rw [Addr.add_mid, cell_of_row W b _ _ _ _ h]
          have hjn : j < n := by have := (List.getElem?_eq_some_iff.1 hj).1; simp at this; omega
          rw [List.getElem?_take, if_pos hjn, List.getElem?_drop] at hj
          simpa using hj)
      rw [List.length_take, List.length_drop, Nat.min_eq_left (by omega)] at hl
      simp [loadVar, Sem.run_bind, ha, hz, hl]
    · cases hv
  | false =>
    simp only [rdv, Bool.false_eq_true, if_false] at hv
    have hc : W.cell? ⟨b, o, none⟩ = some v := by rw [cell_of_row W b _ _ _ _ h]; simpa using hv
    simp [loadVar, Sem.run_bind, ha, hc]
theorem run_loadVar_en {T n : Nat} {agg : Bool} (hs : Shp T agg n) {W : World} {b o : Nat} {l : List Value} {t : TypeId} {v : Value} (h : W.heap[b]? = some (.cells l.toArray t (0, 0))) (hv : rdv agg n l o = some v) :
    (loadVar T ⟨b, o, none⟩).run Tryz.prog W = .ok v W := by
  have := run_load_en hs h hv
  simpa only [Instr.loadAt, Instr.sureAddr, Sem.run_bind, Sem.run_pure, Result.andThen_ok] using this
/-- The result lies in a box. -/
theorem results_c {fn : Func} {p T n b : Nat} {tmps : Array Value} {w0 W : World} {l : List En} {c : List Value} {t : TypeId} {own agg : Bool} {v : Value} (hr : fn.results = #[.cell p T]) (HH : Hp w0 W l) (i : Nat) (hp : tmps.getD p undef = .pointer (some ⟨b, 0, none⟩)) (he : l[i]? = some ⟨b, .cells c.toArray t (0, 0), own⟩)
    [hs : Shp T agg n] (hv : rdv agg n c 0 = some v) : (results fn tmps).run Tryz.prog W = .ok v W := by
  have h1 := run_loadVar_en hs (HH.get i he) hv
  have hp' : tmps[p]?.getD undef = .pointer (some ⟨b, 0, none⟩) := by simpa using hp
  simp [results, hr, hp', asAddr, h1]
theorem results_ct {fn : Func} {p T n b q : Nat} {tmps : Array Value} {w0 W : World} {l : List En} {c : List Value} {t : TypeId} {own agg : Bool} {v : Value} (hr : fn.results = #[.cell p T, .tmp q]) (HH : Hp w0 W l) (i : Nat) (hp : tmps.getD p undef = .pointer (some ⟨b, 0, none⟩)) (he : l[i]? = some ⟨b, .cells c.toArray t (0, 0), own⟩)
    [hs : Shp T agg n] (hv : rdv agg n c 0 = some v) : (results fn tmps).run Tryz.prog W = .ok (.tuple #[v, tmps.getD q undef]) W := by
  have h1 := run_loadVar_en hs (HH.get i he) hv
  have hp' : tmps[p]?.getD undef = .pointer (some ⟨b, 0, none⟩) := by simpa using hp
  simp [results, hr, hp', asAddr, h1]
/-- The cells of a value, each one cell. -/
def onesOk (v : Value) : Bool := v.cells.toList.all (·.oneCell')
theorem run_store_en {T n : Nat} {agg : Bool} (hs : Shp T agg n) {W : World} {b o : Nat} {l : List Value} {t : TypeId} {v : Value} (h : W.heap[b]? = some (.cells l.toArray t (0, 0)))
    (hn : v.cells.size = n) (h1 : onesOk v = true) (hle : o + n ≤ l.length) :
    (Instr.storeAt T (.pointer (some ⟨b, o, none⟩)) v).run Tryz.prog W = .ok () (W.setCells b o v.cells.toList) := by
  have hz := hs.sizeOf W
  have hthere : ∀ j, j < v.cells.toList.length → (W.cell? ⟨b, o + 0 + j, none⟩).isSome = true := fun j hj => by
    rw [cell_of_row W b _ _ _ _ h]
    have : o + j < l.length := by simp at hj; omega
    simp [this]
  have := run_storeCells_cells (P := Tryz.prog) b o v.cells.toList 0 W hthere (fun j hj => frozen_of_row _ _ _ _ _ h)
    (fun x hx => List.all_eq_true.1 h1 x hx)
  simp only [Nat.add_zero] at this
  simp [Instr.storeAt, Instr.sureAddr, storeVar, hz, hn, this]

section walk
variable {ops : Array Oper} {rest : List Oper} {o : Oper} {a : Act} {Q : Exit → Act → World → Prop} {w0 W : World} {l : List En} {T : TypeId} {x y : Operand} {agg own : Bool} {n : Nat} {b off : Nat} {c : List Value} {t : TypeId} {v : Value}
theorem wpList_on (hw : Region.wanted o (yielded ops a.tmps) = true) (h : ∀ K : Act → World → Prop, (∀ a w, wpList Tryz.prog ops Q rest a w → K a w) → o.wp Tryz.prog a W K Q) : wpList Tryz.prog ops Q (o :: rest) a W :=
  BigFrame.wpList_want hw h
/-- A load. -/
theorem wpl_load (HH : Hp w0 W l) (i : Nat) (hop : o.op = .load T x) (hx : a.eval x = .pointer (some ⟨b, off, none⟩)) (he : l[i]? = some ⟨b, .cells c.toArray t (0, 0), own⟩) (hw : Region.wanted o (yielded ops a.tmps) = true)
    [hs : Shp T agg n] (hv : rdv agg n c off = some v) (h : wpList Tryz.prog ops Q rest (a.put o.dst v) W) : wpList Tryz.prog ops Q (o :: rest) a W :=
  wpList_on hw fun K hK => by
    unfold Oper.wp execOp
    simp only [hop, hx, Sem.run_bind, Sem.run_pure, Result.andThen_ok, run_load_en hs (HH.get i he) hv]
    exact hK _ _ h
/-- A store. -/
theorem wpl_store (HH : Hp w0 W l) (i : Nat) (hop : o.op = .store T x y) (hx : a.eval x = .pointer (some ⟨b, off, none⟩)) (he : l[i]? = some ⟨b, .cells c.toArray t (0, 0), own⟩) (hw : Region.wanted o (yielded ops a.tmps) = true)
    (hy : a.eval y = v) [hs : Shp T agg n] (hn : v.cells.size = n) (h1 : onesOk v = true) (hle : Nat.ble (off + n) c.length = true)
    (h : ∀ V, Hp w0 V (l.set i ⟨b, .cells (putl c off v.cells.toList).toArray t (0, 0), own⟩) → wpList Tryz.prog ops Q rest (a.put o.dst undef) V) : wpList Tryz.prog ops Q (o :: rest) a W :=
  wpList_on hw fun K hK => by
    unfold Oper.wp execOp
    simp only [hop, hx, hy, Sem.run_bind, Sem.run_pure, Result.andThen_ok, run_store_en hs (HH.get i he) hn h1 (Nat.le_of_ble_eq_true hle)]
    exact hK _ _ (h _ (HH.turn i he (Turns.setCells _ _ (HH.get i he))))
/-- A parameter's box. -/
theorem wpl_box (HH : Hp w0 W l) (hop : o.op = .box T x) (hx : a.eval x = v) (hw : Region.wanted o (yielded ops a.tmps) = true)
    (h : ∀ b V, Hp w0 V (⟨b, .cells v.cells T (0, 0), true⟩ :: l) → wpList Tryz.prog ops Q rest (a.put o.dst (.pointer (some ⟨b, 0, none⟩))) V) : wpList Tryz.prog ops Q (o :: rest) a W :=
  wpList_on hw fun K hK => by
    unfold Oper.wp execOp
    simp only [hop, hx, Instr.box, newVar, newRow, Sem.run_bind, Sem.run_pure, Result.andThen_ok]
    simp
    exact hK _ _ (h _ _ (HH.alloc _))
theorem wpl_alloc (HH : Hp w0 W l) (hop : o.op = .alloc T) (hw : Region.wanted o (yielded ops a.tmps) = true) [hz : Zro T v]
    (h : ∀ b V, Hp w0 V (⟨b, .cells v.cells T (0, 0), true⟩ :: l) → wpList Tryz.prog ops Q rest (a.put o.dst (.pointer (some ⟨b, 0, none⟩))) V) : wpList Tryz.prog ops Q (o :: rest) a W :=
  wpList_on hw fun K hK => by
    unfold Oper.wp execOp
    simp only [hop, Instr.alloc, newVar, newRow, Sem.run_bind, Sem.run_pure, Result.andThen_ok, hz.z]
    simp
    exact hK _ _ (h _ _ (HH.alloc _))
/-- A test: part on it. -/
def cmpOp : BinOp → Bool
  | .lss | .leq | .gtr | .geq | .eql | .neq => true
  | _ => false
theorem wpl_cmp {k : BinOp} {Ty : TypeId} {p : Bool} (hop : o.op = .binOp k T x y Ty) (hk : cmpOp k = true) (hw : Region.wanted o (yielded ops a.tmps) = true) (h : (execOp a.eval o).run Tryz.prog W = .ok (.value (.bool p)) W)
    (ht : p = true → wpList Tryz.prog ops Q rest (a.put o.dst (.bool true)) W) (hf : p = false → wpList Tryz.prog ops Q rest (a.put o.dst (.bool false)) W) : wpList Tryz.prog ops Q (o :: rest) a W :=
  wpList_on hw fun K hK => by
    unfold Oper.wp
    rw [h]
    cases p
    · exact hK _ _ (hf rfl)
    · exact hK _ _ (ht rfl)
end walk
theorem index24_0 (a b c d e f : Value) (w : World) : (Instr.index 24 (.agg #[a, b, c, d, e, f]) (.int .i64 0)).run Tryz.prog w = .ok (.agg #[a, b, c]) w := by kernel_rfl
theorem index24_1 (a b c d e f : Value) (w : World) : (Instr.index 24 (.agg #[a, b, c, d, e, f]) (.int .i64 1)).run Tryz.prog w = .ok (.agg #[d, e, f]) w := by kernel_rfl
theorem field34_0 (a b c d e f g h i j k l : Value) (w : World) : (Instr.field 34 (.agg #[a, b, c, d, e, f, g, h, i, j, k, l]) 0).run Tryz.prog w = .ok (.agg #[a, b]) w := by kernel_rfl
theorem field34_1 (a b c d e f g h i j k l : Value) (w : World) : (Instr.field 34 (.agg #[a, b, c, d, e, f, g, h, i, j, k, l]) 1).run Tryz.prog w = .ok (.agg #[c, d, e, f, g, h, i, j, k, l]) w := by kernel_rfl
section quiet
variable {ops : Array Oper} {rest : List Oper} {o : Oper} {a : Act} {w0 W : World} {l : List En} {T : TypeId} {x y : Operand} {agg own : Bool} {n : Nat} {b off : Nat} {c : List Value} {t : TypeId} {v : Value} {K : Act → Prop}
/-- A drawn region that only reads and calls, beside what lies. -/
theorem wp_region_Hp {id : Nat} {Q : Exit → Act → World → Prop} (hB : Region.lexB .any ops = true) (HH : Hp w0 W l)
    (h : wpQuiet Tryz.prog ops (fun V => Hp w0 V l) (fun a' => ∀ V, Hp w0 V l → Q .normal a' V) ops.toList a) : (Code.region id ops true).wp Tryz.prog Q a W :=
  wp_region_quiet (C := fun V => Hp w0 V l) (by kernel_rfl) hB HH.drew h
theorem quiet_load (i : Nat) (hop : o.op = .load T x) (hx : a.eval x = .pointer (some ⟨b, off, none⟩)) (he : l[i]? = some ⟨b, .cells c.toArray t (0, 0), own⟩) [hs : Shp T agg n] (hv : rdv agg n c off = some v)
    (h : K (a.put o.dst v)) : o.quiet Tryz.prog a (fun V => Hp w0 V l) K :=
  ⟨v, fun w hw => by
    unfold Oper.quietAt execOp
    simp only [hop, hx, Sem.run_bind, Sem.run_pure, Result.andThen_ok, run_load_en hs (hw.get i he) hv]
    exact ⟨rfl, rfl⟩, h⟩
/-- An operation that yields a Bool: part on it. -/
theorem quiet_split {C : World → Prop} {b : Bool} (h : ∀ w, C w → (execOp a.eval o).run Tryz.prog w = .ok (.value (.bool b)) w) (ht : b = true → K (a.put o.dst (.bool true))) (hf : b = false → K (a.put o.dst (.bool false))) : o.quiet Tryz.prog a C K := by
  cases b
  · exact qv h (hf rfl)
  · exact qv h (ht rfl)
end quiet
/-! A drawn region: first the operations of p, which only read and call, in whatever order, a new block (al) among them; then those of q, one after the other. -/
section path
variable {P : Program} {ops : Array Oper} {C : World → Prop} {D : Nat → World → Prop} {M : Array Bool}
/-- What an operation yields that only reads or calls. -/
def quietUponB (P : Program) (V : World) (v : Value) : Result Next → Prop
  | .ok (.value u) V' => V' = V ∧ u = v
  | .ok .skip V' => V' = V ∧ v = undef
  | .ok (.enter f args) V' => V' = V ∧ Calls P f args V (fun e V'' => e = .returned v ∧ Below V.heap.size V V'')
  | _ => False
/-- One operation that only reads or calls. -/
def qB (P : Program) (ops : Array Oper) (C : World → Prop) (o : Oper) (K : Act → Prop) (a : Act) : Prop :=
  if Region.wanted o (yielded ops a.tmps) then ∃ v, (∀ V, C V → quietUponB P V v ((execOp a.eval o).run P V)) ∧ K (a.put o.dst v) else K (a.put o.dst undef)
def wpB (P : Program) (ops : Array Oper) (C : World → Prop) (Q : Act → Prop) : List Oper → Act → Prop
  | [], a => Q a
  | o :: r, a => qB P ops C o (wpB P ops C Q r) a
/-- Behind it: in whatever class of worlds that lies in C and abides what a call leaves. -/
structure Abides (C : World → Prop) (D : World → Prop) : Prop where
  sub : ∀ V, D V → C V
  next : ∀ V V', D V → Below V.heap.size V V' → D V'
theorem wpOp_of_qB {E : World → Prop} (hE : Abides C E) {i : Nat} {o : Oper} (hi : ops[i]? = some o) {a : Act} {K : Act → Prop} {K' : Act → World → Prop} {Q' : Exit → Act → World → Prop} {w : World} (hw : E w)
    (h : ∀ a w', E w' → K a → K' a w') (hh : qB P ops C o K a) : wpOp P ops Q' i K' a w := by
  unfold wpOp
  simp only [hi]
  unfold qB at hh
  split
  · rename_i hwd
    rw [if_pos hwd] at hh
    refine .inl ?_
    obtain ⟨v, h1, h2⟩ := hh
    have h3 := h1 w (hE.sub w hw)
    unfold Oper.wp
    generalize (execOp a.eval o).run P w = r at *
    cases r with
    | ok n w' =>
      cases n <;> simp only [quietUponB] at h3 <;> simp only [Oper.upon]
      case value u =>
        obtain ⟨e1, e2⟩ := h3
        rw [e1, e2]
        exact h _ _ hw h2
      case skip =>
        obtain ⟨e1, e2⟩ := h3
        rw [e1, ← e2]
        exact h _ _ hw h2
      case enter f args =>
        obtain ⟨e1, hc⟩ := h3
        rw [e1]
        exact hc.mono fun e w'' ⟨he, hb⟩ => by subst he; exact h _ _ (hE.next _ _ hw hb) h2
    | halt x w' => simp only [quietUponB] at h3
  · rename_i hwd
    rw [if_neg hwd] at hh
    exact h _ _ hw hh
/-- What it yields here, and wherever else nothing that it looks at has turned. -/
def YieldsB (P : Program) (ops : Array Oper) (C : World → Prop) (o : Oper) (v : Value) (a : Act) : Prop :=
  (Region.wanted o (yielded ops a.tmps) = true ∧ ∀ V, C V → quietUponB P V v ((execOp a.eval o).run P V)) ∨ (Region.wanted o (yielded ops a.tmps) = false ∧ v = undef)
theorem YieldsB.qB {o : Oper} {v : Value} {a : Act} {K : Act → Prop} (hy : YieldsB P ops C o v a) (h : K (a.put o.dst v)) : Go.Proofs.YtcbahkfbdlhabaaGreatDoor.qB P ops C o K a := by
  unfold Go.Proofs.YtcbahkfbdlhabaaGreatDoor.qB
  rcases hy with ⟨hw, hv⟩ | ⟨hw, rfl⟩
  · rw [if_pos hw]; exact ⟨v, hv, h⟩
  · rw [if_neg (by simp [hw])]; exact h
theorem YieldsB.of_qB {o : Oper} {a : Act} {K : Act → Prop} (h : Go.Proofs.YtcbahkfbdlhabaaGreatDoor.qB P ops C o K a) : ∃ v, YieldsB P ops C o v a ∧ K (a.put o.dst v) := by
  unfold Go.Proofs.YtcbahkfbdlhabaaGreatDoor.qB at h
  by_cases hw : Region.wanted o (yielded ops a.tmps) = true
  · rw [if_pos hw] at h
    obtain ⟨v, h1, h2⟩ := h
    exact ⟨v, .inl ⟨hw, h1⟩, h2⟩
  · rw [if_neg hw] at h
    exact ⟨undef, .inr ⟨by simpa using hw, rfl⟩, h⟩
theorem YieldsB.put {oi : Oper} {v : Value} {a : Act} (hsi : ∀ cs b, oi.op ≠ .select cs b) (d : Option Tmp) (u : Value) (h3 : ∀ x, d = some x → x ∉ oi.looksAt ops) (hy : YieldsB P ops C oi v a) : YieldsB P ops C oi v (a.put d u) := by
  unfold YieldsB at *
  rw [execOp_put oi hsi a d u h3, wanted_put oi a d u h3]
  exact hy
theorem qB_put {oi oj : Oper} {v : Value} (hap : oi.apart ops oj = true) (hsi : ∀ cs b, oi.op ≠ .select cs b) (hsj : ∀ cs b, oj.op ≠ .select cs b) {K : Act → Prop} {a : Act}
    (hy : YieldsB P ops C oi v a) (h : qB P ops C oj K (a.put oi.dst v)) : qB P ops C oj (fun a' => YieldsB P ops C oi v a' ∧ K (a'.put oi.dst v)) a := by
  obtain ⟨h1, h2, h3⟩ := Oper.apart_spec hap
  unfold qB at *
  rw [wanted_put oj a oi.dst v h1] at h
  split
  · rename_i hw
    rw [if_pos hw] at h
    obtain ⟨u, hu, hn⟩ := h
    refine ⟨u, fun V hV => ?_, hy.put hsi _ u h3, by rw [← Act.put_comm a v u h2]; exact hn⟩
    have := hu V hV
    rwa [execOp_put oj hsj a oi.dst v h1] at this
  · rename_i hw
    rw [if_neg hw] at h
    exact ⟨hy.put hsi _ _ h3, by rw [← Act.put_comm a v undef h2]; exact h⟩
/-- An operation that lays a new block. -/
structure LaysNew (P : Program) (o : Oper) (val : Nat → Value) (obj : Obj) : Prop where
  guard : o.guard = none
  run : ∀ (a : Act) (V : World), (execOp a.eval o).run P V = .ok (.value (val V.heap.size)) (V.alloc obj)
/-- The operation number i, in a state in which the block b is there or not. -/
def qX (P : Program) (ops : Array Oper) (C : World → Prop) (val : Nat → Value) (al i : Nat) (o : Oper) (K : Option Nat → Act → Prop) (s : Option Nat) (a : Act) : Prop :=
  if i = al then s = none ∧ ∀ b, K (some b) (a.put o.dst (val b)) else qB P ops C o (K s) a
/-- Closed: with each operation those that it waits for. -/
def Cl (ops : Array Oper) (L : Array Bool) : Prop := ∀ j o, ops[j]? = some o → L.getD j false = true → ∀ e ∈ o.after, Region.binds .any e = true → L.getD e.on false = true
theorem Cl.set {L : Array Bool} (h : Cl ops L) {i : Nat} (hi : i ∈ Region.ready .any ops L) : Cl ops (L.setIfInBounds i true) := fun j o ho hj e he hb => by
  by_cases hji : j = i
  · subst hji
    obtain ⟨_, o', ho', hall⟩ := mem_ready.1 hi
    rw [ho] at ho'
    cases ho'
    exact getD_set_true (hall e he hb)
  · rw [getD_set_ne false (Ne.symm hji)] at hj
    exact getD_set_true (h j o ho hj e he hb)
def ancB (ops : Array Oper) : Nat → Nat → Nat → Bool
  | 0, _, _ => false
  | f + 1, j, i => match ops[j]? with
    | none => false
    | some o => o.after.toList.any fun e => Region.binds .any e && (e.on == i || ancB ops f e.on i)
theorem anc_listed {L : Array Bool} (hL : Cl ops L) : ∀ (f j i : Nat) (o : Oper), ops[j]? = some o → (∀ e ∈ o.after, Region.binds .any e = true → L.getD e.on false = true) → ancB ops f j i = true → L.getD i false = true
  | 0, _, _, _, _, _, h => by simp [ancB] at h
  | f + 1, j, i, o, ho, hall, h => by
    simp only [ancB, ho, List.any_eq_true, Bool.and_eq_true, Bool.or_eq_true, beq_iff_eq] at h
    obtain ⟨e, he, hb, h | h⟩ := h
    · rw [← h]; exact hall e (by simpa using he) hb
    · have hl := hall e (by simpa using he) hb
      cases ho2 : ops[e.on]? with
      | none =>
        cases f with
        | zero => simp [ancB] at h
        | succ f => simp [ancB, ho2] at h
      | some o2 => exact anc_listed hL f e.on i o2 ho2 (fun e2 he2 hb2 => hL e.on o2 ho2 hl e2 he2 hb2) h
/-- Whatever order is picked, till M is listed. -/
def wpX (P : Program) (ops : Array Oper) (C : World → Prop) (val : Nat → Value) (al : Nat) (M : Array Bool) (Q : Option Nat → Act → Prop) : Nat → Array Bool → Option Nat → Act → Prop
  | 0, L, s, a => L = M ∧ Q s a
  | n + 1, L, s, a => Region.ready .any ops L ≠ [] ∧ ∀ i ∈ Region.ready .any ops L, M.getD i false = true ∧ ∀ o, ops[i]? = some o → qX P ops C val al i o (fun s' a' => wpX P ops C val al M Q n (L.setIfInBounds i true) s' a') s a
theorem ready_off {L : Array Bool} {i : Nat} (h : i ∈ Region.ready .any ops L) : L.getD i false = false := by
  have h0 := (mem_ready.1 h).1
  rcases Nat.lt_or_ge i L.size with h' | h'
  · simp [h'] at h0 ⊢; exact h0
  · simp [Array.getElem?_eq_none h']
/-- What is listed behind M: all that may come up while M is not whole is of M. -/
def Ahead (ops : Array Oper) (M : Array Bool) (i : Nat) : Prop := ∀ L, Cl ops L → L.setIfInBounds i true = M → ∀ j ∈ Region.ready .any ops L, i ∈ Region.ready .any ops L → j = i
theorem wpX_first {val : Nat → Value} {al : Nat} {Q : Option Nat → Act → Prop} {i : Nat} {oi : Oper} {v : Value} (hi : ops[i]? = some oi) (hal : i ≠ al) (hsel : ∀ (j : Nat) (o : Oper) cs b, ops[j]? = some o → o.op ≠ .select cs b) (hMi : M.getD i false = true) (hMr : Ahead ops M i) :
    ∀ (n : Nat) (L : Array Bool) (s : Option Nat) (a : Act), Cl ops L →
      (∀ j oj, ops[j]? = some oj → j ≠ i → L.getD j true = false → (∀ e ∈ oj.after, Region.binds .any e = true → e.on ≠ i) → oi.apart ops oj = true) →
      i ∈ Region.ready .any ops L → YieldsB P ops C oi v a → wpX P ops C val al M Q n (L.setIfInBounds i true) s (a.put oi.dst v) → wpX P ops C val al M Q (n + 1) L s a := by
  have self : ∀ (n : Nat) (L : Array Bool) (s : Option Nat) (a : Act), YieldsB P ops C oi v a → wpX P ops C val al M Q n (L.setIfInBounds i true) s (a.put oi.dst v) → M.getD i false = true ∧ ∀ o, ops[i]? = some o → qX P ops C val al i o (fun s' a' => wpX P ops C val al M Q n (L.setIfInBounds i true) s' a') s a := fun n L s a hy H => by
    refine ⟨hMi, fun o ho => ?_⟩
    rw [hi] at ho
    cases ho
    unfold qX
    rw [if_neg hal]
    exact hy.qB H
  intro n
  induction n with
  | zero =>
    intro L s a hcl _ hr hy H
    refine ⟨fun h => (by rw [h] at hr; cases hr), fun j hj => ?_⟩
    by_cases hji : j = i
    · subst hji; exact self 0 L s a hy H
    · exact absurd (hMr L hcl H.1 j hj hr) hji
  | succ n ih =>
    intro L s a hcl hfree hr hy H
    refine ⟨fun h => (by rw [h] at hr; cases hr), fun j hj => ?_⟩
    by_cases hji : j = i
    · subst hji; exact self (n + 1) L s a hy H
    · obtain ⟨hMj, h1⟩ := H.2 j (ready_mono hj hji)
      refine ⟨hMj, fun oj hoj => ?_⟩
      obtain ⟨hjun, oj', hoj', hall⟩ := mem_ready.1 hj
      rw [hoj] at hoj'
      cases hoj'
      have hnot : ∀ e ∈ oj.after, Region.binds .any e = true → e.on ≠ i := fun e he hb heq => by
        have h1 := hall e he hb
        rw [heq, ready_off hr] at h1
        cases h1
      have hap := hfree j oj hoj hji hjun hnot
      have h1 := h1 oj hoj
      have on : ∀ s' a', YieldsB P ops C oi v a' → wpX P ops C val al M Q n ((L.setIfInBounds i true).setIfInBounds j true) s' (a'.put oi.dst v) → wpX P ops C val al M Q (n + 1) (L.setIfInBounds j true) s' a' := fun s' a' hy' h' =>
        ih (L.setIfInBounds j true) s' a' (hcl.set hj) (fun k ok hk hki hun hno => hfree k ok hk hki (by
          by_cases hjk : j = k
          · subst hjk; exact hjun
          · rw [getD_set_ne true hjk] at hun; exact hun) hno) (ready_mono hr (Ne.symm hji)) hy' (by rw [Array.setIfInBounds_comm _ _ hji]; exact h')
      unfold qX at h1 ⊢
      by_cases hja : j = al
      · rw [if_pos hja] at h1 ⊢
        obtain ⟨p1, p2, p3⟩ := Oper.apart_spec hap
        exact ⟨h1.1, fun b => on (some b) _ (hy.put (fun cs b => hsel i oi cs b hi) _ _ p3) (by rw [← Act.put_comm a v (val b) p2]; exact h1.2 b)⟩
      · rw [if_neg hja] at h1 ⊢
        have h2 := qB_put hap (fun cs b => hsel i oi cs b hi) (fun cs b => hsel j oj cs b hoj) hy h1
        obtain ⟨u, hu, h3⟩ := YieldsB.of_qB h2
        exact hu.qB (on s _ h3.1 h3.2)
/-- The operations of p, by their numbers. -/
def pick (ops : Array Oper) : List Nat → List Oper
  | [] => []
  | i :: r => match ops[i]? with
    | some o => o :: pick ops r
    | none => pick ops r
def pathB (ops : Array Oper) (M : Array Bool) : Array Bool → List Nat → Bool
  | _, [] => true
  | L, i :: r => decide (i < ops.size) && (Region.ready .any ops L).contains i && Region.free .any ops L i && M.getD i false && pathB ops M (L.setIfInBounds i true) r
/-- What is not of M waits for all of M. -/
def aheadB (ops : Array Oper) (M : Array Bool) : Bool :=
  (List.range ops.size).all fun j => M.getD j false || (List.range ops.size).all fun i => !M.getD i false || ancB ops ops.size j i || (List.range ops.size).any fun k => !M.getD k false && ancB ops ops.size j k
def seqB (ops : Array Oper) : Array Bool → List Nat → Bool
  | L, [] => (Region.ready .any ops L).isEmpty
  | L, i :: r => decide (i < ops.size) && (Region.ready .any ops L == [i]) && seqB ops (L.setIfInBounds i true) r
theorem ahead_of (h : aheadB ops M = true) (hM : M.size = ops.size) (i : Nat) : Ahead ops M i := fun L hcl he j hj hi => by
  by_cases hji : j = i
  · exact hji
  · obtain ⟨hjun, o, ho, hall⟩ := mem_ready.1 hj
    have hjl : j < ops.size := (Array.getElem?_eq_some_iff.1 ho).1
    obtain ⟨_, oi, hoi, _⟩ := mem_ready.1 hi
    have hil : i < ops.size := (Array.getElem?_eq_some_iff.1 hoi).1
    have hLs : L.size = ops.size := by rw [← hM, ← he]; simp
    have hsub : ∀ k, L.getD k false = true → M.getD k false = true := fun k hk => by rw [← he]; exact getD_set_true hk
    have hMi : M.getD i false = true := by rw [← he]; simp [hLs, hil]
    simp only [aheadB, List.all_eq_true, List.mem_range] at h
    have h1 := h j hjl
    have hMj : M.getD j false = false := by
      rw [← he, getD_set_ne false (Ne.symm hji)]
      exact ready_off hj
    rw [hMj, Bool.false_or] at h1
    have h2 := List.all_eq_true.1 h1 i (List.mem_range.2 hil)
    rw [hMi] at h2
    simp only [Bool.not_true, Bool.false_or, Bool.or_eq_true, List.any_eq_true, Bool.and_eq_true, Bool.not_eq_true'] at h2
    rcases h2 with h2 | ⟨k, _, hk, h2⟩
    · have := anc_listed hcl _ _ _ o ho hall h2
      rw [ready_off hi] at this
      cases this
    · have := hsub k (anc_listed hcl _ _ _ o ho hall h2)
      rw [hk] at this
      cases this
theorem wpX_path {val : Nat → Value} {al : Nat} (hs : Region.noSelect ops = true) (hA : aheadB ops M = true) (hM : M.size = ops.size) {Q : Option Nat → Act → Prop} {s : Option Nat} {m : Nat} {R : Act → Prop} : ∀ (p : List Nat) (L : Array Bool) (a : Act), Cl ops L → al ∉ p → pathB ops M L p = true →
    (∀ a, R a → wpX P ops C val al M Q m (p.foldl (fun L i => L.setIfInBounds i true) L) s a) → wpB P ops C R (pick ops p) a → wpX P ops C val al M Q (m + p.length) L s a
  | [], L, a, _, _, _, hR, h => hR a h
  | i :: r, L, a, hcl, hal, hB, hR, h => by
    simp only [pathB, Bool.and_eq_true, decide_eq_true_eq] at hB
    obtain ⟨⟨⟨⟨hlt, hr⟩, hf⟩, hMi⟩, hB'⟩ := hB
    have h0 : ops[i]? = some ops[i] := Array.getElem?_eq_getElem hlt
    simp only [pick, h0] at h
    have hr' : i ∈ Region.ready .any ops L := by simpa using hr
    obtain ⟨v, hy, hK⟩ := YieldsB.of_qB h
    exact wpX_first h0 (fun e => hal (by simp [e])) (Region.noSelect_spec hs) hMi (ahead_of hA hM i) _ L s a hcl (Region.free_spec h0 hf) hr' hy (wpX_path hs hA hM r _ _ (hcl.set hr') (fun e => hal (by simp [e])) hB' hR hK)
theorem wpAny_of_X {E : Option Nat → World → Prop} (hE : ∀ s, Abides C (E s)) {val : Nat → Value} {al : Nat} {obj : Obj} (hal : ∀ o, ops[al]? = some o → LaysNew P o val obj) (hnew : ∀ V, E none V → E (some V.heap.size) (V.alloc obj)) {Q : Option Nat → Act → Prop} {Q' : Exit → Act → World → Prop} {n : Nat}
    (hQ : ∀ s a w, E s w → Q s a → wpAny P .any ops Q' n M a w) : ∀ (k : Nat) (L : Array Bool) (s : Option Nat) (a : Act) (w : World), E s w → wpX P ops C val al M Q k L s a → wpAny P .any ops Q' (n + k) L a w
  | 0, _, s, a, w, hw, h => by rw [h.1]; exact hQ s a w hw h.2
  | k + 1, L, s, a, w, hw, h => ⟨fun h0 => absurd h0 h.1, fun i hi => by
    obtain ⟨hun, o, ho, hall⟩ := mem_ready.1 hi
    have h1 := (h.2 i hi).2 o ho
    unfold qX at h1
    by_cases hia : i = al
    · rw [if_pos hia] at h1
      obtain ⟨rfl, h1⟩ := h1
      subst hia
      have hl := hal o ho
      unfold wpOp
      simp only [ho]
      rw [if_pos (by simp [Region.wanted, hl.guard])]
      refine .inl ?_
      unfold Oper.wp
      rw [hl.run a w]
      exact wpAny_of_X hE hal hnew hQ k _ _ _ _ (hnew w hw) (h1 _)
    · rw [if_neg hia] at h1
      exact wpOp_of_qB (hE s) ho hw (fun a' w' hw' h' => wpAny_of_X hE hal hnew hQ k _ s a' w' hw' h') h1⟩
theorem wpAny_seq {Q' : Exit → Act → World → Prop} : ∀ (q : List Nat) (L : Array Bool) (a : Act) (w : World), seqB ops L q = true → wpList P ops Q' (pick ops q) a w → wpAny P .any ops Q' q.length L a w
  | [], L, a, w, hB, h => ⟨by simpa [seqB] using hB, h⟩
  | i :: r, L, a, w, hB, h => by
    simp only [seqB, Bool.and_eq_true, decide_eq_true_eq] at hB
    obtain ⟨⟨hlt, hr⟩, hB'⟩ := hB
    have hr' : Region.ready .any ops L = [i] := by simpa using hr
    have h0 : ops[i]? = some ops[i] := Array.getElem?_eq_getElem hlt
    simp only [pick, h0] at h
    refine ⟨fun h0 => (by rw [hr'] at h0; cases h0), fun j hj => ?_⟩
    rw [hr'] at hj
    obtain rfl : j = i := by simpa using hj
    refine wpOp_mono (fun a' w' h' => wpAny_seq r _ a' w' hB' h') ?_
    unfold wpOp
    simp only [h0]
    exact h
def maskOf (n : Nat) (p : List Nat) : Array Bool := p.foldl (fun L i => L.setIfInBounds i true) (Array.replicate n false)
theorem size_fold (p : List Nat) : ∀ L : Array Bool, (p.foldl (fun L i => L.setIfInBounds i true) L).size = L.size := by
  induction p with
  | nil => intro L; rfl
  | cons i r ih => intro L; rw [List.foldl_cons, ih]; simp
theorem cl_none : Cl ops (Array.replicate ops.size false) := fun j o ho hj => by
  have hlt : j < ops.size := (Array.getElem?_eq_some_iff.1 ho).1
  simp [hlt] at hj
/-- No new block among p. -/
def tailB (ops : Array Oper) (p q : List Nat) : Bool :=
  Region.noSelect ops && pathB ops (maskOf ops.size p) (Array.replicate ops.size false) p && aheadB ops (maskOf ops.size p) && seqB ops (maskOf ops.size p) q && (q.length + p.length == ops.size) && !p.contains ops.size
theorem wp_region_tail {id : Nat} {Q : Exit → Act → World → Prop} {a : Act} {w : World} (p q : List Nat) (hm : P.follows .mixedOrders = true) (hB : tailB ops p q = true) (hC : Abides C C) (hw : C w.drew)
    (h : wpB P ops C (fun a' => ∀ V, C V → wpList P ops Q (pick ops q) a' V) (pick ops p) a) : (Code.region id ops true).wp P Q a w := by
  simp only [tailB, Bool.and_eq_true] at hB
  obtain ⟨⟨⟨⟨⟨hs, hp⟩, hA⟩, hq⟩, hn⟩, hz⟩ := hB
  refine wp_region_any hm ?_
  have hnone : ops[ops.size]? = none := by simp
  have h1 := wpX_path (P := P) (C := C) (val := fun _ => undef) (al := ops.size) (M := maskOf ops.size p) hs hA (by unfold maskOf; rw [size_fold]; simp) (Q := fun _ a => ∀ V, C V → wpList P ops Q (pick ops q) a V) (s := none) (m := 0) p (Array.replicate ops.size false) a cl_none
    (by simpa using hz) hp (fun a ha => ⟨rfl, ha⟩) h
  have := wpAny_of_X (E := fun _ => C) (fun _ => hC) (obj := .cells #[] 0) (fun o ho => by rw [hnone] at ho; cases ho) (fun V hV => hC.next _ _ hV ((Below.refl _ _).alloc (Nat.le_refl _) _)) (n := q.length) (Q' := Q)
    (fun s a w hw h => wpAny_seq q _ a w hq (h w hw)) _ _ _ a w.drew hw h1
  rw [Nat.zero_add, show q.length + p.length = ops.size by simpa using hn] at this
  exact this
/-- A new block among p: number al. -/
def tailB1 (ops : Array Oper) (p : List Nat) (al : Nat) (q : List Nat) : Bool :=
  Region.noSelect ops && pathB ops (maskOf ops.size (p ++ [al])) (Array.replicate ops.size false) p && aheadB ops (maskOf ops.size (p ++ [al])) && (Region.ready .any ops (maskOf ops.size p) == [al]) && seqB ops (maskOf ops.size (p ++ [al])) q && (q.length + (1 + p.length) == ops.size) && !p.contains al && (maskOf ops.size (p ++ [al])).getD al false
theorem wp_region_tail1 {id : Nat} {Q : Exit → Act → World → Prop} {a : Act} {w : World} (p : List Nat) (al : Nat) (q : List Nat) (hm : P.follows .mixedOrders = true) (hB : tailB1 ops p al q = true) (hC : Abides C C) (hD : ∀ b, Abides C (D b)) (hw : C w.drew)
    {o : Oper} {val : Nat → Value} {obj : Obj} (ho : ops[al]? = some o) (hl : LaysNew P o val obj) (hnew : ∀ V, C V → D V.heap.size (V.alloc obj))
    (h : wpB P ops C (fun a' => ∀ b V, D b V → wpList P ops Q (pick ops q) (a'.put o.dst (val b)) V) (pick ops p) a) : (Code.region id ops true).wp P Q a w := by
  simp only [tailB1, Bool.and_eq_true] at hB
  obtain ⟨⟨⟨⟨⟨⟨⟨hs, hp⟩, hA⟩, hr⟩, hq⟩, hn⟩, hz⟩, hMal⟩ := hB
  refine wp_region_any hm ?_
  have hr' : Region.ready .any ops (maskOf ops.size p) = [al] := by simpa using hr
  have hme : (maskOf ops.size p).setIfInBounds al true = maskOf ops.size (p ++ [al]) := by unfold maskOf; rw [List.foldl_append]; rfl
  have h1 := wpX_path (P := P) (C := C) (val := val) (al := al) (M := maskOf ops.size (p ++ [al])) hs hA (by unfold maskOf; rw [size_fold]; simp) (Q := fun s a => ∃ b, s = some b ∧ ∀ V, D b V → wpList P ops Q (pick ops q) a V) (s := none) (m := 1) p (Array.replicate ops.size false) a cl_none
    (by simpa using hz) hp (fun a ha => ⟨fun h0 => (by have h2 : Region.ready .any ops (maskOf ops.size p) = [] := h0; rw [hr'] at h2; cases h2), fun j hj => by
      have hj' : j ∈ Region.ready .any ops (maskOf ops.size p) := hj
      rw [hr'] at hj'
      obtain rfl : j = al := by simpa using hj'
      refine ⟨hMal, fun o' ho' => ?_⟩
      rw [ho] at ho'
      cases ho'
      unfold qX
      rw [if_pos rfl]
      exact ⟨rfl, fun b => ⟨hme, b, rfl, fun V hV => ha b V hV⟩⟩⟩) h
  have := wpAny_of_X (E := fun s V => match s with | none => C V | some b => D b V) (fun s => match s with | none => hC | some b => hD b) (al := al) (obj := obj) (fun o' ho' => by rw [ho] at ho'; cases ho'; exact hl) hnew (n := q.length) (Q' := Q) (M := maskOf ops.size (p ++ [al]))
    (fun s a w hw h => wpAny_seq q _ a w hq (by
      obtain ⟨b, rfl, h⟩ := h
      exact h w hw)) _ _ _ a w.drew hw h1
  rw [show q.length + (1 + p.length) = ops.size by simpa using hn] at this
  exact this
theorem Hp.abides (w0 : World) (l : List En) : Abides (fun V => Hp w0 V l) (fun V => Hp w0 V l) := ⟨fun _ h => h, fun _ _ h hb => h.next hb⟩
theorem wp_tail_Hp {ops : Array Oper} {w0 W : World} {l : List En} {id : Nat} {Q : Exit → Act → World → Prop} {a : Act} (p q : List Nat) (hB : tailB ops p q = true) (HH : Hp w0 W l)
    (h : wpB Tryz.prog ops (fun V => Hp w0 V l) (fun a' => ∀ V, Hp w0 V l → wpList Tryz.prog ops Q (pick ops q) a' V) (pick ops p) a) : (Code.region id ops true).wp Tryz.prog Q a W :=
  wp_region_tail (C := fun V => Hp w0 V l) p q (by kernel_rfl) hB (Hp.abides w0 l) HH.drew h
theorem wp_tail1_Hp {ops : Array Oper} {w0 W : World} {l : List En} {id : Nat} {Q : Exit → Act → World → Prop} {a : Act} (p : List Nat) (al : Nat) (q : List Nat) (hB : tailB1 ops p al q = true) (HH : Hp w0 W l)
    {o : Oper} {val : Nat → Value} {obj : Obj} (ho : ops[al]? = some o) (hl : LaysNew Tryz.prog o val obj)
    (h : wpB Tryz.prog ops (fun V => Hp w0 V l) (fun a' => ∀ b V, Hp w0 V (⟨b, obj, true⟩ :: l) → wpList Tryz.prog ops Q (pick ops q) (a'.put o.dst (val b)) V) (pick ops p) a) : (Code.region id ops true).wp Tryz.prog Q a W :=
  wp_region_tail1 (C := fun V => Hp w0 V l) (D := fun b V => Hp w0 V (⟨b, obj, true⟩ :: l)) p al q (by kernel_rfl) hB (Hp.abides w0 l) (fun b => ⟨fun _ h => h.drop rfl, fun _ _ h hb => h.next hb⟩) HH.drew ho hl (fun V hV => hV.alloc obj) h
/-! The steps of the first part. -/
section stepB
variable {ops : Array Oper} {C : World → Prop} {Q : Act → Prop} {rest : List Oper} {o : Oper} {a : Act} {v : Value} {w0 : World} {l : List En} {T : TypeId} {x y : Operand} {agg own : Bool} {n : Nat} {b off : Nat} {c : List Value} {t : TypeId}
theorem wpB_nil (h : Q a) : wpB Tryz.prog ops C Q [] a := h
theorem wpB_skip (hw : Region.wanted o (yielded ops a.tmps) = false) (h : wpB Tryz.prog ops C Q rest (a.put o.dst undef)) : wpB Tryz.prog ops C Q (o :: rest) a := by
  show qB _ _ _ _ _ _
  unfold qB
  rw [if_neg (by simp [hw])]
  exact h
theorem wpB_val (hw : Region.wanted o (yielded ops a.tmps) = true) (h : ∀ V, C V → (execOp a.eval o).run Tryz.prog V = .ok (.value v) V) (hk : wpB Tryz.prog ops C Q rest (a.put o.dst v)) : wpB Tryz.prog ops C Q (o :: rest) a := by
  show qB _ _ _ _ _ _
  unfold qB
  rw [if_pos hw]
  exact ⟨v, fun V hV => by rw [h V hV]; exact ⟨rfl, rfl⟩, hk⟩
theorem wpB_bool {p : Bool} (hw : Region.wanted o (yielded ops a.tmps) = true) (h : ∀ V, C V → (execOp a.eval o).run Tryz.prog V = .ok (.value (.bool p)) V) (ht : p = true → wpB Tryz.prog ops C Q rest (a.put o.dst (.bool true))) (hf : p = false → wpB Tryz.prog ops C Q rest (a.put o.dst (.bool false))) : wpB Tryz.prog ops C Q (o :: rest) a := by
  cases p
  · exact wpB_val hw h (hf rfl)
  · exact wpB_val hw h (ht rfl)
theorem wpB_move (hop : o.op = .move x) (hw : Region.wanted o (yielded ops a.tmps) = true) (hx : a.eval x = v) (hk : wpB Tryz.prog ops C Q rest (a.put o.dst v)) : wpB Tryz.prog ops C Q (o :: rest) a :=
  wpB_val hw (fun V _ => by rw [BigFrame.run_move x hop, hx]) hk
theorem wpB_assign (hop : o.op = .assign x) (hw : Region.wanted o (yielded ops a.tmps) = true) (hx : a.eval x = v) (hk : wpB Tryz.prog ops C Q rest (a.put o.dst v)) : wpB Tryz.prog ops C Q (o :: rest) a :=
  wpB_val hw (fun V _ => by rw [BigFrame.run_assign x hop, hx]) hk
theorem wpB_load (i : Nat) (hop : o.op = .load T x) (hx : a.eval x = .pointer (some ⟨b, off, none⟩)) (he : l[i]? = some ⟨b, .cells c.toArray t (0, 0), own⟩) (hw : Region.wanted o (yielded ops a.tmps) = true) [hs : Shp T agg n] (hv : rdv agg n c off = some v)
    (hk : wpB Tryz.prog ops (fun V => Hp w0 V l) Q rest (a.put o.dst v)) : wpB Tryz.prog ops (fun V => Hp w0 V l) Q (o :: rest) a :=
  wpB_val hw (fun V hV => by
    unfold execOp
    simp only [hop, hx, Sem.run_bind, Sem.run_pure, Result.andThen_ok, run_load_en hs (Hp.get hV i he) hv]) hk
theorem wpB_call {f : FuncId} {args : Array Value} (hw : Region.wanted o (yielded ops a.tmps) = true) (hg : Gives f args v) (h : ∀ V, C V → (execOp a.eval o).run Tryz.prog V = .ok (.enter f args) V) (hk : wpB Tryz.prog ops C Q rest (a.put o.dst v)) : wpB Tryz.prog ops C Q (o :: rest) a := by
  show qB _ _ _ _ _ _
  unfold qB
  rw [if_pos hw]
  exact ⟨v, fun V hV => by rw [h V hV]; exact ⟨rfl, hg V⟩, hk⟩
theorem wpB_callE {f : FuncId} {args : Array Value} (hw : Region.wanted o (yielded ops a.tmps) = true) (h : ∀ V, C V → (execOp a.eval o).run Tryz.prog V = .ok (.enter f args) V) (hg : Gives f args v) (hk : wpB Tryz.prog ops C Q rest (a.put o.dst v)) : wpB Tryz.prog ops C Q (o :: rest) a :=
  wpB_call hw hg h hk
theorem lays_alloc {T : TypeId} {v : Value} [hz : Zro T v] {d : Option Tmp} {ty : TypeId} {pos : String} {after : Array Edge} : LaysNew Tryz.prog ⟨d, .alloc T, ty, pos, after, none⟩ (fun b => .pointer (some ⟨b, 0, none⟩)) (.cells v.cells T (0, 0)) :=
  ⟨rfl, fun a V => by
    unfold execOp
    simp only [Instr.alloc, newVar, newRow, Sem.run_bind, Sem.run_pure, Result.andThen_ok, hz.z]
    simp⟩
end stepB
end path
instance : Shp 3 false 1 := ⟨fun _ => by kernel_rfl, by kernel_rfl⟩
instance : Zro 3 (.int .i64 0) := ⟨fun _ => by kernel_rfl⟩
instance : Shp 4 false 1 := ⟨fun _ => by kernel_rfl, by kernel_rfl⟩
instance : Zro 4 (.bool false) := ⟨fun _ => by kernel_rfl⟩
instance : Shp 9 false 1 := ⟨fun _ => by kernel_rfl, by kernel_rfl⟩
instance : Zro 9 (.string ⟨#[]⟩) := ⟨fun _ => by kernel_rfl⟩
instance : Shp 23 true 3 := ⟨fun _ => by kernel_rfl, by kernel_rfl⟩
instance : Zro 23 (.agg #[.int .i64 0, .int .i64 0, .int .i64 0]) := ⟨fun _ => by kernel_rfl⟩
instance : Shp 24 true 6 := ⟨fun _ => by kernel_rfl, by kernel_rfl⟩
instance : Zro 24 (.agg #[.int .i64 0, .int .i64 0, .int .i64 0, .int .i64 0, .int .i64 0, .int .i64 0]) := ⟨fun _ => by kernel_rfl⟩
instance : Shp 26 true 7 := ⟨fun _ => by kernel_rfl, by kernel_rfl⟩
instance : Zro 26 (.agg #[.int .i64 0, .int .i64 0, .int .i64 0, .int .i64 0, .int .i64 0, .int .i64 0, .int .i64 0]) := ⟨fun _ => by kernel_rfl⟩
instance : Shp 28 true 2 := ⟨fun _ => by kernel_rfl, by kernel_rfl⟩
instance : Zro 28 (.agg #[.int .i64 0, .int .i64 0]) := ⟨fun _ => by kernel_rfl⟩
instance : Shp 29 false 1 := ⟨fun _ => by kernel_rfl, by kernel_rfl⟩
instance : Zro 29 (.int .u64 0) := ⟨fun _ => by kernel_rfl⟩
instance : Shp 31 true 5 := ⟨fun _ => by kernel_rfl, by kernel_rfl⟩
instance : Zro 31 (.agg #[.int .i64 0, .int .i64 0, .int .u64 0, .int .u64 0, .string ⟨#[]⟩]) := ⟨fun _ => by kernel_rfl⟩
instance : Shp 32 true 10 := ⟨fun _ => by kernel_rfl, by kernel_rfl⟩
instance : Zro 32 (.agg #[.int .i64 0, .int .i64 0, .int .u64 0, .int .u64 0, .string ⟨#[]⟩, .int .i64 0, .int .i64 0, .int .u64 0, .int .u64 0, .string ⟨#[]⟩]) := ⟨fun _ => by kernel_rfl⟩
instance : Shp 34 true 12 := ⟨fun _ => by kernel_rfl, by kernel_rfl⟩
instance : Zro 34 (.agg #[.int .i64 0, .int .i64 0, .int .i64 0, .int .i64 0, .int .u64 0, .int .u64 0, .string ⟨#[]⟩, .int .i64 0, .int .i64 0, .int .u64 0, .int .u64 0, .string ⟨#[]⟩]) := ⟨fun _ => by kernel_rfl⟩
instance : Shp 36 true 10 := ⟨fun _ => by kernel_rfl, by kernel_rfl⟩
instance : Zro 36 (.agg #[.int .i64 0, .int .i64 0, .int .i64 0, .int .i64 0, .int .i64 0, .int .i64 0, .int .i64 0, .int .i64 0, .int .i64 0, .int .i64 0]) := ⟨fun _ => by kernel_rfl⟩
instance : Shp 38 false 1 := ⟨fun _ => by kernel_rfl, by kernel_rfl⟩
instance : Zro 38 (.int .i64 0) := ⟨fun _ => by kernel_rfl⟩
instance : Shp 44 true 13 := ⟨fun _ => by kernel_rfl, by kernel_rfl⟩
instance : Zro 44 (.agg #[.int .i64 0, .int .i64 0, .int .i64 0, .int .i64 0, .int .u64 0, .int .u64 0, .string ⟨#[]⟩, .int .i64 0, .int .i64 0, .int .u64 0, .int .u64 0, .string ⟨#[]⟩, .int .u64 0]) := ⟨fun _ => by kernel_rfl⟩
instance : Shp 89 true 2 := ⟨fun _ => by kernel_rfl, by kernel_rfl⟩
instance : Zro 89 (.agg #[.int .u64 0, .int .u64 0]) := ⟨fun _ => by kernel_rfl⟩
instance : Shp 111 true 2 := ⟨fun _ => by kernel_rfl, by kernel_rfl⟩
instance : Zro 111 (.agg #[.int .u64 0, .int .u64 0]) := ⟨fun _ => by kernel_rfl⟩
abbrev zT {P : Program} {ops : Array Oper} {C : World → Prop} {Q : Act → Prop} {d : Option Tmp} {ty : TypeId} {po : String} {af : Array Edge} {g : Option (Tmp × Bool)} {r : List Oper} {a : Act} (op : Op) : Prop := wpB P ops C Q (Oper.mk d op ty po af g :: r) a
abbrev zU {P : Program} {ops : Array Oper} {C : World → Prop} {Q : Act → Prop} {d : Option Tmp} {ty : TypeId} {po : String} {af : Array Edge} {r : List Oper} {a : Act} (op : Op) : Prop := wpB P ops C Q (Oper.mk d op ty po af none :: r) a
abbrev zV {P : Program} {ops : Array Oper} {C : World → Prop} {Q : Act → Prop} {d : Option Tmp} {ty : TypeId} {po : String} {af : Array Edge} {g : Tmp × Bool} {r : List Oper} {a : Act} (op : Op) : Prop := wpB P ops C Q (Oper.mk d op ty po af (some g) :: r) a

end Go.Proofs.YtcbahkfbdlhabaaGreatDoor
