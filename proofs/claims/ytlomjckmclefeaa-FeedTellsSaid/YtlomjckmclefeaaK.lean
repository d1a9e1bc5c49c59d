/- The feed: two feeds and the document's two, side by side. -/
import Derived.Test.YtlomjckmclefeaaJ
import Derived.Deep.MidRow
namespace Go.Proofs.Ytlomjckmclefeaa
set_option linter.unusedVariables false
set_option linter.unusedSimpArgs false
open Go.Conc Go.RowKit

/-- Where two feeds lie, and the document's array. -/
structure Lay where
  b1 : Nat
  c1 : Nat
  d1 : Nat
  n1 : Nat
  b2 : Nat
  c2 : Nat
  d2 : Nat
  n2 : Nat
  bx : Nat
def Lay.l (L : Lay) : List Nat := [L.b1, L.c1, L.d1, L.b2, L.c2, L.d2, L.bx]
def Lay.six (L : Lay) : List Nat := [L.b1, L.c1, L.d1, L.b2, L.c2, L.d2]
theorem Lay.six_l (L : Lay) {i : Nat} (h : i ∈ L.six) : i ∈ L.l := by simp only [Lay.six, Lay.l, List.mem_cons, List.not_mem_nil, or_false] at h ⊢; rcases h with h | h | h | h | h | h <;> simp [h]
/-- What a feed holds. -/
structure Con where
  U : List Int
  N : List Int
  k : Bool
/-- The document's array. -/
structure XAt (W : World) (L : Lay) (a1 : Option Addr) (e1 : Nat) (a2 : Option Addr) (e2 : Nat) (a3 : Option Addr) (e3 : Nat) (a4 : Option Addr) (e4 : Nat) (X1 X2 : Con) : Prop where
  hx : W.heap[L.bx]? = some (.cells #[.slice a1 X1.U.length e1, .slice a2 X1.N.length e2, .int .i64 (L.n1 : Int), .bool X1.k, .slice a3 X2.U.length e3, .slice a4 X2.N.length e4, .int .i64 (L.n2 : Int), .bool X2.k] 40 (0, 0))
  r1 : RowAt W L.l a1 e1 X1.U
  r2 : RowAt W L.l a2 e2 X1.N
  r3 : RowAt W L.l a3 e3 X2.U
  r4 : RowAt W L.l a4 e4 X2.N
theorem XAt.ref1 {W : World} {L : Lay} {a1 a2 a3 a4 : Option Addr} {e1 e2 e3 e4 : Nat} {X1 X2 : Con} (h : XAt W L a1 e1 a2 e2 a3 e3 a4 e4 X1 X2) : RefAt W L.l (.agg #[.slice a1 X1.U.length e1, .slice a2 X1.N.length e2, .int .i64 (L.n1 : Int), .bool X1.k]) X1.U X1.N L.n1 X1.k := ⟨⟨_, _, _, _, rfl, h.r1, h.r2⟩⟩
theorem XAt.ref2 {W : World} {L : Lay} {a1 a2 a3 a4 : Option Addr} {e1 e2 e3 e4 : Nat} {X1 X2 : Con} (h : XAt W L a1 e1 a2 e2 a3 e3 a4 e4 X1 X2) : RefAt W L.l (.agg #[.slice a3 X2.U.length e3, .slice a4 X2.N.length e4, .int .i64 (L.n2 : Int), .bool X2.k]) X2.U X2.N L.n2 X2.k := ⟨⟨_, _, _, _, rfl, h.r3, h.r4⟩⟩
/-- Two feeds and the document's. -/
structure Two (W : World) (L : Lay) (F1 F2 X1 X2 : Con) : Prop where
  f1 : FeedAt W L.b1 L.c1 L.d1 L.n1 F1.U F1.N F1.k
  f2 : FeedAt W L.b2 L.c2 L.d2 L.n2 F2.U F2.N F2.k
  ap : Apart L.b1 L.c1 L.d1 L.b2 L.c2 L.d2
  ox : L.bx ∉ L.six
  x : ∃ a1 e1 a2 e2 a3 e3 a4 e4, XAt W L a1 e1 a2 e2 a3 e3 a4 e4 X1 X2
theorem mem_six (L : Lay) : L.b1 ∈ L.six ∧ L.c1 ∈ L.six ∧ L.d1 ∈ L.six ∧ L.b2 ∈ L.six ∧ L.c2 ∈ L.six ∧ L.d2 ∈ L.six := by simp [Lay.six]
theorem Two.lt {W : World} {L : Lay} {F1 F2 X1 X2 : Con} (h : Two W L F1 F2 X1 X2) : ∀ i, i ∈ L.l → i < W.heap.size := by
  obtain ⟨a1, e1, a2, e2, a3, e3, a4, e4, hx⟩ := h.x
  have q1 := h.f1.lt
  have q2 := h.f2.lt
  have q3 := lt_of_heap hx.hx
  intro i hi
  simp only [Lay.l, List.mem_cons, List.not_mem_nil, or_false] at hi
  rcases hi with rfl | rfl | rfl | rfl | rfl | rfl | rfl
  · exact q1.1
  · exact q1.2.1
  · exact q1.2.2
  · exact q2.1
  · exact q2.2.1
  · exact q2.2.2
  · exact q3
theorem Two.next {W V : World} {L : Lay} {F1 F2 X1 X2 : Con} (h : Two W L F1 F2 X1 X2) (hb : Below W.heap.size W V) : Two V L F1 F2 X1 X2 := by
  obtain ⟨a1, e1, a2, e2, a3, e3, a4, e4, hx⟩ := h.x
  exact ⟨h.f1.upd (Upd.of_below (l := []) hb) (by simp) (by simp) (by simp), h.f2.upd (Upd.of_below (l := []) hb) (by simp) (by simp) (by simp), h.ap, h.ox,
    a1, e1, a2, e2, a3, e3, a4, e4, old_below hb hx.hx, hx.r1.below hb, hx.r2.below hb, hx.r3.below hb, hx.r4.below hb⟩
/-- A call on the feeds. -/
theorem Two.feeds {W V : World} {L : Lay} {F1 F2 X1 X2 G1 G2 : Con} {l : List Nat} (h : Two W L F1 F2 X1 X2) (hf1 : FeedAt V L.b1 L.c1 L.d1 L.n1 G1.U G1.N G1.k) (hf2 : FeedAt V L.b2 L.c2 L.d2 L.n2 G2.U G2.N G2.k)
    (k : Upd l W V) (hl : ∀ i, i ∈ l → i ∈ L.six) : Two V L G1 G2 X1 X2 := by
  obtain ⟨a1, e1, a2, e2, a3, e3, a4, e4, hx⟩ := h.x
  have k' := k.more (l' := L.l) (fun i hi => L.six_l (hl i hi))
  exact ⟨hf1, hf2, h.ap, h.ox, a1, e1, a2, e2, a3, e3, a4, e4, (k.block _ (lt_of_heap hx.hx) (fun c => h.ox (hl _ c))).trans hx.hx, hx.r1.upd k', hx.r2.upd k', hx.r3.upd k', hx.r4.upd k'⟩
theorem Two.one {W V : World} {L : Lay} {F1 F2 X1 X2 G1 : Con} {l : List Nat} (h : Two W L F1 F2 X1 X2) (hf1 : FeedAt V L.b1 L.c1 L.d1 L.n1 G1.U G1.N G1.k) (k : Upd l W V) (hl : ∀ i, i ∈ l → i ∈ [L.b1, L.c1, L.d1]) : Two V L G1 F2 X1 X2 := by
  obtain ⟨p1, p2, p3, p4, p5, p6⟩ := mem_six L
  obtain ⟨h1, h2, h3, h4, h5, h6, h7, h8, h9⟩ := h.ap.l
  refine h.feeds hf1 (h.f2.upd k (fun c => ?_) (fun c => ?_) (fun c => ?_)) k (fun i hi => ?_)
  · have := hl _ c; simp at this; omega
  · have := hl _ c; simp at this; omega
  · have := hl _ c; simp at this; omega
  · have := hl _ hi
    simp only [List.mem_cons, List.not_mem_nil, or_false] at this
    rcases this with rfl | rfl | rfl <;> assumption
theorem Two.two {W V : World} {L : Lay} {F1 F2 X1 X2 G2 : Con} {l : List Nat} (h : Two W L F1 F2 X1 X2) (hf2 : FeedAt V L.b2 L.c2 L.d2 L.n2 G2.U G2.N G2.k) (k : Upd l W V) (hl : ∀ i, i ∈ l → i ∈ [L.b2, L.c2, L.d2]) : Two V L F1 G2 X1 X2 := by
  obtain ⟨p1, p2, p3, p4, p5, p6⟩ := mem_six L
  obtain ⟨h1, h2, h3, h4, h5, h6, h7, h8, h9⟩ := h.ap.l
  refine h.feeds (h.f1.upd k (fun c => ?_) (fun c => ?_) (fun c => ?_)) hf2 k (fun i hi => ?_)
  · have := hl _ c; simp at this; omega
  · have := hl _ c; simp at this; omega
  · have := hl _ c; simp at this; omega
  · have := hl _ hi
    simp only [List.mem_cons, List.not_mem_nil, or_false] at this
    rcases this with rfl | rfl | rfl <;> assumption
theorem heap_setCells4 {W : World} {b o : Nat} {v0 v1 v2 v3 : Value} {cs : Array Value} {t : TypeId} (h : W.heap[b]? = some (.cells cs t (0, 0))) :
    (W.setCells b o [v0, v1, v2, v3]).heap[b]? = some (.cells ((((cs.setIfInBounds o v0).setIfInBounds (o + 1) v1).setIfInBounds (o + 1 + 1) v2).setIfInBounds (o + 1 + 1 + 1) v3) t (0, 0)) :=
  heap_setCell_same _ _ _ _ _ _ (heap_setCell_same _ _ _ _ _ _ (heap_setCell_same _ _ _ _ _ _ (heap_setCell_same _ _ _ _ _ _ h)))
theorem upd_setCells4 (W : World) (b o : Nat) (v0 v1 v2 v3 : Value) : Upd [b] W (W.setCells b o [v0, v1, v2, v3]) :=
  (((upd_setCell W ⟨b, o, none⟩ v0).trans (upd_setCell _ ⟨b, o + 1, none⟩ v1)).trans (upd_setCell _ ⟨b, o + 1 + 1, none⟩ v2)).trans (upd_setCell _ ⟨b, o + 1 + 1 + 1, none⟩ v3)
theorem there_row {W : World} {b o : Nat} {cs : Array Value} {t : TypeId} (h : W.heap[b]? = some (.cells cs t (0, 0))) (ho : o + 4 ≤ cs.size) : W.there b o 4 := fun j hj =>
  ⟨by rw [cell_of_row _ _ _ _ _ _ h, Array.getElem?_eq_getElem (by omega)]; rfl, frozen_of_row _ _ _ _ _ h⟩
theorem Two.there {W : World} {L : Lay} {F1 F2 X1 X2 : Con} (h : Two W L F1 F2 X1 X2) (o : Nat) (ho : o ≤ 4) : W.there L.bx o 4 := by
  obtain ⟨a1, e1, a2, e2, a3, e3, a4, e4, hx⟩ := h.x
  exact there_row hx.hx (by show o + 4 ≤ 8; omega)
theorem Two.bx_upd {W V : World} {L : Lay} {F1 F2 X1 X2 : Con} (h : Two W L F1 F2 X1 X2) (k : Upd [L.bx] W V) : FeedAt V L.b1 L.c1 L.d1 L.n1 F1.U F1.N F1.k ∧ FeedAt V L.b2 L.c2 L.d2 L.n2 F2.U F2.N F2.k ∧ Upd L.l W V := by
  obtain ⟨p1, p2, p3, p4, p5, p6⟩ := mem_six L
  have q : ∀ i, i ∈ L.six → i ∉ [L.bx] := fun i hi c => by
    simp only [List.mem_cons, List.not_mem_nil, or_false] at c
    rw [c] at hi; exact h.ox hi
  exact ⟨h.f1.upd k (q _ p1) (q _ p2) (q _ p3), h.f2.upd k (q _ p4) (q _ p5) (q _ p6), k.more (fun i hi => by simp at hi; simp [Lay.l, hi])⟩
/-- A feed of the document's is stored. -/
theorem Two.put1 {W : World} {L : Lay} {F1 F2 X1 X2 Y : Con} {a1 a2 : Option Addr} {e1 e2 : Nat} (h : Two W L F1 F2 X1 X2) (hr : RefAt W L.l (.agg #[.slice a1 Y.U.length e1, .slice a2 Y.N.length e2, .int .i64 (L.n1 : Int), .bool Y.k]) Y.U Y.N L.n1 Y.k) :
    Two (W.setCells L.bx 0 [.slice a1 Y.U.length e1, .slice a2 Y.N.length e2, .int .i64 (L.n1 : Int), .bool Y.k]) L F1 F2 Y X2 := by
  have k := upd_setCells4 W L.bx 0 (.slice a1 Y.U.length e1) (.slice a2 Y.N.length e2) (.int .i64 (L.n1 : Int)) (.bool Y.k)
  obtain ⟨a1', e1', a2', e2', a3, e3, a4, e4, hx⟩ := h.x
  obtain ⟨g1, g2, g3⟩ := h.bx_upd k
  obtain ⟨q1, q2, q3, q4, he, r1, r2⟩ := hr.form
  simp only [Value.agg.injEq, Array.mk.injEq, List.cons.injEq, Value.slice.injEq, and_true, true_and] at he
  obtain ⟨⟨rfl, rfl⟩, rfl, rfl⟩ := he
  exact ⟨g1, g2, h.ap, h.ox, _, _, _, _, _, _, _, _, heap_setCells4 hx.hx, r1.upd g3, r2.upd g3, hx.r3.upd g3, hx.r4.upd g3⟩
theorem Two.put2 {W : World} {L : Lay} {F1 F2 X1 X2 Y : Con} {a3 a4 : Option Addr} {e3 e4 : Nat} (h : Two W L F1 F2 X1 X2) (hr : RefAt W L.l (.agg #[.slice a3 Y.U.length e3, .slice a4 Y.N.length e4, .int .i64 (L.n2 : Int), .bool Y.k]) Y.U Y.N L.n2 Y.k) :
    Two (W.setCells L.bx 4 [.slice a3 Y.U.length e3, .slice a4 Y.N.length e4, .int .i64 (L.n2 : Int), .bool Y.k]) L F1 F2 X1 Y := by
  have k := upd_setCells4 W L.bx 4 (.slice a3 Y.U.length e3) (.slice a4 Y.N.length e4) (.int .i64 (L.n2 : Int)) (.bool Y.k)
  obtain ⟨a1, e1, a2, e2, a3', e3', a4', e4', hx⟩ := h.x
  obtain ⟨g1, g2, g3⟩ := h.bx_upd k
  obtain ⟨q1, q2, q3, q4, he, r1, r2⟩ := hr.form
  simp only [Value.agg.injEq, Array.mk.injEq, List.cons.injEq, Value.slice.injEq, and_true, true_and] at he
  obtain ⟨⟨rfl, rfl⟩, rfl, rfl⟩ := he
  exact ⟨g1, g2, h.ap, h.ox, _, _, _, _, _, _, _, _, heap_setCells4 hx.hx, hx.r1.upd g3, hx.r2.upd g3, r1.upd g3, r2.upd g3⟩
/-- A feed of the document's is closed. -/
theorem Two.shut1 {W : World} {L : Lay} {F1 F2 X1 X2 : Con} (h : Two W L F1 F2 X1 X2) : Two (W.setCell ⟨L.bx, 3, none⟩ (.bool true)) L F1 F2 { X1 with k := true } X2 := by
  have k := upd_setCell W ⟨L.bx, 3, none⟩ (.bool true)
  obtain ⟨a1, e1, a2, e2, a3, e3, a4, e4, hx⟩ := h.x
  obtain ⟨g1, g2, g3⟩ := h.bx_upd k
  exact ⟨g1, g2, h.ap, h.ox, _, _, _, _, _, _, _, _, heap_setCell_same _ _ _ _ _ _ hx.hx, hx.r1.upd g3, hx.r2.upd g3, hx.r3.upd g3, hx.r4.upd g3⟩
theorem Two.shut2 {W : World} {L : Lay} {F1 F2 X1 X2 : Con} (h : Two W L F1 F2 X1 X2) : Two (W.setCell ⟨L.bx, 7, none⟩ (.bool true)) L F1 F2 X1 { X2 with k := true } := by
  have k := upd_setCell W ⟨L.bx, 7, none⟩ (.bool true)
  obtain ⟨a1, e1, a2, e2, a3, e3, a4, e4, hx⟩ := h.x
  obtain ⟨g1, g2, g3⟩ := h.bx_upd k
  exact ⟨g1, g2, h.ap, h.ox, _, _, _, _, _, _, _, _, heap_setCell_same _ _ _ _ _ _ hx.hx, hx.r1.upd g3, hx.r2.upd g3, hx.r3.upd g3, hx.r4.upd g3⟩
/-- The cells of the document's array. -/
theorem Two.cells {W : World} {L : Lay} {F1 F2 X1 X2 : Con} (h : Two W L F1 F2 X1 X2) : ∃ a1 e1 a2 e2 a3 e3 a4 e4,
    (W.cell? ⟨L.bx, 0, none⟩ = some (.slice a1 X1.U.length e1) ∧ W.cell? ⟨L.bx, 1, none⟩ = some (.slice a2 X1.N.length e2) ∧ W.cell? ⟨L.bx, 2, none⟩ = some (.int .i64 (L.n1 : Int)) ∧ W.cell? ⟨L.bx, 3, none⟩ = some (.bool X1.k)) ∧
    (W.cell? ⟨L.bx, 4, none⟩ = some (.slice a3 X2.U.length e3) ∧ W.cell? ⟨L.bx, 5, none⟩ = some (.slice a4 X2.N.length e4) ∧ W.cell? ⟨L.bx, 6, none⟩ = some (.int .i64 (L.n2 : Int)) ∧ W.cell? ⟨L.bx, 7, none⟩ = some (.bool X2.k)) ∧
    W.frozen? ⟨L.bx, 3, none⟩ = false ∧ W.frozen? ⟨L.bx, 7, none⟩ = false ∧ RefAt W L.l (.agg #[.slice a1 X1.U.length e1, .slice a2 X1.N.length e2, .int .i64 (L.n1 : Int), .bool X1.k]) X1.U X1.N L.n1 X1.k ∧ RefAt W L.l (.agg #[.slice a3 X2.U.length e3, .slice a4 X2.N.length e4, .int .i64 (L.n2 : Int), .bool X2.k]) X2.U X2.N L.n2 X2.k := by
  obtain ⟨a1, e1, a2, e2, a3, e3, a4, e4, hx⟩ := h.x
  refine ⟨a1, e1, a2, e2, a3, e3, a4, e4, ⟨?_, ?_, ?_, ?_⟩, ⟨?_, ?_, ?_, ?_⟩, frozen_of_row _ _ _ _ _ hx.hx, frozen_of_row _ _ _ _ _ hx.hx, hx.ref1, hx.ref2⟩ <;> (rw [cell_of_row _ _ _ _ _ _ hx.hx]; rfl)

/-- A step under way: the boxes of its arguments, too. -/
structure SAt (w W : World) (L : Lay) (kd ax x : Int) (F1 F2 X1 X2 : Con) : Prop where
  two : Two W L F1 F2 X1 X2
  b3 : W.heap[w.heap.size]? = some (.cells #[.pointer (some ⟨L.b1, 0, none⟩), .pointer (some ⟨L.b2, 0, none⟩)] 36 (0, 0))
  b5 : W.heap[w.heap.size + 1]? = some (.cells #[.int .i64 kd, .int .i64 ax, .int .i64 x] 44 (0, 0))
  lt : ∀ i, i ∈ L.l → i < w.heap.size
  upd : Upd L.l w W
theorem SAt.start {w : World} {L : Lay} {F1 F2 X1 X2 : Con} (kd ax x : Int) (h : Two w L F1 F2 X1 X2) :
    SAt w ((w.alloc (.cells #[.pointer (some ⟨L.b1, 0, none⟩), .pointer (some ⟨L.b2, 0, none⟩)] 36)).alloc (.cells #[.int .i64 kd, .int .i64 ax, .int .i64 x] 44)) L kd ax x F1 F2 X1 X2 := by
  have hb : Below w.heap.size w ((w.alloc (.cells #[.pointer (some ⟨L.b1, 0, none⟩), .pointer (some ⟨L.b2, 0, none⟩)] 36)).alloc (.cells #[.int .i64 kd, .int .i64 ax, .int .i64 x] 44)) :=
    ((Below.refl _ _).alloc (Nat.le_refl _) _).alloc (by rw [World.size_alloc]; omega) _
  exact ⟨h.next hb, heap_alloc2_old w _ _, heap_alloc2_new w _ _, h.lt, Upd.of_below hb⟩
theorem SAt.turn {w W V : World} {L : Lay} {kd ax x : Int} {F1 F2 X1 X2 G1 G2 Y1 Y2 : Con} (h : SAt w W L kd ax x F1 F2 X1 X2) (ht : Two V L G1 G2 Y1 Y2) (k : Upd L.l W V) : SAt w V L kd ax x G1 G2 Y1 Y2 := by
  have q : ∀ j, w.heap.size ≤ j → j ∉ L.l := fun j hj c => by have := h.lt j c; omega
  exact ⟨ht, (k.block _ (lt_of_heap h.b3) (q _ (Nat.le_refl _))).trans h.b3, (k.block _ (lt_of_heap h.b5) (q _ (by omega))).trans h.b5, h.lt, h.upd.trans k⟩
theorem SAt.next {w W V : World} {L : Lay} {kd ax x : Int} {F1 F2 X1 X2 : Con} (h : SAt w W L kd ax x F1 F2 X1 X2) (hb : Below W.heap.size W V) : SAt w V L kd ax x F1 F2 X1 X2 := h.turn (h.two.next hb) (Upd.of_below hb)
theorem SAt.one {w W V : World} {L : Lay} {kd ax x : Int} {F1 F2 X1 X2 G1 : Con} {l : List Nat} (h : SAt w W L kd ax x F1 F2 X1 X2) (hf1 : FeedAt V L.b1 L.c1 L.d1 L.n1 G1.U G1.N G1.k) (k : Upd l W V) (hl : ∀ i, i ∈ l → i ∈ [L.b1, L.c1, L.d1]) : SAt w V L kd ax x G1 F2 X1 X2 :=
  h.turn (h.two.one hf1 k hl) (k.more (fun i hi => L.six_l (by have := hl i hi; simp at this; simp [Lay.six]; omega)))
theorem SAt.two' {w W V : World} {L : Lay} {kd ax x : Int} {F1 F2 X1 X2 G2 : Con} {l : List Nat} (h : SAt w W L kd ax x F1 F2 X1 X2) (hf2 : FeedAt V L.b2 L.c2 L.d2 L.n2 G2.U G2.N G2.k) (k : Upd l W V) (hl : ∀ i, i ∈ l → i ∈ [L.b2, L.c2, L.d2]) : SAt w V L kd ax x F1 G2 X1 X2 :=
  h.turn (h.two.two hf2 k hl) (k.more (fun i hi => L.six_l (by have := hl i hi; simp at this; simp [Lay.six]; omega)))
theorem SAt.both {w W V : World} {L : Lay} {kd ax x : Int} {F1 F2 X1 X2 G1 G2 : Con} {l : List Nat} (h : SAt w W L kd ax x F1 F2 X1 X2) (hf1 : FeedAt V L.b1 L.c1 L.d1 L.n1 G1.U G1.N G1.k) (hf2 : FeedAt V L.b2 L.c2 L.d2 L.n2 G2.U G2.N G2.k) (k : Upd l W V) (hl : ∀ i, i ∈ l → i ∈ L.six) : SAt w V L kd ax x G1 G2 X1 X2 :=
  h.turn (h.two.feeds hf1 hf2 k hl) (k.more (fun i hi => L.six_l (hl i hi)))
theorem Apart.symm {b cu cn b2 cu2 cn2 : Nat} (d : Apart b cu cn b2 cu2 cn2) : Apart b2 cu2 cn2 b cu cn := by
  obtain ⟨h1, h2, h3, h4, h5, h6, h7, h8, h9⟩ := d.l
  exact ⟨h1.symm, h4.symm, h7.symm, h2.symm, h5.symm, h8.symm, h3.symm, h6.symm, h9.symm⟩
theorem SAt.put1 {w W : World} {L : Lay} {kd ax x : Int} {F1 F2 X1 X2 Y : Con} {a1 a2 : Option Addr} {e1 e2 : Nat} (h : SAt w W L kd ax x F1 F2 X1 X2) (hr : RefAt W L.l (.agg #[.slice a1 Y.U.length e1, .slice a2 Y.N.length e2, .int .i64 (L.n1 : Int), .bool Y.k]) Y.U Y.N L.n1 Y.k) :
    SAt w (W.setCells L.bx 0 [.slice a1 Y.U.length e1, .slice a2 Y.N.length e2, .int .i64 (L.n1 : Int), .bool Y.k]) L kd ax x F1 F2 Y X2 := h.turn (h.two.put1 hr) (h.two.bx_upd (upd_setCells4 ..)).2.2
theorem SAt.put2 {w W : World} {L : Lay} {kd ax x : Int} {F1 F2 X1 X2 Y : Con} {a3 a4 : Option Addr} {e3 e4 : Nat} (h : SAt w W L kd ax x F1 F2 X1 X2) (hr : RefAt W L.l (.agg #[.slice a3 Y.U.length e3, .slice a4 Y.N.length e4, .int .i64 (L.n2 : Int), .bool Y.k]) Y.U Y.N L.n2 Y.k) :
    SAt w (W.setCells L.bx 4 [.slice a3 Y.U.length e3, .slice a4 Y.N.length e4, .int .i64 (L.n2 : Int), .bool Y.k]) L kd ax x F1 F2 X1 Y := h.turn (h.two.put2 hr) (h.two.bx_upd (upd_setCells4 ..)).2.2
theorem SAt.shut1 {w W : World} {L : Lay} {kd ax x : Int} {F1 F2 X1 X2 : Con} (h : SAt w W L kd ax x F1 F2 X1 X2) : SAt w (W.setCell ⟨L.bx, 3, none⟩ (.bool true)) L kd ax x F1 F2 { X1 with k := true } X2 :=
  h.turn h.two.shut1 (h.two.bx_upd (upd_setCell W ⟨L.bx, 3, none⟩ (.bool true))).2.2
theorem SAt.shut2 {w W : World} {L : Lay} {kd ax x : Int} {F1 F2 X1 X2 : Con} (h : SAt w W L kd ax x F1 F2 X1 X2) : SAt w (W.setCell ⟨L.bx, 7, none⟩ (.bool true)) L kd ax x F1 F2 X1 { X2 with k := true } :=
  h.turn h.two.shut2 (h.two.bx_upd (upd_setCell W ⟨L.bx, 7, none⟩ (.bool true))).2.2
/-- The cells of the boxes. -/
def Bx (w : World) (L : Lay) (kd ax x : Int) (W : World) : Prop :=
  (W.cell? ⟨w.heap.size, 0, none⟩ = some (.pointer (some ⟨L.b1, 0, none⟩)) ∧ W.cell? ⟨w.heap.size, 1, none⟩ = some (.pointer (some ⟨L.b2, 0, none⟩))) ∧
  (W.cell? ⟨w.heap.size + 1, 0, none⟩ = some (.int .i64 kd) ∧ W.cell? ⟨w.heap.size + 1, 1, none⟩ = some (.int .i64 ax) ∧ W.cell? ⟨w.heap.size + 1, 2, none⟩ = some (.int .i64 x))
theorem SAt.box {w W : World} {L : Lay} {kd ax x : Int} {F1 F2 X1 X2 : Con} (h : SAt w W L kd ax x F1 F2 X1 X2) : Bx w L kd ax x W := by
  refine ⟨⟨?_, ?_⟩, ?_, ?_, ?_⟩ <;> (first | (rw [cell_of_row _ _ _ _ _ _ h.b3]; rfl) | (rw [cell_of_row _ _ _ _ _ _ h.b5]; rfl))

/-! The calls, told of what the feeds hold. -/
def pushC (n : Nat) (F : Con) (u : Bool) (x : Int) : Con := ⟨pushU n F.U F.k u x, pushN n F.N F.k u x, F.k⟩
def popC (F : Con) : Con := ⟨F.U.tail, popN F.U F.N, F.k⟩

end Go.Proofs.Ytlomjckmclefeaa

