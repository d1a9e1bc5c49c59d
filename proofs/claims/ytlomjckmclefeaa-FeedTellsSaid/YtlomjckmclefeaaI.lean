/- The feed: the document's Pop. -/
import Derived.Test.YtlomjckmclefeaaH
namespace Go.Proofs.Ytlomjckmclefeaa
set_option linter.unusedVariables false
set_option linter.unusedSimpArgs false
open Go.Conc Go.RowKit

set_option maxRecDepth 100000 in
theorem refpop_u1 (b off : Nat) (a2 : Option Addr) (l1 l2 c2 n : Nat) (x : Int) (cl : Bool) (w : World) (hc : w.cell? ⟨b, off, none⟩ = some (.int .i64 x)) :
    Calls Try.prog 20 #[.agg #[.slice (some ⟨b, off, none⟩) (l1 + 1) 1, .slice a2 l2 c2, .int .i64 (n : Int), .bool cl]] w fun e w' => e = .returned (.tuple #[.agg #[.slice (some ⟨b, off, none⟩) l1 0, .slice a2 l2 c2, .int .i64 (n : Int), .bool cl], .int .i64 x, .int .i64 0]) ∧ Below w.heap.size w w' := by
  have d1 : decide ((0 : Int) < ((l1 + 1 : Nat) : Int)) = true := decide_eq_true (by omega)
  go_enter Try.func20, Try.ntmps20
  go_wp2_with (first
    | (obtain ⟨w0, hw⟩ : ∃ w0, (w.alloc (.cells #[.slice (some ⟨b, off, none⟩) (l1 + 1) 1, .slice a2 l2 c2, .int .i64 (n : Int), .bool cl] 39)).alloc (.cells #[.slice none 0 0, .slice none 0 0, .int .i64 0, .bool false] 39) = w0 := ⟨_, rfl⟩
       rewrite [hw]
       have HB0 : Hid (RBox w w0 w.heap.size (w.heap.size + 1) (.slice (some ⟨b, off, none⟩) (l1 + 1) 1) (.slice a2 l2 c2) n cl) := by rewrite [← hw]; exact RBox.start w _ _ n cl
       obtain ⟨g0, g1, g2, g3, g4, g5⟩ := HB0.out.cells
       have cx : w0.cell? ⟨b, off, none⟩ = some (.int .i64 x) := by rw [← hc, HB0.out.below.cell (World.block_lt_of_cell? w _ hc)]
       clear hw)
    | (obtain ⟨w4, hw⟩ : ∃ w4, w0.setCell ⟨w.heap.size, 0, none⟩ (.slice (some ⟨b, off, none⟩) l1 0) = w4 := ⟨_, rfl⟩
       rewrite [hw]
       have HB4 : Hid (RBox w w4 w.heap.size (w.heap.size + 1) (.slice (some ⟨b, off, none⟩) l1 0) (.slice a2 l2 c2) n cl) := by rewrite [← hw]; exact HB0.out.set0 _
       clear hw g0 g1 g2 g3 g4 g5 HB0
       obtain ⟨g0, g1, g2, g3, g4, g5⟩ := HB4.out.cells)
    | (refine wpList_store_row rfl 39 _ _ rfl (w.heap.size + 1) #[.slice (some ⟨b, off, none⟩) l1 0, .slice a2 l2 c2, .int .i64 (n : Int), .bool cl] rfl rfl 39 z39 HB4.out.res size39 rfl (one4 ..) ?_
       obtain ⟨wz, hw⟩ : ∃ wz, w4.setRow (w.heap.size + 1) #[.slice (some ⟨b, off, none⟩) l1 0, .slice a2 l2 c2, .int .i64 (n : Int), .bool cl] = wz := ⟨_, rfl⟩
       rewrite [hw]
       have HZ : Hid (REnd w wz (w.heap.size + 1) (.slice (some ⟨b, off, none⟩) l1 0) (.slice a2 l2 c2) n cl) := by rewrite [← hw]; exact HB4.out.fin
       obtain ⟨z0, z1, z2, z3⟩ := HZ.out.cells
       clear hw))
  exact bodyPost_ret (v := .tuple #[.agg #[.slice (some ⟨b, off, none⟩) l1 0, .slice a2 l2 c2, .int .i64 (n : Int), .bool cl], .int .i64 x, .int .i64 0]) (by simp [results, Try.results20, go_sem, z0, z1, z2, z3]) rfl ⟨rfl, HZ.out.below⟩
set_option maxRecDepth 100000 in
theorem refpop_u2 (b off : Nat) (a2 : Option Addr) (c l1 l2 c2 n : Nat) (x : Int) (cl : Bool) (w : World) (hl : l1 ≤ c + 1) (hc : w.cell? ⟨b, off, none⟩ = some (.int .i64 x)) :
    Calls Try.prog 20 #[.agg #[.slice (some ⟨b, off, none⟩) (l1 + 1) (c + 2), .slice a2 l2 c2, .int .i64 (n : Int), .bool cl]] w fun e w' => e = .returned (.tuple #[.agg #[.slice (some ⟨b, off + 1, none⟩) l1 (c + 1), .slice a2 l2 c2, .int .i64 (n : Int), .bool cl], .int .i64 x, .int .i64 0]) ∧ Below w.heap.size w w' := by
  have d1 : decide ((0 : Int) < ((l1 + 1 : Nat) : Int)) = true := decide_eq_true (by omega)
  go_enter Try.func20, Try.ntmps20
  go_wp2_with (first
    | (obtain ⟨w0, hw⟩ : ∃ w0, (w.alloc (.cells #[.slice (some ⟨b, off, none⟩) (l1 + 1) (c + 2), .slice a2 l2 c2, .int .i64 (n : Int), .bool cl] 39)).alloc (.cells #[.slice none 0 0, .slice none 0 0, .int .i64 0, .bool false] 39) = w0 := ⟨_, rfl⟩
       rewrite [hw]
       have HB0 : Hid (RBox w w0 w.heap.size (w.heap.size + 1) (.slice (some ⟨b, off, none⟩) (l1 + 1) (c + 2)) (.slice a2 l2 c2) n cl) := by rewrite [← hw]; exact RBox.start w _ _ n cl
       obtain ⟨g0, g1, g2, g3, g4, g5⟩ := HB0.out.cells
       have cx : w0.cell? ⟨b, off, none⟩ = some (.int .i64 x) := by rw [← hc, HB0.out.below.cell (World.block_lt_of_cell? w _ hc)]
       clear hw)
    | (obtain ⟨w4, hw⟩ : ∃ w4, w0.setCell ⟨w.heap.size, 0, none⟩ (.slice (some ⟨b, off + 1, none⟩) l1 (c + 1)) = w4 := ⟨_, rfl⟩
       rewrite [hw]
       have HB4 : Hid (RBox w w4 w.heap.size (w.heap.size + 1) (.slice (some ⟨b, off + 1, none⟩) l1 (c + 1)) (.slice a2 l2 c2) n cl) := by rewrite [← hw]; exact HB0.out.set0 _
       clear hw g0 g1 g2 g3 g4 g5 HB0
       obtain ⟨g0, g1, g2, g3, g4, g5⟩ := HB4.out.cells)
    | (refine wpList_store_row rfl 39 _ _ rfl (w.heap.size + 1) #[.slice (some ⟨b, off + 1, none⟩) l1 (c + 1), .slice a2 l2 c2, .int .i64 (n : Int), .bool cl] rfl rfl 39 z39 HB4.out.res size39 rfl (one4 ..) ?_
       obtain ⟨wz, hw⟩ : ∃ wz, w4.setRow (w.heap.size + 1) #[.slice (some ⟨b, off + 1, none⟩) l1 (c + 1), .slice a2 l2 c2, .int .i64 (n : Int), .bool cl] = wz := ⟨_, rfl⟩
       rewrite [hw]
       have HZ : Hid (REnd w wz (w.heap.size + 1) (.slice (some ⟨b, off + 1, none⟩) l1 (c + 1)) (.slice a2 l2 c2) n cl) := by rewrite [← hw]; exact HB4.out.fin
       obtain ⟨z0, z1, z2, z3⟩ := HZ.out.cells
       clear hw))
  exact bodyPost_ret (v := .tuple #[.agg #[.slice (some ⟨b, off + 1, none⟩) l1 (c + 1), .slice a2 l2 c2, .int .i64 (n : Int), .bool cl], .int .i64 x, .int .i64 0]) (by simp [results, Try.results20, go_sem, z0, z1, z2, z3]) rfl ⟨rfl, HZ.out.below⟩
set_option maxRecDepth 100000 in
theorem refpop_n1 (b off : Nat) (a1 : Option Addr) (c1 l2 n : Nat) (x : Int) (cl : Bool) (w : World) (hc : w.cell? ⟨b, off, none⟩ = some (.int .i64 x)) :
    Calls Try.prog 20 #[.agg #[.slice a1 0 c1, .slice (some ⟨b, off, none⟩) (l2 + 1) 1, .int .i64 (n : Int), .bool cl]] w fun e w' => e = .returned (.tuple #[.agg #[.slice a1 0 c1, .slice (some ⟨b, off, none⟩) l2 0, .int .i64 (n : Int), .bool cl], .int .i64 x, .int .i64 0]) ∧ Below w.heap.size w w' := by
  have d1 : decide ((0 : Int) < ((l2 + 1 : Nat) : Int)) = true := decide_eq_true (by omega)
  go_enter Try.func20, Try.ntmps20
  go_wp2_with (first
    | (obtain ⟨w0, hw⟩ : ∃ w0, (w.alloc (.cells #[.slice a1 0 c1, .slice (some ⟨b, off, none⟩) (l2 + 1) 1, .int .i64 (n : Int), .bool cl] 39)).alloc (.cells #[.slice none 0 0, .slice none 0 0, .int .i64 0, .bool false] 39) = w0 := ⟨_, rfl⟩
       rewrite [hw]
       have HB0 : Hid (RBox w w0 w.heap.size (w.heap.size + 1) (.slice a1 0 c1) (.slice (some ⟨b, off, none⟩) (l2 + 1) 1) n cl) := by rewrite [← hw]; exact RBox.start w _ _ n cl
       obtain ⟨g0, g1, g2, g3, g4, g5⟩ := HB0.out.cells
       have cx : w0.cell? ⟨b, off, none⟩ = some (.int .i64 x) := by rw [← hc, HB0.out.below.cell (World.block_lt_of_cell? w _ hc)]
       clear hw)
    | (obtain ⟨w4, hw⟩ : ∃ w4, w0.setCell ⟨w.heap.size, 1, none⟩ (.slice (some ⟨b, off, none⟩) l2 0) = w4 := ⟨_, rfl⟩
       rewrite [hw]
       have HB4 : Hid (RBox w w4 w.heap.size (w.heap.size + 1) (.slice a1 0 c1) (.slice (some ⟨b, off, none⟩) l2 0) n cl) := by rewrite [← hw]; exact HB0.out.set1 _
       clear hw g0 g1 g2 g3 g4 g5 HB0
       obtain ⟨g0, g1, g2, g3, g4, g5⟩ := HB4.out.cells)
    | (refine wpList_store_row rfl 39 _ _ rfl (w.heap.size + 1) #[.slice a1 0 c1, .slice (some ⟨b, off, none⟩) l2 0, .int .i64 (n : Int), .bool cl] rfl rfl 39 z39 HB4.out.res size39 rfl (one4 ..) ?_
       obtain ⟨wz, hw⟩ : ∃ wz, w4.setRow (w.heap.size + 1) #[.slice a1 0 c1, .slice (some ⟨b, off, none⟩) l2 0, .int .i64 (n : Int), .bool cl] = wz := ⟨_, rfl⟩
       rewrite [hw]
       have HZ : Hid (REnd w wz (w.heap.size + 1) (.slice a1 0 c1) (.slice (some ⟨b, off, none⟩) l2 0) n cl) := by rewrite [← hw]; exact HB4.out.fin
       obtain ⟨z0, z1, z2, z3⟩ := HZ.out.cells
       clear hw))
  exact bodyPost_ret (v := .tuple #[.agg #[.slice a1 0 c1, .slice (some ⟨b, off, none⟩) l2 0, .int .i64 (n : Int), .bool cl], .int .i64 x, .int .i64 0]) (by simp [results, Try.results20, go_sem, z0, z1, z2, z3]) rfl ⟨rfl, HZ.out.below⟩
set_option maxRecDepth 100000 in
theorem refpop_n2 (b off : Nat) (a1 : Option Addr) (c1 c l2 n : Nat) (x : Int) (cl : Bool) (w : World) (hl : l2 ≤ c + 1) (hc : w.cell? ⟨b, off, none⟩ = some (.int .i64 x)) :
    Calls Try.prog 20 #[.agg #[.slice a1 0 c1, .slice (some ⟨b, off, none⟩) (l2 + 1) (c + 2), .int .i64 (n : Int), .bool cl]] w fun e w' => e = .returned (.tuple #[.agg #[.slice a1 0 c1, .slice (some ⟨b, off + 1, none⟩) l2 (c + 1), .int .i64 (n : Int), .bool cl], .int .i64 x, .int .i64 0]) ∧ Below w.heap.size w w' := by
  have d1 : decide ((0 : Int) < ((l2 + 1 : Nat) : Int)) = true := decide_eq_true (by omega)
  go_enter Try.func20, Try.ntmps20
  go_wp2_with (first
    | (obtain ⟨w0, hw⟩ : ∃ w0, (w.alloc (.cells #[.slice a1 0 c1, .slice (some ⟨b, off, none⟩) (l2 + 1) (c + 2), .int .i64 (n : Int), .bool cl] 39)).alloc (.cells #[.slice none 0 0, .slice none 0 0, .int .i64 0, .bool false] 39) = w0 := ⟨_, rfl⟩
       rewrite [hw]
       have HB0 : Hid (RBox w w0 w.heap.size (w.heap.size + 1) (.slice a1 0 c1) (.slice (some ⟨b, off, none⟩) (l2 + 1) (c + 2)) n cl) := by rewrite [← hw]; exact RBox.start w _ _ n cl
       obtain ⟨g0, g1, g2, g3, g4, g5⟩ := HB0.out.cells
       have cx : w0.cell? ⟨b, off, none⟩ = some (.int .i64 x) := by rw [← hc, HB0.out.below.cell (World.block_lt_of_cell? w _ hc)]
       clear hw)
    | (obtain ⟨w4, hw⟩ : ∃ w4, w0.setCell ⟨w.heap.size, 1, none⟩ (.slice (some ⟨b, off + 1, none⟩) l2 (c + 1)) = w4 := ⟨_, rfl⟩
       rewrite [hw]
       have HB4 : Hid (RBox w w4 w.heap.size (w.heap.size + 1) (.slice a1 0 c1) (.slice (some ⟨b, off + 1, none⟩) l2 (c + 1)) n cl) := by rewrite [← hw]; exact HB0.out.set1 _
       clear hw g0 g1 g2 g3 g4 g5 HB0
       obtain ⟨g0, g1, g2, g3, g4, g5⟩ := HB4.out.cells)
    | (refine wpList_store_row rfl 39 _ _ rfl (w.heap.size + 1) #[.slice a1 0 c1, .slice (some ⟨b, off + 1, none⟩) l2 (c + 1), .int .i64 (n : Int), .bool cl] rfl rfl 39 z39 HB4.out.res size39 rfl (one4 ..) ?_
       obtain ⟨wz, hw⟩ : ∃ wz, w4.setRow (w.heap.size + 1) #[.slice a1 0 c1, .slice (some ⟨b, off + 1, none⟩) l2 (c + 1), .int .i64 (n : Int), .bool cl] = wz := ⟨_, rfl⟩
       rewrite [hw]
       have HZ : Hid (REnd w wz (w.heap.size + 1) (.slice a1 0 c1) (.slice (some ⟨b, off + 1, none⟩) l2 (c + 1)) n cl) := by rewrite [← hw]; exact HB4.out.fin
       obtain ⟨z0, z1, z2, z3⟩ := HZ.out.cells
       clear hw))
  exact bodyPost_ret (v := .tuple #[.agg #[.slice a1 0 c1, .slice (some ⟨b, off + 1, none⟩) l2 (c + 1), .int .i64 (n : Int), .bool cl], .int .i64 x, .int .i64 0]) (by simp [results, Try.results20, go_sem, z0, z1, z2, z3]) rfl ⟨rfl, HZ.out.below⟩
set_option maxRecDepth 100000 in
theorem refpop_shut (a1 a2 : Option Addr) (c1 c2 n : Nat) (w : World) :
    Calls Try.prog 20 #[.agg #[.slice a1 0 c1, .slice a2 0 c2, .int .i64 (n : Int), .bool true]] w fun e w' => e = .returned (.tuple #[.agg #[.slice a1 0 c1, .slice a2 0 c2, .int .i64 (n : Int), .bool true], .int .i64 0, .int .i64 7]) ∧ Below w.heap.size w w' := by
  go_enter Try.func20, Try.ntmps20
  go_wp2_with (first
    | (obtain ⟨w0, hw⟩ : ∃ w0, (w.alloc (.cells #[.slice a1 0 c1, .slice a2 0 c2, .int .i64 (n : Int), .bool true] 39)).alloc (.cells #[.slice none 0 0, .slice none 0 0, .int .i64 0, .bool false] 39) = w0 := ⟨_, rfl⟩
       rewrite [hw]
       have HB0 : Hid (RBox w w0 w.heap.size (w.heap.size + 1) (.slice a1 0 c1) (.slice a2 0 c2) n true) := by rewrite [← hw]; exact RBox.start w _ _ n true
       obtain ⟨g0, g1, g2, g3, g4, g5⟩ := HB0.out.cells
       clear hw)
    | (refine wpList_store_row rfl 39 _ _ rfl (w.heap.size + 1) #[.slice a1 0 c1, .slice a2 0 c2, .int .i64 (n : Int), .bool true] rfl rfl 39 z39 HB0.out.res size39 rfl (one4 ..) ?_
       obtain ⟨wz, hw⟩ : ∃ wz, w0.setRow (w.heap.size + 1) #[.slice a1 0 c1, .slice a2 0 c2, .int .i64 (n : Int), .bool true] = wz := ⟨_, rfl⟩
       rewrite [hw]
       have HZ : Hid (REnd w wz (w.heap.size + 1) (.slice a1 0 c1) (.slice a2 0 c2) n true) := by rewrite [← hw]; exact HB0.out.fin
       obtain ⟨z0, z1, z2, z3⟩ := HZ.out.cells
       clear hw))
  exact bodyPost_ret (v := .tuple #[.agg #[.slice a1 0 c1, .slice a2 0 c2, .int .i64 (n : Int), .bool true], .int .i64 0, .int .i64 7]) (by simp [results, Try.results20, go_sem, z0, z1, z2, z3]) rfl ⟨rfl, HZ.out.below⟩
set_option maxRecDepth 100000 in
theorem refpop_none (a1 a2 : Option Addr) (c1 c2 n : Nat) (w : World) :
    Calls Try.prog 20 #[.agg #[.slice a1 0 c1, .slice a2 0 c2, .int .i64 (n : Int), .bool false]] w fun e w' => e = .returned (.tuple #[.agg #[.slice a1 0 c1, .slice a2 0 c2, .int .i64 (n : Int), .bool false], .int .i64 0, .int .i64 4]) ∧ Below w.heap.size w w' := by
  go_enter Try.func20, Try.ntmps20
  go_wp2_with (first
    | (obtain ⟨w0, hw⟩ : ∃ w0, (w.alloc (.cells #[.slice a1 0 c1, .slice a2 0 c2, .int .i64 (n : Int), .bool false] 39)).alloc (.cells #[.slice none 0 0, .slice none 0 0, .int .i64 0, .bool false] 39) = w0 := ⟨_, rfl⟩
       rewrite [hw]
       have HB0 : Hid (RBox w w0 w.heap.size (w.heap.size + 1) (.slice a1 0 c1) (.slice a2 0 c2) n false) := by rewrite [← hw]; exact RBox.start w _ _ n false
       obtain ⟨g0, g1, g2, g3, g4, g5⟩ := HB0.out.cells
       clear hw)
    | (refine wpList_store_row rfl 39 _ _ rfl (w.heap.size + 1) #[.slice a1 0 c1, .slice a2 0 c2, .int .i64 (n : Int), .bool false] rfl rfl 39 z39 HB0.out.res size39 rfl (one4 ..) ?_
       obtain ⟨wz, hw⟩ : ∃ wz, w0.setRow (w.heap.size + 1) #[.slice a1 0 c1, .slice a2 0 c2, .int .i64 (n : Int), .bool false] = wz := ⟨_, rfl⟩
       rewrite [hw]
       have HZ : Hid (REnd w wz (w.heap.size + 1) (.slice a1 0 c1) (.slice a2 0 c2) n false) := by rewrite [← hw]; exact HB0.out.fin
       obtain ⟨z0, z1, z2, z3⟩ := HZ.out.cells
       clear hw))
  exact bodyPost_ret (v := .tuple #[.agg #[.slice a1 0 c1, .slice a2 0 c2, .int .i64 (n : Int), .bool false], .int .i64 0, .int .i64 4]) (by simp [results, Try.results20, go_sem, z0, z1, z2, z3]) rfl ⟨rfl, HZ.out.below⟩

/-- What is left behind the first. -/
theorem RowAt.tail1 {w : World} {l : List Nat} {b off : Nat} {x : Int} {L : List Int} (h : RowAt w l (some ⟨b, off, none⟩) 1 (x :: L)) : RowAt w l (some ⟨b, off, none⟩) 0 L := by
  have := h.le
  obtain rfl : L = [] := List.eq_nil_of_length_eq_zero (by simp at this; simp [this])
  exact ⟨Nat.le_refl _, Or.inr ⟨b, off, rfl, fun e => absurd rfl e, fun i hi => by simp at hi⟩⟩
theorem RowAt.tail2 {w : World} {l : List Nat} {b off c : Nat} {x : Int} {L : List Int} (h : RowAt w l (some ⟨b, off, none⟩) (c + 2) (x :: L)) : RowAt w l (some ⟨b, off + 1, none⟩) (c + 1) L := by
  have hle := h.le
  rcases h.form with ⟨h1, -, -⟩ | ⟨b', off', he, hd, hc⟩
  · cases h1
  · simp only [Option.some.injEq, Addr.mk.injEq, and_true] at he
    obtain ⟨rfl, rfl⟩ := he
    refine ⟨by simp at hle; omega, Or.inr ⟨b, off + 1, rfl, fun _ => hd (by simp), fun i hi => ?_⟩⟩
    have := hc (i + 1) (by simp; omega)
    rw [show off + 1 + i = off + (i + 1) by omega]
    simpa using this
theorem RowAt.head {w : World} {l : List Nat} {a : Option Addr} {c : Nat} {x : Int} {L : List Int} (h : RowAt w l a c (x :: L)) : ∃ b off, a = some ⟨b, off, none⟩ ∧ w.cell? ⟨b, off, none⟩ = some (.int .i64 x) ∧ (c = 1 ∨ ∃ k, c = k + 2) := by
  have hle := h.le
  rcases h.form with ⟨-, h2, -⟩ | ⟨b, off, rfl, -, hc⟩
  · cases h2
  · refine ⟨b, off, rfl, hc 0 (by simp), ?_⟩
    simp at hle
    by_cases e : c = 1
    · exact Or.inl e
    · exact Or.inr ⟨c - 2, by omega⟩

/-- The document's Pop: its contract. -/
theorem refpop_any (v : Value) (U N : List Int) (n : Nat) (cl : Bool) (w : World) (l : List Nat) (h : RefAt w l v U N n cl) :
    Calls Try.prog 20 #[v] w fun e w' => ∃ v', e = .returned (.tuple #[v', .int .i64 (popX U N), .int .i64 (popE U N cl)]) ∧ RefAt w' l v' U.tail (popN U N) n cl ∧ Below w.heap.size w w' := by
  obtain ⟨a1, c1, a2, c2, rfl, h1, h2⟩ := h.form
  cases U with
  | cons x L =>
    obtain ⟨b, off, rfl, hc, rfl | ⟨k, rfl⟩⟩ := h1.head
    · refine (refpop_u1 b off a2 L.length N.length c2 n x cl w hc).mono ?_
      rintro e w' ⟨rfl, hb⟩
      exact ⟨_, rfl, ⟨_, _, _, _, rfl, h1.tail1.below hb, h2.below hb⟩, hb⟩
    · refine (refpop_u2 b off a2 k L.length N.length c2 n x cl w (by have := h1.le; simp at this; omega) hc).mono ?_
      rintro e w' ⟨rfl, hb⟩
      exact ⟨_, rfl, ⟨_, _, _, _, rfl, h1.tail2.below hb, h2.below hb⟩, hb⟩
  | nil =>
    cases N with
    | cons x L =>
      obtain ⟨b, off, rfl, hc, rfl | ⟨k, rfl⟩⟩ := h2.head
      · refine (refpop_n1 b off a1 c1 L.length n x cl w hc).mono ?_
        rintro e w' ⟨rfl, hb⟩
        exact ⟨_, rfl, ⟨_, _, _, _, rfl, h1.below hb, h2.tail1.below hb⟩, hb⟩
      · refine (refpop_n2 b off a1 c1 k L.length n x cl w (by have := h2.le; simp at this; omega) hc).mono ?_
        rintro e w' ⟨rfl, hb⟩
        exact ⟨_, rfl, ⟨_, _, _, _, rfl, h1.below hb, h2.tail2.below hb⟩, hb⟩
    | nil =>
      cases cl with
      | true =>
        refine (refpop_shut a1 a2 c1 c2 n w).mono ?_
        rintro e w' ⟨rfl, hb⟩
        exact ⟨_, rfl, ⟨_, _, _, _, rfl, h1.below hb, h2.below hb⟩, hb⟩
      | false =>
        refine (refpop_none a1 a2 c1 c2 n w).mono ?_
        rintro e w' ⟨rfl, hb⟩
        exact ⟨_, rfl, ⟨_, _, _, _, rfl, h1.below hb, h2.below hb⟩, hb⟩

/-- The document's Push: its contract. -/
theorem refpush_any (v : Value) (U N : List Int) (n : Nat) (cl : Bool) (x : Int) (u : Bool) (hn : n ≤ 256) (w : World) (l : List Nat) (hl0 : ∀ k, k ∈ l → k < w.heap.size) (h : RefAt w l v U N n cl) :
    Calls Try.prog 19 #[v, .int .i64 x, .bool u] w fun e w' => ∃ v', e = .returned (.tuple #[v', .int .i64 (pushE n U N cl u)]) ∧ RefAt w' l v' (pushU n U cl u x) (pushN n N cl u x) n cl ∧ Below w.heap.size w w' := by
  obtain ⟨a1, c1, a2, c2, rfl, h1, h2⟩ := h.form
  cases cl with
  | true => exact refpush_shut a1 a2 c1 c2 n U N x u w l hl0 h1 h2
  | false =>
    cases u with
    | true =>
      by_cases hl : U.length < n
      · rw [show pushE n U N false true = 0 by simp [pushE, hl], show pushU n U false true x = U ++ [x] by simp [pushU, hl], show pushN n N false true x = N by simp [pushN]]
        exact refpush_u a1 a2 c1 c2 n U N x w l hl0 h1 h2 hl hn
      · rw [show pushE n U N false true = 5 by simp [pushE, hl], show pushU n U false true x = U by simp [pushU, hl], show pushN n N false true x = N by simp [pushN]]
        exact refpush_fullu a1 a2 c1 c2 n U N x w l hl0 h1 h2 hl
    | false =>
      by_cases hl : N.length < n
      · rw [show pushE n U N false false = 0 by simp [pushE, hl], show pushU n U false false x = U by simp [pushU, hl], show pushN n N false false x = N ++ [x] by simp [pushN, hl]]
        exact refpush_n a1 a2 c1 c2 n U N x w l hl0 h1 h2 hl hn
      · rw [show pushE n U N false false = 5 by simp [pushE, hl], show pushU n U false false x = U by simp [pushU], show pushN n N false false x = N by simp [pushN, hl]]
        exact refpush_fulln a1 a2 c1 c2 n U N x w l hl0 h1 h2 hl

end Go.Proofs.Ytlomjckmclefeaa

