import Derived.Test.YtcaeaepnobbjlaaC
namespace Go.Proofs.Ytcaeaepnobbjlaa
set_option linter.unusedVariables false
set_option linter.unusedSimpArgs false
open Go.RowKit

/-- The number of the first k digits to the base 2. -/
def numOf (f : Nat → Nat) : Nat → Nat
  | 0 => 0
  | k + 1 => 2 * numOf f k + f k
theorem numOf_lt (f : Nat → Nat) (hf : ∀ i, f i ≤ 1) : ∀ k, numOf f k < 2 ^ k
  | 0 => by simp [numOf]
  | k + 1 => by
    have := numOf_lt f hf k
    have := hf k
    rw [numOf, Nat.pow_succ]; omega
theorem numOf_add (f : Nat → Nat) (a : Nat) : ∀ k, numOf f (a + k) = numOf f a * 2 ^ k + numOf (fun i => f (a + i)) k
  | 0 => by simp [numOf]
  | k + 1 => by
    rw [← Nat.add_assoc, numOf, numOf, numOf_add f a k, Nat.pow_succ, ← Nat.mul_assoc]; omega
theorem numOf_bits (n : Nat) : ∀ k, k ≤ 128 → numOf (bitOf n) k = n / 2 ^ (128 - k) % 2 ^ k
  | 0, _ => by simp [numOf, Nat.mod_one]
  | k + 1, h => by
    rw [numOf, numOf_bits n k (by omega), bitOf, show 128 - k = 127 - k + 1 by omega, show 128 - (k + 1) = 127 - k by omega, Nat.pow_succ 2 (127 - k), ← Nat.div_div_eq_div_mul]
    generalize n / 2 ^ (127 - k) = m
    rw [Nat.pow_succ, Nat.mul_comm (2 ^ k) 2, Nat.mod_mul, Nat.add_comm]
theorem numOf_whole (n : Nat) (hn : n < MM) : numOf (bitOf n) 128 = n := by
  rw [numOf_bits n 128 (Nat.le_refl _), Nat.sub_self, Nat.pow_zero, Nat.div_one, Nat.mod_eq_of_lt]
  rw [MM_eq] at hn; exact Nat.lt_of_lt_of_le hn (by decide)

structure OfI (w wr : World) (f : Nat → Nat) (x y : Nat) : Prop where
  below : Below w.heap.size w wr
  size : w.heap.size + 3 ≤ wr.heap.size
  g0 : wr.heap[w.heap.size]? = some (.cells (bitsA f) 85 (0, 0))
  g1 : wr.heap[w.heap.size + 1]? = some (.cells #[.int .u64 0, .int .u64 0] 27 (0, 0))
  g2 : wr.heap[w.heap.size + 1 + 1]? = some (.cells #[.int .u64 x, .int .u64 y] 27 (0, 0))
theorem OfI.drew {w wr : World} {f : Nat → Nat} {x y : Nat} (h : OfI w wr f x y) : OfI w wr.drew f x y := ⟨h.below.drew, h.size, h.g0, h.g1, h.g2⟩
theorem OfI.next {w wr w1 : World} {f : Nat → Nat} {x y : Nat} (h : OfI w wr f x y) (hb : Below wr.heap.size wr w1) : OfI w w1 f x y := by
  have hs := h.size
  have hs1 := hb.size
  exact ⟨h.below.trans (hb.mono (by omega)), by omega, by rw [hb.block _ (by omega)]; exact h.g0, by rw [hb.block _ (by omega)]; exact h.g1, by rw [hb.block _ (by omega)]; exact h.g2⟩
theorem OfI.store (i : Nat) {w wr : World} {f : Nat → Nat} {x y : Nat} (v : Value) (x' y' : Nat) (hv : #[Value.int .u64 x, .int .u64 y].setIfInBounds i v = #[.int .u64 x', .int .u64 y']) (h : OfI w wr f x y) : OfI w (wr.setCell ⟨w.heap.size + 1 + 1, i, none⟩ v) f x' y' := by
  have hs := h.size
  refine ⟨h.below.setCell (by simp; omega) _, by simp [World.setCell]; omega, ?_, ?_, ?_⟩
  · rw [heap_setCell_other _ _ _ _ (by simp; omega)]; exact h.g0
  · rw [heap_setCell_other _ _ _ _ (by simp)]; exact h.g1
  · rw [← hv]; exact heap_setCell_same _ _ _ _ _ _ h.g2
theorem OfI.cells {w wr : World} {f : Nat → Nat} {x y : Nat} (h : OfI w wr f x y) :
    (wr.cell? ⟨w.heap.size + 1 + 1, 0, none⟩ = some (.int .u64 x) ∧ wr.cell? ⟨w.heap.size + 1 + 1, 1, none⟩ = some (.int .u64 y)) ∧
    (wr.frozen? ⟨w.heap.size + 1 + 1, 0, none⟩ = false ∧ wr.frozen? ⟨w.heap.size + 1 + 1, 1, none⟩ = false) ∧
    ∀ j, j < 128 → wr.cell? ⟨w.heap.size, j, none⟩ = some (.int .u64 (f j)) :=
  ⟨two_cells h.g2, ⟨frozen_of_row _ _ _ _ _ h.g2, frozen_of_row _ _ _ _ _ h.g2⟩, fun j hj => by rw [cell_of_row _ _ _ _ _ _ h.g0]; exact bitsA_get? f j hj⟩

theorem pair_set {w : World} {b : Nat} {p q : Value} {t : TypeId} (h : w.heap[b]? = some (.cells #[p, q] t)) (x y : Value) :
    ((w.setCell ⟨b, 0, none⟩ x).setCell ⟨b, 1, none⟩ y).heap[b]? = some (.cells #[x, y] t) :=
  heap_setCell_same _ _ _ _ _ _ (heap_setCell_same _ _ _ _ _ _ h)

set_option maxRecDepth 100000 in
set_option maxHeartbeats 800000 in
theorem of_walk (f : Nat → Nat) (hf : ∀ i, f i ≤ 1) (w : World) :
    Calls Try.prog 71 #[.agg (bitsA f)] w fun e w' => e = .returned (wv (numOf f 64) (numOf (fun i => f (64 + i)) 64)) ∧ Below w.heap.size w w' := by
  have HF := Lib.hid hf
  clear hf
  obtain ⟨X, hX⟩ : ∃ X, X = numOf f 64 := ⟨_, rfl⟩
  obtain ⟨Y, hY⟩ : ∃ Y, Y = numOf (fun i => f (64 + i)) 64 := ⟨_, rfl⟩
  rw [← hX, ← hY]
  have HX := Lib.hid hX
  have HY := Lib.hid hY
  clear hX hY
  go_enter Try.func71, Try.ntmps71
  go_wp2
  go_loopw [4] (fun i wr => ∃ k : Nat, k ≤ 64 ∧ i = .int .i64 k ∧ OfI w wr f (numOf f k) (numOf (fun i => f (64 + i)) k)) (fun i _ => (64 - intOf i).toNat)
  case atStart => 
    refine ⟨0, by omega, rfl, (((Below.refl _ _).alloc (Nat.le_refl _) _).alloc (by simp) _).alloc (by simp; omega) _, by simp, ?_, heap_alloc3_mid _ _ _ _, heap_alloc3_new _ _ _ _⟩
    rw [heap_alloc_old _ _ (by rw [size_alloc, size_alloc]; omega)]
    exact heap_alloc2_old _ _ _
  case round =>
    obtain ⟨k, hk, rfl, hI⟩ := hrel
    by_cases hlt : k < 64
    · have hd : decide ((k : Int) < 64) = true := by simp; omega
      obtain ⟨⟨c0, c1⟩, ⟨z0, z1⟩, ca⟩ := hI.cells
      have a0 := ca k (by omega)
      have a1 := ca (64 + k) (by omega)
      have w1 : IntKind.i64.wrap (64 + (k : Int)) = ((64 + k : Nat) : Int) := by rw [IntKind.wrap_i64]; omega
      have hx := numOf_lt f HF.out k
      have hy := numOf_lt (fun i => f (64 + i)) (fun i => HF.out _) k
      have h2 : 2 ^ (k + 1) ≤ 2 ^ 64 := Nat.pow_le_pow_right (by decide) (by omega)
      have hS1 : numOf f (k + 1) = 2 * numOf f k + f k := rfl
      have hS2 : numOf (fun i => f (64 + i)) (k + 1) = 2 * numOf (fun i => f (64 + i)) k + f (64 + k) := rfl
      have u1 : IntKind.u64.wrap (IntKind.u64.wrap (2 * (numOf f k : Int)) + f k) = ((numOf f (k + 1) : Nat) : Int) := by
        rw [IntKind.wrap_u64, IntKind.wrap_u64, hS1]; have := HF.out k; omega
      have u2 : IntKind.u64.wrap (IntKind.u64.wrap (2 * (numOf (fun i => f (64 + i)) k : Int)) + f (64 + k)) = ((numOf (fun i => f (64 + i)) (k + 1) : Nat) : Int) := by
        rw [IntKind.wrap_u64, IntKind.wrap_u64, hS2]; have := HF.out (64 + k); omega
      have HI := Lib.hid hI
      have K1 : (k : Int) < 128 := by omega
      have K2 : ((64 + k : Nat) : Int) < 128 := by omega
      clear hI ca hx hy h2 hS1 hS2
      generalize numOf f k = x at *
      generalize numOf (fun i => f (64 + i)) k = y at *
      generalize hx1 : numOf f (k + 1) = x1 at *
      generalize hy1 : numOf (fun i => f (64 + i)) (k + 1) = y1 at *
      have HX1 := Lib.hid hx1
      have HY1 := Lib.hid hy1
      clear hx1 hy1
      generalize f k = p at *
      generalize f (64 + k) = q at *
      go_wp2_with fail
      go_region
      go_wp2_with fail
      go_region
      go_wp2
      go_roundw
      case rel => exact ⟨k + 1, by omega, by go_num, by rw [HX1.out, HY1.out]; exact (((HI.out.store 0 _ x1 y rfl).store 1 _ x1 y1 rfl).drew).drew⟩
      case measure => simp [intOf]; omega
    · obtain rfl : k = 64 := by omega
      rw [← HX.out, ← HY.out] at hI
      obtain ⟨⟨c0, c1⟩, -, -⟩ := hI.cells
      have z := two_cells hI.g1
      have zf := frozen_of_row _ _ 0 _ _ hI.g1
      have zf1 := frozen_of_row _ _ 1 _ _ hI.g1
      obtain ⟨zc0, zc1⟩ := z
      have HI := Lib.hid hI
      clear hI
      go_wp2
      have hB := (HI.out.below.setCell (p := ⟨w.heap.size + 1, 0, none⟩) (by simp) (.int .u64 X)).setCell (p := ⟨w.heap.size + 1, 1, none⟩) (by simp) (.int .u64 Y)
      obtain ⟨r0, r1⟩ := two_cells (pair_set HI.out.g1 (.int .u64 X) (.int .u64 Y))
      generalize (wr.setCell ⟨w.heap.size + 1, 0, none⟩ (.int .u64 X)).setCell ⟨w.heap.size + 1, 1, none⟩ (.int .u64 Y) = W1 at *
      exact bodyPost_ret (v := wv X Y) (by simp [results, Try.results71, go_sem, r0, r1]) rfl ⟨rfl, hB⟩

theorem of_bits (f : Nat → Nat) (hf : ∀ i, f i ≤ 1) (w : World) :
    Calls Try.prog 71 #[.agg (bitsA f)] w fun e w' => e = .returned (W (numOf f 128)) ∧ Below w.heap.size w w' := by
  have h := of_walk f hf w
  rw [wv_W _ _ (by rw [M_pow]; exact numOf_lt _ (fun i => hf _) 64), M_pow, ← numOf_add f 64 64] at h
  exact h

end Go.Proofs.Ytcaeaepnobbjlaa
