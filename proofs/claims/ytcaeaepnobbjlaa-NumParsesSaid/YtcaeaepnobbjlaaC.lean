import Derived.Test.YtcaeaepnobbjlaaB
namespace Go.Proofs.Ytcaeaepnobbjlaa
set_option linter.unusedVariables false
set_option linter.unusedSimpArgs false
open Go.RowKit

/-- A row of 128 words as the document's Bits has it. -/
def bitsA (f : Nat → Nat) : Array Value := ((List.range 128).map fun i => .int .u64 (f i : Int)).toArray
def zrow : Array Value := Array.replicate 128 (.int .u64 0)
theorem bitsA_size (f : Nat → Nat) : (bitsA f).size = 128 := by simp [bitsA]
theorem bitsA_get? (f : Nat → Nat) (i : Nat) (h : i < 128) : (bitsA f)[i]? = some (.int .u64 (f i : Int)) := by simp [bitsA, h]
theorem bitsA_get (f : Nat → Nat) (i : Nat) (h : i < (bitsA f).size) : (bitsA f)[i] = .int .u64 (f i : Int) := by simp [bitsA]
theorem bitsA_one (f : Nat → Nat) : (bitsA f).all (·.oneCell') = true := by
  rw [Array.all_eq_true]
  intro i h
  rw [bitsA_get]; rfl
theorem bitsA_congr {f g : Nat → Nat} (h : ∀ j, j < 128 → f j = g j) : bitsA f = bitsA g := by
  apply Array.ext
  · rw [bitsA_size, bitsA_size]
  · intro i h1 h2
    rw [bitsA_get, bitsA_get, h i (by rw [bitsA_size] at h1; exact h1)]
theorem bitsA_zero : bitsA (fun _ => 0) = zrow := by
  apply Array.ext
  · simp [bitsA, zrow]
  · intro i h1 h2
    rw [bitsA_get]; simp [zrow]
def upd (f : Nat → Nat) (k v : Nat) : Nat → Nat := fun i => if i = k then v else f i
theorem bitsA_set (f : Nat → Nat) (k v : Nat) : (bitsA f).setIfInBounds k (.int .u64 (v : Int)) = bitsA (upd f k v) := by
  apply Array.ext
  · rw [Array.size_setIfInBounds, bitsA_size, bitsA_size]
  · intro i h1 h2
    rw [Array.getElem_setIfInBounds (by simpa using h1)]
    simp only [bitsA_get, upd]
    by_cases e : k = i
    · subst e; rw [if_pos rfl, if_pos rfl]
    · rw [if_neg e, if_neg (Ne.symm e)]

theorem below_setRow {B : Nat} {a w : World} (h : Below B a w) (g : Nat) (cs : Array Value) (hg : B ≤ g) : Below B a (w.setRow g cs) :=
  h.trans ⟨rfl, rfl, rfl, by simp, fun k hk => setRow_other w g k cs (by omega)⟩
theorem size_alloc (w : World) (c : Obj) : (w.alloc c).heap.size = w.heap.size + 1 := by
  show (w.heap.push c).size = _
  simp
theorem heap_alloc3_new (w : World) (A B C : Obj) : (((w.alloc A).alloc B).alloc C).heap[w.heap.size + 1 + 1]? = some C := by
  have h := heap_alloc_new ((w.alloc A).alloc B) C
  rwa [size_alloc, size_alloc] at h
theorem heap_alloc3_mid (w : World) (A B C : Obj) : (((w.alloc A).alloc B).alloc C).heap[w.heap.size + 1]? = some B := by
  rw [heap_alloc_old _ _ (by rw [size_alloc, size_alloc]; omega)]
  exact heap_alloc2_new w A B

/-- A number's bits, the greatest first. -/
def bitOf (n i : Nat) : Nat := n / 2 ^ (127 - i) % 2
theorem bitOf_le (n i : Nat) : bitOf n i ≤ 1 := by unfold bitOf; omega
/-- What Bits has after i rounds. -/
def stepF (h l i : Nat) : Nat → Nat := fun j => if j < 64 then (if 64 ≤ j + i then h / 2 ^ (63 - j) % 2 else 0) else (if 128 ≤ j + i then l / 2 ^ (127 - j) % 2 else 0)
theorem stepF_zero (h l : Nat) : bitsA (stepF h l 0) = zrow := by
  rw [← bitsA_zero]
  refine bitsA_congr fun j hj => ?_
  unfold stepF
  split
  · rw [if_neg (by omega)]
  · rw [if_neg (by omega)]
theorem stepF_succ (h l i p q : Nat) (hp : p + i = 63) (hq : q + i = 127) :
    bitsA (upd (upd (stepF h l i) p (h / 2 ^ i % 2)) q (l / 2 ^ i % 2)) = bitsA (stepF h l (i + 1)) := by
  refine bitsA_congr fun j hj => ?_
  unfold upd stepF
  by_cases e1 : j = q
  · rw [if_pos e1, if_neg (by omega), if_pos (by omega), show 127 - j = i by omega]
  · rw [if_neg e1]
    by_cases e2 : j = p
    · rw [if_pos e2, if_pos (by omega), if_pos (by omega), show 63 - j = i by omega]
    · rw [if_neg e2]
      by_cases h64 : j < 64
      · rw [if_pos h64, if_pos h64]
        by_cases c : 64 ≤ j + i
        · rw [if_pos c, if_pos (by omega)]
        · rw [if_neg c, if_neg (by omega)]
      · rw [if_neg h64, if_neg h64]
        by_cases c : 128 ≤ j + i
        · rw [if_pos c, if_pos (by omega)]
        · rw [if_neg c, if_neg (by omega)]
theorem M_pow : M = 2 ^ 64 := by decide
theorem stepF_all (h l : Nat) (hl : l < M) : bitsA (stepF h l 64) = bitsA (bitOf (h * M + l)) := by
  refine bitsA_congr fun j hj => ?_
  unfold stepF bitOf
  rw [M_pow] at *
  by_cases h64 : j < 64
  · rw [if_pos h64, if_pos (by omega), show 127 - j = 64 + (63 - j) by omega, Nat.pow_add, ← Nat.div_div_eq_div_mul, Nat.mul_comm h, Nat.mul_add_div (by decide), Nat.div_eq_of_lt hl, Nat.add_zero]
  · rw [if_neg h64, if_pos (by omega)]
    obtain ⟨k, hk⟩ : ∃ k, k + 1 + (127 - j) = 64 := ⟨j - 64, by omega⟩
    rw [← hk, Nat.pow_add, ← Nat.mul_assoc, Nat.mul_comm (h * _), Nat.mul_add_div (Nat.two_pow_pos _), Nat.pow_succ, ← Nat.mul_assoc]
    omega

theorem zero85 (w : World) : (zeroValue 85).run Try.prog w = .ok (.agg zrow) w := by kernel_rfl
theorem size85 : (Try.prog.info? 85).map (·.size) = some 128 := by kernel_rfl

set_option maxRecDepth 100000 in
set_option maxHeartbeats 800000 in
theorem bits_walk (h l : Nat) (hxM : ∀ k, h / 2 ^ k < M) (hyM : ∀ k, l / 2 ^ k < M) (w : World) :
    Calls Try.prog 70 #[wv h l] w fun e w' => e = .returned (.agg (bitsA (stepF h l 64))) ∧ Below w.heap.size w w' := by
  have hz := zero85
  obtain ⟨g, hg⟩ : ∃ g, g = stepF h l 64 := ⟨_, rfl⟩
  rw [← hg]
  have HG := Lib.hid hg
  clear hg
  simp only [M_eq] at hxM hyM
  have hxM := Lib.hid hxM
  have hyM := Lib.hid hyM
  go_enter Try.func70, Try.ntmps70
  go_wp2
  go_loopw [4] (fun i wr => ∃ k : Nat, k ≤ 64 ∧ i = .int .i64 k ∧ wr = ((w.alloc (.cells #[.int .u64 ((h / 2 ^ k : Nat) : Int), .int .u64 ((l / 2 ^ k : Nat) : Int)] 27)).alloc (.cells zrow 85)).alloc (.cells (bitsA (stepF h l k)) 85)) (fun i _ => (64 - intOf i).toNat)
  case atStart => 
    refine ⟨0, by omega, rfl, ?_⟩
    rw [stepF_zero, Nat.pow_zero, Nat.div_one, Nat.div_one]
  case round =>
    obtain ⟨k, hk, rfl, rfl⟩ := hrel
    by_cases hlt : k < 64
    · have hd : decide ((k : Int) < 64) = true := by simp; omega
      obtain ⟨p, hp⟩ : ∃ p, p + k = 63 := ⟨63 - k, by omega⟩
      obtain ⟨q, hq⟩ : ∃ q, q + k = 127 := ⟨127 - k, by omega⟩
      have w1 : IntKind.i64.wrap (63 - (k : Int)) = (p : Int) := by rw [IntKind.wrap_i64]; omega
      have w2 : IntKind.i64.wrap (127 - (k : Int)) = (q : Int) := by rw [IntKind.wrap_i64]; omega
      have hS := stepF_succ h l k p q hp hq
      obtain ⟨x, hx⟩ : ∃ x, x = h / 2 ^ k := ⟨_, rfl⟩
      obtain ⟨y, hy⟩ : ∃ y, y = l / 2 ^ k := ⟨_, rfl⟩
      have hX : h / 2 ^ (k + 1) = x / 2 := by rw [hx, Nat.pow_succ, Nat.div_div_eq_div_mul]
      have hY : l / 2 ^ (k + 1) = y / 2 := by rw [hy, Nat.pow_succ, Nat.div_div_eq_div_mul]
      rw [← hx, ← hy] at hS ⊢
      have t1 : (x : Int).tmod 2 = ((x % 2 : Nat) : Int) := rfl
      have t2 : (y : Int).tmod 2 = ((y % 2 : Nat) : Int) := rfl
      have d1 : (x : Int).tdiv 2 = ((x / 2 : Nat) : Int) := rfl
      have d2 : (y : Int).tdiv 2 = ((y / 2 : Nat) : Int) := rfl
      have bx : x / 2 < 18446744073709551616 := by have := hxM.out k; rw [← hx] at this; omega
      have by_ : y / 2 < 18446744073709551616 := by have := hyM.out k; rw [← hy] at this; omega
      have v1 := wrap_in (x / 2) bx
      have v2 := wrap_in (y / 2) by_
      have c1 := bitsA_get? (stepF h l k) p (by omega)
      have c2 := bitsA_get? (upd (stepF h l k) p (x % 2)) q (by omega)
      have s1 := bitsA_set (stepF h l k) p (x % 2)
      have s2 := bitsA_set (upd (stepF h l k) p (x % 2)) q (y % 2)
      have hS := Lib.hid hS
      have hX := Lib.hid hX
      have hY := Lib.hid hY
      have K1 : (p : Int) < 128 := by omega
      have K2 : (q : Int) < 128 := by omega
      clear hx hy hp hq bx by_ hxM hyM
      generalize x % 2 = xm at *
      generalize x / 2 = xd at *
      generalize y % 2 = ym at *
      generalize y / 2 = yd at *
      generalize upd (stepF h l k) p xm = f1 at *
      go_wp2
      go_roundw
      case rel => exact ⟨k + 1, by omega, by go_num, by rw [hX.out, hY.out]⟩
      case measure => simp [intOf]; omega
    · obtain rfl : k = 64 := by omega
      rw [← HG.out]
      generalize h / 2 ^ 64 = x at *
      generalize l / 2 ^ 64 = y at *
      go_wp2_with (first
        | (refine wpList_load_row rfl 85 _ rfl (w.heap.size + 1 + 1) rfl 85 (bitsA g) (0, 0) _ (heap_alloc3_new w _ _ _) Try.underlying85 rfl (size85.trans (by rw [bitsA_size])) ?_)
        | (refine wpList_store_row rfl 85 _ _ rfl (w.heap.size + 1) (bitsA g) rfl rfl 85 zrow (heap_alloc3_mid w _ _ _) (size85.trans (by rw [bitsA_size])) (by simp [zrow, bitsA_size]) (bitsA_one _) ?_))
      refine bodyPost_ret (results_cell_row rfl _ _ (w.heap.size + 1) 85 (bitsA g) (0, 0) _ rfl (setRow_heap _ _ _ _ 85 _ (heap_alloc3_mid w _ _ _)) Try.underlying85 rfl (size85.trans (by rw [bitsA_size]))) rfl ⟨rfl, ?_⟩
      exact below_setRow ((((Below.refl _ _).alloc (Nat.le_refl _) _).alloc (by simp) _).alloc (by simp; omega) _) _ _ (by simp)

theorem bits_any (n : Nat) (hn : n < MM) (w : World) :
    Calls Try.prog 70 #[W n] w fun e w' => e = .returned (.agg (bitsA (bitOf n))) ∧ Below w.heap.size w w' := by
  have hl : n % M < M := by rw [M_eq]; omega
  have hh : n / M < M := by rw [M_eq]; rw [MM_eq] at hn; omega
  have h := bits_walk (n / M) (n % M) (fun k => Nat.lt_of_le_of_lt (Nat.div_le_self _ _) hh) (fun k => Nat.lt_of_le_of_lt (Nat.div_le_self _ _) hl) w
  rw [stepF_all _ _ hl, Nat.div_add_mod'] at h
  exact h

end Go.Proofs.Ytcaeaepnobbjlaa
