import Derived.Test.YtbbanicjlfabgaaN
import Derived.Test.YtbbanicjlfabgaaRows
import Derived.Laws.MakeOwn
namespace Go.Proofs.Ytbbanicjlfabgaa
set_option linter.unusedVariables false
set_option linter.unusedSimpArgs false
open Go.RowKit

/-! Plain: the exclusive or of two texts. -/
def xorL (a b : List (BitVec 8)) (n : Nat) : List (BitVec 8) := (List.range n).map fun i => a.getD i 0#8 ^^^ b.getD i 0#8
theorem run8_xor (r s : BitVec 32) (c d : BitVec 8) : run8 (r ^^^ s) (c ^^^ d) = run8 r c ^^^ run8 s d := by
  rw [run8_eq, run8_eq, run8_eq, ← stpN_xor, BitVec.setWidth_xor]
  congr 1; ac_rfl
theorem runR_zip : ∀ (a b : List (BitVec 8)) (r s : BitVec 32), a.length = b.length → runR (r ^^^ s) (List.zipWith (· ^^^ ·) a b) = runR r a ^^^ runR s b
  | [], [], r, s, _ => rfl
  | c :: a, d :: b, r, s, h => by
    show runR (run8 (r ^^^ s) (c ^^^ d)) _ = runR (run8 r c) a ^^^ runR (run8 s d) b
    rw [run8_xor, ← runR_zip a b _ _ (by simpa using h)]
theorem xorL_zip (a b : List (BitVec 8)) (n : Nat) (ha : n ≤ a.length) (hb : n ≤ b.length) : xorL a b n = List.zipWith (· ^^^ ·) (a.take n) (b.take n) := by
  apply List.ext_getElem
  · simp [xorL]; omega
  · intro i h1 h2
    simp only [xorL, List.length_map, List.length_range] at h1
    simp [xorL, List.getElem?_eq_getElem (show i < a.length by omega), List.getElem?_eq_getElem (show i < b.length by omega)]
theorem zip_zero (l : List (BitVec 8)) : List.zipWith (· ^^^ ·) l (List.replicate l.length 0#8) = l := by
  induction l with
  | nil => rfl
  | cons c l ih => simp [List.replicate_succ, ih]
theorem even_law (a b : List (BitVec 8)) (n : Nat) (ha : n ≤ a.length) (hb : n ≤ b.length) :
    refSum (xorL a b n) = (refSum (a.take n) ^^^ refSum (b.take n)) ^^^ refSum (List.replicate n 0#8) := by
  have hl : (a.take n).length = (b.take n).length := by rw [List.length_take, List.length_take]; omega
  have hx : xorL a b n = List.zipWith (· ^^^ ·) (List.zipWith (· ^^^ ·) (a.take n) (b.take n)) (List.replicate n 0#8) := by
    rw [xorL_zip a b n ha hb]
    have h := zip_zero (List.zipWith (· ^^^ ·) (a.take n) (b.take n))
    have h2 : (List.zipWith (· ^^^ ·) (a.take n) (b.take n)).length = n := by simp; omega
    rw [h2] at h
    exact h.symm
  have h3 : runR (~~~ 0#32) (xorL a b n) = (runR (~~~ 0#32) (a.take n) ^^^ runR (~~~ 0#32) (b.take n)) ^^^ runR (~~~ 0#32) (List.replicate n 0#8) := by
    rw [hx, ← runR_zip _ _ _ _ hl, ← runR_zip _ _ _ _ (by simp; omega)]
    congr 1
  unfold refSum
  rw [h3]
  generalize runR (~~~ 0#32) (a.take n) = x
  generalize runR (~~~ 0#32) (b.take n) = y
  generalize runR (~~~ 0#32) (List.replicate n 0#8) = z
  rw [not_eq ((x ^^^ y) ^^^ z), not_eq x, not_eq y, not_eq z]
  generalize BitVec.allOnes 32 = v
  have : ((x ^^^ v) ^^^ (y ^^^ v)) ^^^ (z ^^^ v) = (((x ^^^ y) ^^^ z) ^^^ v) ^^^ (v ^^^ v) := by ac_rfl
  rw [this, BitVec.xor_self, BitVec.xor_zero]

/-! Bytes that the call made. -/
def zb (n : Nat) : Array Value := Array.replicate n (.int .u8 0)
def xorF (a b : List (BitVec 8)) (k i : Nat) : Value := if i < k then u8 (a.getD i 0#8 ^^^ b.getD i 0#8) else .int .u8 0
def xorK (a b : List (BitVec 8)) (n k : Nat) : Array Value := ((List.range n).map (xorF a b k)).toArray
theorem xorK_size (a b : List (BitVec 8)) (n k : Nat) : (xorK a b n k).size = n := by simp [xorK]
theorem xorK_get? (a b : List (BitVec 8)) (n k i : Nat) (h : i < n) : (xorK a b n k)[i]? = some (xorF a b k i) := by simp [xorK, h]
theorem xorK_get (a b : List (BitVec 8)) (n k i : Nat) (h : i < (xorK a b n k).size) : (xorK a b n k)[i] = xorF a b k i := by simp [xorK]
theorem xorK_zero (a b : List (BitVec 8)) (n : Nat) : xorK a b n 0 = zb n := by
  apply Array.ext
  · simp [xorK, zb]
  · intro i h1 h2
    rw [xorK_get]; simp [zb, xorF]
theorem xorK_set (a b : List (BitVec 8)) (n k : Nat) : (xorK a b n k).setIfInBounds k (u8 (a.getD k 0#8 ^^^ b.getD k 0#8)) = xorK a b n (k + 1) := by
  apply Array.ext
  · rw [Array.size_setIfInBounds, xorK_size, xorK_size]
  · intro i h1 h2
    rw [Array.getElem_setIfInBounds, xorK_get]
    · by_cases e : k = i
      · subst e; rw [if_pos rfl, xorK_get, xorF, if_pos (by omega)]
      · rw [if_neg e, xorK_get]
        by_cases c : i < k
        · rw [xorF, xorF, if_pos c, if_pos (by omega)]
        · rw [xorF, xorF, if_neg c, if_neg (by omega)]
    · simpa using h1
theorem xorK_all (a b : List (BitVec 8)) (n : Nat) : xorK a b n n = ((xorL a b n).map u8).toArray := by
  apply Array.ext
  · simp [xorK, xorL]
  · intro i h1 h2
    rw [xorK_get, xorF, if_pos (by rw [xorK_size] at h1; exact h1)]
    simp [xorL]
/-- A row of bytes in a block of the call's own. -/
theorem sliceAt_row {w : World} {g t : Nat} {fr : Nat × Nat} (bs : List (BitVec 8)) (cap : Nat) (h : w.heap[g]? = some (.cells (bs.map u8).toArray t fr)) (hcap : bs.length ≤ cap) : SliceAt w (.slice (some ⟨g, 0, none⟩) bs.length cap) bs :=
  ⟨⟨_, cap, rfl, fun _ => ⟨g, 0, rfl, fun i hi => by rw [cell_of_row _ _ _ _ _ _ h]; simp [hi]⟩⟩, fun a n c e => by
    simp only [Value.slice.injEq] at e; omega⟩
theorem zb_map (n : Nat) : zb n = ((List.replicate n 0#8).map u8).toArray := by simp [zb]
theorem info5 : (Try.prog.info? 5).map (fun i => (i.zero, i.size, i.bytes)) = some (some (.int .u8 0), 1, 1) := by kernel_rfl
theorem make28 (n : Nat) (hn : n ≤ 140737488351232) (w : World) : (Instr.makeSlice 28 (.int .i64 n) (.int .i64 n)).run Try.prog w = .ok (.slice (some ⟨w.heap.size, 0, none⟩) n n) (w.alloc (.cells (zb n) 5)) := by
  obtain ⟨i0, hi, hz0, hz1, hz2⟩ := info_parts info5
  have h := run_make (P := Try.prog) w 28 5 i0 _ Try.underlying28 hi hz0 .i64 .i64 (n : Int) (n : Int) (by omega) (by omega) (by rw [hz2]; omega) (by omega)
  rw [h]
  have e : madeCells (Value.int .u8 0).cells (n * 1) = zb n := by
    apply Array.ext
    · simp [madeCells, zb]
    · intro i h1 h2
      simp [madeCells, zb, Value.cells]
      rw [Nat.mod_one]; rfl
  simp only [Int.toNat_natCast, hz1, e]
end Go.Proofs.Ytbbanicjlfabgaa
