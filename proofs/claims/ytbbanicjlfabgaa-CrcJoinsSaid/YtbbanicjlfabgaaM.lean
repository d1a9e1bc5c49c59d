import Derived.WalkKit
import Derived.Lib.Hide
namespace Go.Proofs.Ytbbanicjlfabgaa
set_option linter.unusedVariables false
set_option linter.unusedSimpArgs false
open Go.RowKit

def poly : BitVec 32 := 3988292384#32
/-- One step of the register with a bit 0. -/
def stp (r : BitVec 32) : BitVec 32 := if r.toNat % 2 = 1 then (r >>> 1) ^^^ poly else r >>> 1

def stpN : Nat → BitVec 32 → BitVec 32
  | 0, r => r
  | n + 1, r => stpN n (stp r)
theorem stpN_zero (r : BitVec 32) : stpN 0 r = r := rfl
theorem stpN_succ (n : Nat) (r : BitVec 32) : stpN (n + 1) r = stpN n (stp r) := rfl

/-- A register as Go's number. -/
abbrev u32 (r : BitVec 32) : Value := .int .u32 (r.toNat : Int)

theorem wrap_nat32 (x : BitVec 32) : IntKind.u32.wrap (x.toNat : Int) = (x.toNat : Int) := by
  have := x.isLt
  rw [IntKind.wrap_u32]; omega

theorem bits_xor32 (a b : BitVec 32) : bits .xor .u32 (a.toNat : Int) (b.toNat : Int) = ((a ^^^ b).toNat : Int) := by
  unfold bits
  simp only [IntKind.bits, BitVec.ofInt_natCast, BitVec.ofNat_toNat, BitVec.setWidth_eq]
  exact wrap_nat32 _

theorem bits_and32 (a b : BitVec 32) : bits .and .u32 (a.toNat : Int) (b.toNat : Int) = ((a &&& b).toNat : Int) := by
  unfold bits
  simp only [IntKind.bits, BitVec.ofInt_natCast, BitVec.ofNat_toNat, BitVec.setWidth_eq]
  exact wrap_nat32 _

theorem and1_u32 (a : BitVec 32) : bits .and .u32 (a.toNat : Int) 1 = ((a.toNat % 2 : Nat) : Int) := by
  have h := bits_and32 a 1#32
  have e : (a &&& 1#32).toNat = a.toNat % 2 := by
    rw [BitVec.toNat_and]
    exact Nat.and_one_is_mod _
  rw [e] at h; exact h

theorem shr_u32 (a : BitVec 32) (n : Nat) : (a.toNat : Int) / 2 ^ n = ((a >>> n).toNat : Int) := by
  rw [BitVec.toNat_ushiftRight, Nat.shiftRight_eq_div_pow]
  norm_cast

def zs (n : Nat) : Array Value := Array.replicate n (.int .u32 0)
/-- The table so far: k words. -/
def tabF (k i : Nat) : Value := if i < k then u32 (stpN 8 (BitVec.ofNat 32 i)) else .int .u32 0
def tabN (k : Nat) : Array Value := ((List.range 256).map (tabF k)).toArray
theorem tabF_lt (k i : Nat) (h : i < k) : tabF k i = u32 (stpN 8 (BitVec.ofNat 32 i)) := if_pos h
theorem tabF_ge (k i : Nat) (h : ¬ i < k) : tabF k i = .int .u32 0 := if_neg h
theorem tabN_size (k : Nat) : (tabN k).size = 256 := by simp [tabN]
theorem tabN_get (k i : Nat) (h : i < (tabN k).size) : (tabN k)[i] = tabF k i := by simp [tabN]
theorem tabN_get? (k i : Nat) (h : i < 256) : (tabN k)[i]? = some (tabF k i) := by simp [tabN, h]
theorem tabN_one (k : Nat) : (tabN k).all (·.oneCell') = true := by
  rw [Array.all_eq_true]
  intro i hi
  rw [tabN_get]
  by_cases c : i < k
  · rw [tabF_lt _ _ c]; rfl
  · rw [tabF_ge _ _ c]; rfl
theorem tabN_set (k : Nat) (h : k < 256) : (tabN k).setIfInBounds k (u32 (stpN 8 (BitVec.ofNat 32 k))) = tabN (k + 1) := by
  apply Array.ext
  · simp [tabN]
  · intro i h1 h2
    rw [Array.getElem_setIfInBounds, tabN_get]
    · by_cases e : k = i
      · subst e; rw [if_pos rfl, tabN_get, tabF_lt _ _ (by omega)]
      · rw [if_neg e, tabN_get]
        by_cases c : i < k
        · rw [tabF_lt _ _ c, tabF_lt _ _ (by omega)]
        · rw [tabF_ge _ _ c, tabF_ge _ _ (by omega)]
    · simpa using h1
theorem tabN_zero : tabN 0 = zs 256 := by
  apply Array.ext
  · simp [tabN, zs]
  · intro i h1 h2
    simp [tabN, zs, tabF]

/-- A table of 256 words. -/
def tabOf (t : Nat → BitVec 32) : Array Value := ((List.range 256).map fun i => u32 (t i)).toArray
theorem tabOf_size (t : Nat → BitVec 32) : (tabOf t).size = 256 := by simp [tabOf]
theorem tabOf_get? (t : Nat → BitVec 32) (i : Nat) (h : i < 256) : (tabOf t)[i]? = some (u32 (t i)) := by simp [tabOf, h]
theorem tabOf_get (t : Nat → BitVec 32) (i : Nat) (h : i < (tabOf t).size) : (tabOf t)[i] = u32 (t i) := by simp [tabOf]
theorem tabOf_one (t : Nat → BitVec 32) : (tabOf t).all (·.oneCell') = true := by
  rw [Array.all_eq_true]
  intro i hi
  simp [tabOf, Value.oneCell']
def word (i : Nat) : BitVec 32 := stpN 8 (BitVec.ofNat 32 i)
theorem tabN_word : tabN 256 = tabOf word := by
  apply Array.ext
  · rw [tabN_size, tabOf_size]
  · intro i h1 h2
    rw [tabN_get, tabF_lt _ _ (by rw [tabN_size] at h1; exact h1), tabOf_get]; rfl

abbrev u8 (c : BitVec 8) : Value := .int .u8 (c.toNat : Int)
/-- A slice of bytes, nil or not. -/
structure SliceAt (w : World) (v : Value) (bs : List (BitVec 8)) : Prop where
  form : ∃ a cap, v = .slice a bs.length cap ∧ (0 < bs.length → ∃ b off, a = some ⟨b, off, none⟩ ∧ ∀ i, (h : i < bs.length) → w.cell? ⟨b, off + i, none⟩ = some (u8 bs[i]))
  room : ∀ a n cap, v = .slice a n cap → n ≤ cap

theorem SliceAt.below {w w' : World} {v : Value} {bs : List (BitVec 8)} (h : SliceAt w v bs) (hb : Below w.heap.size w w') : SliceAt w' v bs := by
  have hroom := h.room
  obtain ⟨a, cap, rfl, hc⟩ := h.form
  refine ⟨⟨a, cap, rfl, fun h0 => ?_⟩, hroom⟩
  obtain ⟨b, off, ha, hcell⟩ := hc h0
  refine ⟨b, off, ha, fun i hi => ?_⟩
  rw [hb.cell (World.block_lt_of_cell? w _ (hcell i hi))]
  exact hcell i hi
def more1 (t : Nat → BitVec 32) (r : BitVec 32) (c : BitVec 8) : BitVec 32 := t ((r.setWidth 8 ^^^ c).toNat) ^^^ (r >>> 8)
def moreR (t : Nat → BitVec 32) (r : BitVec 32) (bs : List (BitVec 8)) : BitVec 32 := bs.foldl (more1 t) r
def more (t : Nat → BitVec 32) (sum : BitVec 32) (bs : List (BitVec 8)) : BitVec 32 := ~~~ (moreR t (~~~ sum) bs)
theorem moreR_take (t : Nat → BitVec 32) (r : BitVec 32) (bs : List (BitVec 8)) (k : Nat) (h : k < bs.length) :
    moreR t r (bs.take (k + 1)) = more1 t (moreR t r (bs.take k)) bs[k] := by
  unfold moreR
  rw [List.take_succ_eq_append_getElem h, List.foldl_append]; rfl

theorem not_u32 (a : BitVec 32) : bits .xor .u32 IntKind.u32.max (a.toNat : Int) = ((~~~ a).toNat : Int) := by
  have h := bits_xor32 (BitVec.allOnes 32) a
  rw [BitVec.allOnes_xor] at h; exact h
theorem wrap_nat8 (x : BitVec 8) : IntKind.u8.wrap (x.toNat : Int) = (x.toNat : Int) := by
  have := x.isLt
  rw [IntKind.wrap_u8]; omega
theorem bits_xor8 (a b : BitVec 8) : bits .xor .u8 (a.toNat : Int) (b.toNat : Int) = ((a ^^^ b).toNat : Int) := by
  unfold bits
  simp only [IntKind.bits, BitVec.ofInt_natCast, BitVec.ofNat_toNat, BitVec.setWidth_eq]
  exact wrap_nat8 _
theorem low8 (r : BitVec 32) : (r.toNat : Int) % 256 = ((r.setWidth 8).toNat : Int) := by
  rw [BitVec.toNat_setWidth]
  have : (2 : Nat) ^ 8 = 256 := rfl
  rw [this]; omega

theorem more1_parts (t : Nat → BitVec 32) (r : BitVec 32) (c : BitVec 8) :
    ∃ x : Nat, x < 256 ∧ bits .xor .u8 ((r.toNat : Int) % 256) (c.toNat : Int) = (x : Int) ∧ u32 (more1 t r c) = .int .u32 (bits .xor .u32 ((t x).toNat : Int) ((r.toNat : Int) / 256)) := by
  refine ⟨(r.setWidth 8 ^^^ c).toNat, (r.setWidth 8 ^^^ c).isLt, ?_, ?_⟩
  · rw [low8, bits_xor8]
  · have h := shr_u32 r 8
    have e : (2 : Int) ^ 8 = 256 := rfl
    rw [e] at h
    rw [h, bits_xor32]; rfl

/-! The reference's bit, byte and run. -/
def bitR (r : BitVec 32) (o : Bool) : BitVec 32 := if (r.toNat % 2 = 1) ≠ (o = true) then (r >>> 1) ^^^ poly else r >>> 1
def runN (r : BitVec 32) (c : BitVec 8) : Nat → BitVec 32
  | 0 => r
  | j + 1 => bitR (runN r c j) (c.getLsbD j)
def run8 (r : BitVec 32) (c : BitVec 8) : BitVec 32 := runN r c 8
def runR (r : BitVec 32) (bs : List (BitVec 8)) : BitVec 32 := bs.foldl run8 r
theorem runR_take (r : BitVec 32) (bs : List (BitVec 8)) (k : Nat) (h : k < bs.length) : runR r (bs.take (k + 1)) = run8 (runR r (bs.take k)) bs[k] := by
  unfold runR
  rw [List.take_succ_eq_append_getElem h, List.foldl_append]; rfl
def refSum (bs : List (BitVec 8)) : BitVec 32 := ~~~ (runR (~~~ 0#32) bs)
theorem bitR_false (r : BitVec 32) : bitR r false = stp r := by
  unfold bitR stp
  by_cases h : r.toNat % 2 = 1 <;> simp [h]
theorem bit8 (c : BitVec 8) (j : Nat) : (((c.toNat : Int) / 2 ^ j) % 2 == 1) = c.getLsbD j := by
  have e : ((c.toNat : Int) / 2 ^ j) % 2 = ((c.toNat / 2 ^ j % 2 : Nat) : Int) := by norm_cast
  rw [e, BitVec.getLsbD, Nat.testBit_eq_decide_div_mod_eq]
  generalize c.toNat / 2 ^ j % 2 = x
  rw [Bool.eq_iff_iff]; simp; omega
theorem bit8t (c : BitVec 8) (j : Nat) : (((c.toNat : Int) / 2 ^ j).tmod 2 == 1) = c.getLsbD j := by
  rw [Int.tmod_eq_emod_of_nonneg, bit8]
  exact Int.ediv_nonneg (by omega) (Int.pow_nonneg (by decide))
theorem half_parts (r : BitVec 32) : u32 (r >>> 1) = .int .u32 ((r.toNat : Int) / 2) ∧ u32 ((r >>> 1) ^^^ poly) = .int .u32 (bits .xor .u32 ((r.toNat : Int) / 2) 3988292384) := by
  have h1 := shr_u32 r 1
  have e : (2 : Int) ^ 1 = 2 := rfl
  rw [e] at h1
  have h := bits_xor32 (r >>> 1) poly
  exact ⟨by rw [h1], by rw [h1]; exact (congrArg (Value.int .u32) h).symm⟩
theorem not_u32' (a : BitVec 32) : bits .xor .u32 (a.toNat : Int) 4294967295 = ((~~~ a).toNat : Int) := by
  have h := bits_xor32 a (BitVec.allOnes 32)
  rw [BitVec.xor_allOnes] at h; exact h

/-! Matrices of 32 words. -/
def matOf (t : Nat → BitVec 32) : Array Value := ((List.range 32).map fun i => u32 (t i)).toArray
theorem matOf_size (t : Nat → BitVec 32) : (matOf t).size = 32 := by simp [matOf]
theorem matOf_get? (t : Nat → BitVec 32) (i : Nat) (h : i < 32) : (matOf t)[i]? = some (u32 (t i)) := by simp [matOf, h]
theorem matOf_get (t : Nat → BitVec 32) (i : Nat) (h : i < (matOf t).size) : (matOf t)[i] = u32 (t i) := by simp [matOf]
theorem matOf_one (t : Nat → BitVec 32) : (matOf t).all (·.oneCell') = true := by
  rw [Array.all_eq_true]
  intro i hi
  rw [matOf_get]; rfl
/-- A matrix so far: k words of t, the others 0. -/
def upto (t : Nat → BitVec 32) (k : Nat) : Nat → BitVec 32 := fun i => if i < k then t i else 0#32
theorem matOf_upto_zero (t : Nat → BitVec 32) : matOf (upto t 0) = zs 32 := by
  apply Array.ext
  · simp [matOf, zs]
  · intro i h1 h2
    rw [matOf_get]; simp [zs, upto]
theorem matOf_upto_set (t : Nat → BitVec 32) (k : Nat) : (matOf (upto t k)).setIfInBounds k (u32 (t k)) = matOf (upto t (k + 1)) := by
  apply Array.ext
  · rw [Array.size_setIfInBounds, matOf_size, matOf_size]
  · intro i h1 h2
    rw [Array.getElem_setIfInBounds, matOf_get]
    · by_cases e : k = i
      · subst e; rw [if_pos rfl, matOf_get, upto, if_pos (by omega)]
      · rw [if_neg e, matOf_get]
        by_cases c : i < k
        · rw [upto, upto, if_pos c, if_pos (by omega)]
        · rw [upto, upto, if_neg c, if_neg (by omega)]
    · simpa using h1
theorem matOf_upto_all (t : Nat → BitVec 32) : matOf (upto t 32) = matOf t := by
  apply Array.ext
  · rw [matOf_size, matOf_size]
  · intro i h1 h2
    rw [matOf_get, matOf_get, upto, if_pos (by rw [matOf_size] at h1; exact h1)]
/-- What becomes of a register, by its first k bits. -/
def ofN (m : Nat → BitVec 32) (r : BitVec 32) : Nat → BitVec 32
  | 0 => 0#32
  | k + 1 => if r.getLsbD k then ofN m r k ^^^ m k else ofN m r k
theorem bit32 (r : BitVec 32) (j : Nat) : bits .and .u32 ((r.toNat : Int) / 2 ^ j) 1 = (if r.getLsbD j then 1 else 0) := by
  rw [shr_u32, and1_u32, BitVec.toNat_ushiftRight, BitVec.getLsbD, Nat.testBit_eq_decide_div_mod_eq, Nat.shiftRight_eq_div_pow]
  generalize r.toNat / 2 ^ j = x
  by_cases h : x % 2 = 1
  · simp [h]
  · simp [h]; omega
/-- The matrix of a byte 0. -/
def byte0 (i : Nat) : BitVec 32 := stpN 8 (BitVec.ofNat 32 (2 ^ i))
theorem one_shl (i : Nat) (h : i < 32) : IntKind.u32.wrap (2 ^ i : Int) = ((BitVec.ofNat 32 (2 ^ i)).toNat : Int) := by
  have e : (2 ^ i : Int) = ((2 ^ i : Nat) : Int) := by simp
  have e2 : (2 : Nat) ^ 32 = 4294967296 := rfl
  rw [BitVec.toNat_ofNat, IntKind.wrap_u32, e, e2]
  omega

theorem and1_i64 (k : Nat) (h : k < 9223372036854775808) : bits .and .i64 (k : Int) 1 = ((k % 2 : Nat) : Int) := by
  have hw : ∀ n : Int, 0 ≤ n → n < 2 ^ 63 → IntKind.i64.wrap n = n := fun n h0 h1 => by rw [IntKind.wrap_i64]; omega
  have h2 := bits_mask .i64 63 (by decide) hw 1 (by decide) (k : Int) (by omega) (by omega)
  exact h2
def twiceF (m : Nat → BitVec 32) : Nat → BitVec 32 := fun i => ofN m (m i) 32
def joinM (m : Nat → BitVec 32) (a : BitVec 32) (n : Nat) : BitVec 32 :=
  if h : n = 0 then a else joinM (twiceF m) (if n % 2 = 1 then ofN m a 32 else a) (n / 2)
  termination_by n
  decreasing_by omega
theorem joinM_zero (m : Nat → BitVec 32) (a : BitVec 32) : joinM m a 0 = a := by rw [joinM]; simp
theorem joinM_odd (m : Nat → BitVec 32) (a : BitVec 32) (n : Nat) (h0 : 0 < n) (h : n % 2 = 1) : joinM m a n = joinM (twiceF m) (ofN m a 32) (n / 2) := by
  rw [joinM, dif_neg (by omega), if_pos h]
theorem joinM_even (m : Nat → BitVec 32) (a : BitVec 32) (n : Nat) (h0 : 0 < n) (h : ¬ n % 2 = 1) : joinM m a n = joinM (twiceF m) a (n / 2) := by
  rw [joinM, dif_neg (by omega), if_neg h]

theorem below_setRow {B : Nat} {a w : World} (h : Below B a w) (g : Nat) (cs : Array Value) (hg : B ≤ g) : Below B a (w.setRow g cs) :=
  h.trans ⟨rfl, rfl, rfl, by simp, fun k hk => setRow_other w g k cs (by omega)⟩

end Go.Proofs.Ytbbanicjlfabgaa
