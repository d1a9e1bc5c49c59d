import Derived.Test.YtbbanicjlfabgaaM
namespace Go.Proofs.Ytbbanicjlfabgaa
set_option linter.unusedVariables false
set_option linter.unusedSimpArgs false

theorem odd_iff (r : BitVec 32) : r.toNat % 2 = 1 ↔ r.getLsbD 0 = true := by
  rw [BitVec.getLsbD, Nat.testBit_zero]; simp
theorem stp_eq (r : BitVec 32) : stp r = (r >>> 1) ^^^ (if r.getLsbD 0 = true then poly else 0#32) := by
  unfold stp
  by_cases h : r.toNat % 2 = 1
  · rw [if_pos h, if_pos ((odd_iff r).1 h)]
  · rw [if_neg h, if_neg (fun c => h ((odd_iff r).2 c)), BitVec.xor_zero]
theorem stp_xor (a b : BitVec 32) : stp (a ^^^ b) = stp a ^^^ stp b := by
  rw [stp_eq, stp_eq a, stp_eq b, BitVec.ushiftRight_xor_distrib, BitVec.getLsbD_xor]
  cases a.getLsbD 0 <;> cases b.getLsbD 0 <;> simp
  · rw [BitVec.xor_assoc]
  · rw [BitVec.xor_assoc, BitVec.xor_assoc, BitVec.xor_comm poly]
  · have : (a >>> 1 ^^^ poly) ^^^ (b >>> 1 ^^^ poly) = (a >>> 1 ^^^ b >>> 1) ^^^ (poly ^^^ poly) := by ac_rfl
    rw [this, BitVec.xor_self, BitVec.xor_zero]
theorem stp_zero : stp 0#32 = 0#32 := by decide
theorem stpN_xor (n : Nat) : ∀ a b : BitVec 32, stpN n (a ^^^ b) = stpN n a ^^^ stpN n b := by
  induction n with
  | zero => intro a b; rfl
  | succ n ih => intro a b; rw [stpN_succ, stpN_succ, stpN_succ, stp_xor, ih]
theorem stpN_0 (n : Nat) : stpN n 0#32 = 0#32 := by
  induction n with
  | zero => rfl
  | succ n ih => rw [stpN_succ, stp_zero, ih]
theorem stpN_add (m n : Nat) : ∀ r : BitVec 32, stpN (m + n) r = stpN n (stpN m r) := by
  induction m with
  | zero => intro r; rw [Nat.zero_add]; rfl
  | succ m ih => intro r; rw [Nat.succ_add, stpN_succ, stpN_succ, ih]
theorem stpN_succ' (n : Nat) (r : BitVec 32) : stpN (n + 1) r = stp (stpN n r) := by rw [stpN_add]; rfl

/-- The first k bits of a word. -/
def lowR (r : BitVec 32) : Nat → BitVec 32
  | 0 => 0#32
  | k + 1 => if r.getLsbD k then lowR r k ^^^ BitVec.ofNat 32 (2 ^ k) else lowR r k
theorem lowR_bit (r : BitVec 32) (k : Nat) : ∀ i, (lowR r k).getLsbD i = (decide (i < k) && r.getLsbD i) := by
  induction k with
  | zero => intro i; simp [lowR]
  | succ k ih =>
    intro i
    rw [lowR]
    have hp : (BitVec.ofNat 32 (2 ^ k)).getLsbD i = (decide (i < 32) && decide (k = i)) := by
      rw [BitVec.getLsbD_ofNat, Nat.testBit_two_pow]
    by_cases h : r.getLsbD k = true
    · rw [if_pos h, BitVec.getLsbD_xor, ih, hp]
      by_cases e : k = i
      · subst e
        have h32 : k < 32 := BitVec.lt_of_getLsbD h
        simp [h, h32]
      · have e2 : decide (i < k + 1) = decide (i < k) := by rw [decide_eq_decide]; omega
        simp [e, e2]
    · rw [if_neg h, ih]
      by_cases e : k = i
      · subst e; simp at h; simp [h]
      · have e2 : decide (i < k + 1) = decide (i < k) := by rw [decide_eq_decide]; omega
        rw [e2]
theorem lowR_all (r : BitVec 32) : lowR r 32 = r := by
  apply BitVec.eq_of_getLsbD_eq
  intro i hi
  rw [lowR_bit]; simp [hi]

/-- A linear map, told by its matrix. -/
def matS (p : Nat) : Nat → BitVec 32 := fun i => stpN p (BitVec.ofNat 32 (2 ^ i))
theorem ofN_mat (p : Nat) (r : BitVec 32) (k : Nat) : ofN (matS p) r k = stpN p (lowR r k) := by
  induction k with
  | zero => rw [ofN, lowR, stpN_0]
  | succ k ih =>
    rw [ofN, lowR]
    by_cases h : r.getLsbD k = true
    · rw [if_pos h, if_pos h, ih, stpN_xor]; rfl
    · rw [if_neg h, if_neg h, ih]
theorem ofN_all (p : Nat) (r : BitVec 32) : ofN (matS p) r 32 = stpN p r := by rw [ofN_mat, lowR_all]
theorem twice_mat (p : Nat) : twiceF (matS p) = matS (p + p) := by
  funext i
  show ofN (matS p) (matS p i) 32 = stpN (p + p) _
  rw [ofN_all, stpN_add]; rfl
theorem byte0_mat : byte0 = matS 8 := rfl
theorem joinM_mat (n : Nat) : ∀ (p : Nat) (a : BitVec 32), joinM (matS p) a n = stpN (p * n) a := by
  induction n using Nat.strongRecOn with
  | _ n ih =>
    intro p a
    by_cases h0 : n = 0
    · subst h0; rw [joinM_zero]; rfl
    · by_cases h : n % 2 = 1
      · rw [joinM_odd _ _ _ (by omega) h, twice_mat, ofN_all, ih _ (by omega), ← stpN_add]
        have : p + (p + p) * (n / 2) = p * n := by
          have e : n = 2 * (n / 2) + 1 := by omega
          have e2 : p * n = p * (2 * (n / 2) + 1) := by rw [← e]
          rw [e2, Nat.mul_add, Nat.add_mul, Nat.mul_one, Nat.mul_left_comm]; omega
        rw [this]
      · rw [joinM_even _ _ _ (by omega) h, twice_mat, ih _ (by omega)]
        have : (p + p) * (n / 2) = p * n := by
          have e : n = 2 * (n / 2) := by omega
          have e2 : p * n = p * (2 * (n / 2)) := by rw [← e]
          rw [e2, Nat.add_mul, Nat.mul_left_comm]; omega
        rw [this]
theorem join_eq (a : BitVec 32) (n : Nat) : joinM byte0 a n = stpN (8 * n) a := by rw [byte0_mat, joinM_mat]

/-! Bits, bytes. -/
theorem bitR_stp (r : BitVec 32) (o : Bool) : bitR r o = stp (r ^^^ (if o then 1#32 else 0#32)) := by
  rw [stp_xor, stp_eq r]
  have h1 : stp 1#32 = poly := by decide
  unfold bitR
  cases o
  · simp only [Bool.false_eq_true, ne_eq, if_false, stp_zero, BitVec.xor_zero, eq_iff_iff, iff_false, Decidable.not_not]
    by_cases h : r.toNat % 2 = 1
    · rw [if_pos h, if_pos ((odd_iff r).1 h)]
    · rw [if_neg h, if_neg (fun c => h ((odd_iff r).2 c)), BitVec.xor_zero]
  · simp only [ne_eq, if_true, h1, eq_iff_iff, iff_true]
    by_cases h : r.toNat % 2 = 1
    · rw [if_neg (fun c => c h), if_pos ((odd_iff r).1 h), BitVec.xor_assoc, BitVec.xor_self, BitVec.xor_zero]
    · rw [if_pos h, if_neg (fun c => h ((odd_iff r).2 c)), BitVec.xor_zero]
theorem stpN_pow : ∀ j, j < 32 → stpN j (BitVec.ofNat 32 (2 ^ j)) = 1#32 := by decide +kernel
/-- A register behind the first j bits of a word. -/
def runW (r : BitVec 32) (x : BitVec 32) : Nat → BitVec 32
  | 0 => r
  | j + 1 => bitR (runW r x j) (x.getLsbD j)
theorem runW_eq (r x : BitVec 32) : ∀ j, j ≤ 32 → runW r x j = stpN j (r ^^^ lowR x j) := by
  intro j
  induction j with
  | zero => intro _; simp [runW, lowR, stpN]
  | succ j ih =>
    intro hj
    rw [runW, ih (by omega), bitR_stp, lowR]
    by_cases h : x.getLsbD j = true
    · rw [if_pos h, if_pos h, stpN_succ', ← BitVec.xor_assoc, stpN_xor _ _ (BitVec.ofNat 32 (2 ^ j)), stpN_pow j (by omega)]
    · rw [if_neg h, if_neg h, stpN_succ', BitVec.xor_zero]
theorem runN_eq_runW (r : BitVec 32) (c : BitVec 8) (j : Nat) (hj : j ≤ 8) : runN r c j = runW r (c.setWidth 32) j := by
  induction j with
  | zero => rfl
  | succ j ih =>
    rw [runN, runW, ih (by omega)]
    congr 1
theorem lowR_byte (c : BitVec 8) : lowR (c.setWidth 32) 8 = c.setWidth 32 := by
  apply BitVec.eq_of_getLsbD_eq
  intro i hi
  rw [lowR_bit, BitVec.getLsbD_setWidth]
  by_cases h : i < 8
  · simp [h]
  · have : c.getLsbD i = false := BitVec.getLsbD_of_ge _ _ (by omega)
    simp [this]
theorem run8_eq (r : BitVec 32) (c : BitVec 8) : run8 r c = stpN 8 (r ^^^ c.setWidth 32) := by
  rw [run8, runN_eq_runW _ _ _ (by omega), runW_eq _ _ _ (by omega), lowR_byte]

theorem stpN_low (n : Nat) : ∀ r : BitVec 32, r.toNat % 2 ^ n = 0 → stpN n r = r >>> n := by
  induction n with
  | zero => intro r _; simp [stpN]
  | succ n ih =>
    intro r h
    have h2 : r.toNat % 2 = 0 := by
      have := Nat.mod_mod_of_dvd r.toNat (show 2 ∣ 2 ^ (n + 1) from ⟨2 ^ n, by rw [Nat.pow_succ, Nat.mul_comm]⟩)
      rw [h] at this; omega
    have h3 : stp r = r >>> 1 := by unfold stp; rw [if_neg (by omega)]
    rw [stpN_succ, h3, ih, ← BitVec.shiftRight_add, Nat.add_comm]
    rw [BitVec.toNat_ushiftRight, Nat.shiftRight_eq_div_pow, Nat.pow_one]
    have h4 : r.toNat = 2 ^ (n + 1) * (r.toNat / 2 ^ (n + 1)) := by have := Nat.div_add_mod r.toNat (2 ^ (n + 1)); omega
    rw [h4, Nat.pow_succ, Nat.mul_comm (2 ^ n) 2, Nat.mul_assoc, Nat.mul_div_cancel_left _ (by omega), Nat.mul_mod_right]

theorem more1_eq (r : BitVec 32) (c : BitVec 8) : more1 word r c = run8 r c := by
  rw [run8_eq, more1, word]
  have hx : BitVec.ofNat 32 (r.setWidth 8 ^^^ c).toNat = (r.setWidth 8 ^^^ c).setWidth 32 := by
    apply BitVec.eq_of_toNat_eq
    rw [BitVec.toNat_ofNat, BitVec.toNat_setWidth]
  rw [hx]
  have hy : r ^^^ c.setWidth 32 = (r.setWidth 8 ^^^ c).setWidth 32 ^^^ ((r >>> 8) <<< 8) := by
    apply BitVec.eq_of_getLsbD_eq
    intro i hi
    simp only [BitVec.getLsbD_xor, BitVec.getLsbD_setWidth, BitVec.getLsbD_shiftLeft, BitVec.getLsbD_ushiftRight]
    by_cases h : i < 8
    · simp [h, hi]
    · have e : c.getLsbD i = false := BitVec.getLsbD_of_ge _ _ (by omega)
      have e2 : 8 + (i - 8) = i := by omega
      simp [h, hi, e, e2]
  rw [hy, stpN_xor, stpN_low 8 ((r >>> 8) <<< 8)]
  · congr 1
    apply BitVec.eq_of_getLsbD_eq
    intro i hi
    simp only [BitVec.getLsbD_shiftLeft, BitVec.getLsbD_ushiftRight]
    by_cases h : 8 + i < 32
    · have : ¬ 8 + i < 8 := by omega
      have e2 : 8 + (8 + i - 8) = 8 + i := by omega
      simp [h]
    · have : r.getLsbD (8 + i) = false := BitVec.getLsbD_of_ge _ _ (by omega)
      simp [this]
  · rw [BitVec.toNat_shiftLeft, Nat.shiftLeft_eq, Nat.mod_mod_of_dvd _ (by decide), Nat.mul_mod_left]
theorem moreR_eq (r : BitVec 32) (bs : List (BitVec 8)) : moreR word r bs = runR r bs := by
  unfold moreR runR
  congr 1
  funext a b
  exact more1_eq a b
theorem sum_eq (bs : List (BitVec 8)) : more word 0#32 bs = refSum bs := by unfold more refSum; rw [moreR_eq]
theorem runR_xor (bs : List (BitVec 8)) : ∀ a b : BitVec 32, runR (a ^^^ b) bs = runR a bs ^^^ stpN (8 * bs.length) b := by
  induction bs with
  | nil => intro a b; rfl
  | cons c bs ih =>
    intro a b
    have h : run8 (a ^^^ b) c = run8 a c ^^^ stpN 8 b := by
      rw [run8_eq, run8_eq, ← stpN_xor]; congr 1; ac_rfl
    show runR (run8 (a ^^^ b) c) bs = runR (run8 a c) bs ^^^ _
    rw [h, ih, ← stpN_add, List.length_cons, show 8 * (bs.length + 1) = 8 + 8 * bs.length by omega]
theorem runR_append (r : BitVec 32) (a b : List (BitVec 8)) : runR r (a ++ b) = runR (runR r a) b := by unfold runR; rw [List.foldl_append]
theorem not_eq (a : BitVec 32) : ~~~ a = a ^^^ BitVec.allOnes 32 := by rw [BitVec.xor_allOnes]
/-- The join law. -/
theorem refSum_append (a b : List (BitVec 8)) : joinM byte0 (refSum a) b.length ^^^ refSum b = refSum (a ++ b) := by
  rw [join_eq]
  unfold refSum
  rw [runR_append]
  generalize runR (~~~ 0#32) a = x
  rw [not_eq x, not_eq (runR _ b), not_eq (runR x b), stpN_xor]
  have h1 : runR (~~~ 0#32) b = runR 0#32 b ^^^ stpN (8 * b.length) (BitVec.allOnes 32) := by
    rw [← runR_xor]; congr 1
  have h2 : runR x b = runR 0#32 b ^^^ stpN (8 * b.length) x := by
    rw [← runR_xor]; congr 1; simp
  rw [h1, h2]
  generalize stpN (8 * b.length) (BitVec.allOnes 32) = y
  generalize stpN (8 * b.length) x = z
  generalize runR 0#32 b = u
  generalize BitVec.allOnes 32 = v
  have : (z ^^^ y) ^^^ ((u ^^^ y) ^^^ v) = ((u ^^^ z) ^^^ v) ^^^ (y ^^^ y) := by ac_rfl
  rw [this, BitVec.xor_self, BitVec.xor_zero]
/-- The law of going on. -/
theorem more_append (a b : List (BitVec 8)) : more word (refSum a) b = refSum (a ++ b) := by
  unfold more refSum
  rw [BitVec.not_not, moreR_eq, runR_append]

end Go.Proofs.Ytbbanicjlfabgaa
