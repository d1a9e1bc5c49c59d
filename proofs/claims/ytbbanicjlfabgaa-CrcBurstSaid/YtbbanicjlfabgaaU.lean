import Derived.Test.YtbbanicjlfabgaaN
namespace Go.Proofs.Ytbbanicjlfabgaa
set_option linter.unusedVariables false
set_option linter.unusedSimpArgs false

/-! Plain: a burst of at most 32 bits turns the sum. -/
theorem stp_inj0 (r : BitVec 32) (h : stp r = 0#32) : r = 0#32 := by
  rw [stp_eq] at h
  by_cases h0 : r.getLsbD 0 = true
  · rw [if_pos h0] at h
    have h31 : ((r >>> 1) ^^^ poly).getLsbD 31 = true := by
      rw [BitVec.getLsbD_xor, BitVec.getLsbD_ushiftRight]
      have e1 : r.getLsbD (1 + 31) = false := BitVec.getLsbD_of_ge _ _ (by omega)
      have e2 : poly.getLsbD 31 = true := by decide
      rw [e1, e2]; rfl
    rw [h] at h31
    simp at h31
  · rw [if_neg h0, BitVec.xor_zero] at h
    apply BitVec.eq_of_getLsbD_eq
    intro i hi
    cases i with
    | zero => simpa using h0
    | succ i =>
      have : (r >>> 1).getLsbD i = false := by rw [h]; simp
      rw [BitVec.getLsbD_ushiftRight, Nat.add_comm] at this
      rw [this]; simp
theorem stpN_inj0 (n : Nat) : ∀ r : BitVec 32, stpN n r = 0#32 → r = 0#32 := by
  induction n with
  | zero => intro r h; exact h
  | succ n ih => intro r h; rw [stpN_succ] at h; exact stp_inj0 r (ih _ h)

/-- Bit i of a text. -/
def bitOf (bs : List (BitVec 8)) (i : Nat) : Bool := (bs.getD (i / 8) 0#8).getLsbD (i % 8)
def runB (r : BitVec 32) (f : Nat → Bool) : Nat → BitVec 32
  | 0 => r
  | n + 1 => bitR (runB r f n) (f n)
theorem runB_congr (r : BitVec 32) (f g : Nat → Bool) (n : Nat) (h : ∀ i, i < n → f i = g i) : runB r f n = runB r g n := by
  induction n with
  | zero => rfl
  | succ n ih => rw [runB, runB, ih (fun i hi => h i (by omega)), h n (by omega)]
theorem runB_add (r : BitVec 32) (f : Nat → Bool) (m n : Nat) : runB r f (m + n) = runB (runB r f m) (fun i => f (m + i)) n := by
  induction n with
  | zero => rfl
  | succ n ih => rw [← Nat.add_assoc, runB, runB, ih]
theorem runN_runB (r : BitVec 32) (c : BitVec 8) (n : Nat) : runN r c n = runB r (fun i => c.getLsbD i) n := by
  induction n with
  | zero => rfl
  | succ n ih => rw [runN, runB, ih]
theorem runR_runB (bs : List (BitVec 8)) : ∀ r : BitVec 32, runR r bs = runB r (bitOf bs) (8 * bs.length) := by
  induction bs with
  | nil => intro r; rfl
  | cons c bs ih =>
    intro r
    show runR (run8 r c) bs = _
    rw [ih, List.length_cons, show 8 * (bs.length + 1) = 8 + 8 * bs.length by omega, runB_add]
    have e1 : run8 r c = runB r (bitOf (c :: bs)) 8 := by
      show runN r c 8 = _
      rw [runN_runB]
      refine runB_congr _ _ _ _ (fun i hi => ?_)
      unfold bitOf
      rw [Nat.div_eq_of_lt hi, Nat.mod_eq_of_lt hi]; rfl
    have e2 : (fun i => bitOf (c :: bs) (8 + i)) = bitOf bs := by
      funext i
      unfold bitOf
      rw [Nat.add_div_left _ (by omega), Nat.add_mod_left]; rfl
    rw [e1, e2]
theorem bitR_xor (x d : BitVec 32) (o p : Bool) : bitR (x ^^^ d) (o ^^ p) = bitR x o ^^^ bitR d p := by
  rw [bitR_stp, bitR_stp, bitR_stp, ← stp_xor]
  congr 1
  cases o <;> cases p <;> simp
  · ac_rfl
  · ac_rfl
  · have : (x ^^^ 1#32) ^^^ (d ^^^ 1#32) = (x ^^^ d) ^^^ (1#32 ^^^ 1#32) := by ac_rfl
    rw [this, BitVec.xor_self, BitVec.xor_zero]

/-- A window of 32 bits from place at on. -/
def win (at_ : Nat) (e : BitVec 32) (i : Nat) : Bool := decide (at_ ≤ i) && e.getLsbD (i - at_)
theorem runB_win (at_ : Nat) (e : BitVec 32) (n : Nat) : runB 0#32 (win at_ e) n = stpN (n - at_) (lowR e (min 32 (n - at_))) := by
  induction n with
  | zero => simp [runB, lowR, stpN_0]
  | succ n ih =>
    rw [runB, ih, bitR_stp]
    by_cases h : at_ ≤ n
    · have e1 : n + 1 - at_ = (n - at_) + 1 := by omega
      rw [e1, stpN_succ', win]
      congr 1
      by_cases h32 : n - at_ < 32
      · rw [Nat.min_eq_right (by omega), Nat.min_eq_right (by omega), lowR]
        simp only [h, decide_true, Bool.true_and]
        by_cases hb : e.getLsbD (n - at_) = true
        · rw [if_pos hb, if_pos hb, stpN_xor, stpN_pow _ h32]
        · rw [if_neg hb, if_neg hb, BitVec.xor_zero]
      · have hb : e.getLsbD (n - at_) = false := BitVec.getLsbD_of_ge _ _ (by omega)
        rw [Nat.min_eq_left (by omega), Nat.min_eq_left (by omega)]
        simp [hb]
    · have e1 : n + 1 - at_ = 0 := by omega
      have e2 : n - at_ = 0 := by omega
      have e3 : win at_ e n = false := by simp [win, h]
      rw [e1, e2, e3]
      simp [lowR, stpN_0, stp_zero]
theorem runB_xor (r s : BitVec 32) (f g : Nat → Bool) (n : Nat) : runB (r ^^^ s) (fun i => f i ^^ g i) n = runB r f n ^^^ runB s g n := by
  induction n with
  | zero => rfl
  | succ n ih => rw [runB, runB, runB, ih, bitR_xor]

/-- Texts of one length that part in a window are the same just if their sums are. -/
theorem burst_law (b c : List (BitVec 8)) (at_ : Nat) (e : BitVec 32) (hl : c.length = b.length) (hw : ∀ i, i < 8 * b.length → bitOf c i = (bitOf b i ^^ win at_ e i)) :
    (b = c) ↔ (refSum b = refSum c) := by
  constructor
  · intro h; rw [h]
  · intro h
    have h1 : runR (~~~ 0#32) b = runR (~~~ 0#32) c := by
      unfold refSum at h
      exact BitVec.not_inj.1 h
    rw [runR_runB, runR_runB, hl, runB_congr _ (bitOf c) _ _ hw] at h1
    have h2 := runB_xor (~~~ 0#32) 0#32 (bitOf b) (win at_ e) (8 * b.length)
    rw [BitVec.xor_zero] at h2
    rw [h2, runB_win] at h1
    generalize runB (~~~ 0#32) (bitOf b) (8 * b.length) = x at h1
    have h3 : stpN (8 * b.length - at_) (lowR e (min 32 (8 * b.length - at_))) = 0#32 := by
      generalize stpN (8 * b.length - at_) (lowR e (min 32 (8 * b.length - at_))) = y at *
      have h4 : x ^^^ x = x ^^^ (x ^^^ y) := by rw [← h1]
      rw [BitVec.xor_self, ← BitVec.xor_assoc, BitVec.xor_self, BitVec.zero_xor] at h4
      exact h4.symm
    have h5 := stpN_inj0 _ _ h3
    have hz : ∀ i, i < 8 * b.length → win at_ e i = false := by
      intro i hi
      unfold win
      by_cases ha : at_ ≤ i
      · have hb : (lowR e (min 32 (8 * b.length - at_))).getLsbD (i - at_) = false := by rw [h5]; simp
        rw [lowR_bit] at hb
        by_cases h32 : i - at_ < 32
        · have hlt : i - at_ < min 32 (8 * b.length - at_) := by omega
          simp only [hlt, decide_true, Bool.true_and] at hb
          rw [hb]; simp
        · rw [BitVec.getLsbD_of_ge _ _ (by omega)]; simp
      · simp [ha]
    apply List.ext_getElem
    · exact hl.symm
    · intro i h1 h2
      apply BitVec.eq_of_getLsbD_eq
      intro j hj
      have h6 := hw (8 * i + j) (by omega)
      rw [hz _ (by omega)] at h6
      unfold bitOf at h6
      have e1 : (8 * i + j) / 8 = i := by omega
      have e2 : (8 * i + j) % 8 = j := by omega
      rw [e1, e2, List.getD_eq_getElem?_getD, List.getD_eq_getElem?_getD, List.getElem?_eq_getElem h1, List.getElem?_eq_getElem h2] at h6
      simpa using h6.symm

/-- The text behind k turns. -/
def flipAt (b : List (BitVec 8)) (p : Nat) : List (BitVec 8) := b.set (p / 8) (b.getD (p / 8) 0#8 ^^^ BitVec.ofNat 8 (2 ^ (p % 8)))
def flips (b : List (BitVec 8)) (at_ : Nat) (t : BitVec 32) : Nat → List (BitVec 8)
  | 0 => b
  | k + 1 => if at_ + k < 8 * b.length ∧ t.getLsbD k = true then flipAt (flips b at_ t k) (at_ + k) else flips b at_ t k
theorem flips_length (b : List (BitVec 8)) (at_ : Nat) (t : BitVec 32) (k : Nat) : (flips b at_ t k).length = b.length := by
  induction k with
  | zero => rfl
  | succ k ih =>
    rw [flips]
    split
    · rw [flipAt, List.length_set, ih]
    · exact ih
theorem bitOf_flipAt (b : List (BitVec 8)) (p i : Nat) (hp : p < 8 * b.length) : bitOf (flipAt b p) i = (bitOf b i ^^ decide (i = p)) := by
  unfold bitOf flipAt
  by_cases h : p / 8 = i / 8
  · have hlt : i / 8 < b.length := by omega
    rw [h, List.getD_eq_getElem?_getD, List.getElem?_set_self hlt]
    show (b.getD (i / 8) 0#8 ^^^ BitVec.ofNat 8 (2 ^ (p % 8))).getLsbD (i % 8) = _
    rw [BitVec.getLsbD_xor, BitVec.getLsbD_ofNat, Nat.testBit_two_pow]
    have e1 : decide (i % 8 < 8) = true := by simp; omega
    have e2 : decide (p % 8 = i % 8) = decide (i = p) := by rw [decide_eq_decide]; omega
    rw [e1, e2, Bool.true_and]
  · have e : decide (i = p) = false := by simp; intro e; subst e; exact h rfl
    rw [List.getD_eq_getElem?_getD, List.getElem?_set_ne h, ← List.getD_eq_getElem?_getD, e, Bool.xor_false]
theorem bitOf_flips (b : List (BitVec 8)) (at_ : Nat) (t : BitVec 32) (k : Nat) (hk : k ≤ 32) (i : Nat) (hi : i < 8 * b.length) :
    bitOf (flips b at_ t k) i = (bitOf b i ^^ (decide (at_ ≤ i) && (decide (i - at_ < k) && t.getLsbD (i - at_)))) := by
  induction k with
  | zero => simp [flips]
  | succ k ih =>
    rw [flips]
    by_cases h : at_ + k < 8 * b.length ∧ t.getLsbD k = true
    · rw [if_pos h, bitOf_flipAt _ _ _ (by rw [flips_length]; exact h.1), ih (by omega)]
      by_cases e : i = at_ + k
      · subst e
        have e1 : at_ + k - at_ = k := by omega
        simp [e1, h.2]
      · have e2 : decide (i = at_ + k) = false := by simp [e]
        rw [e2, Bool.xor_false]
        by_cases ha : at_ ≤ i
        · have e3 : decide (i - at_ < k + 1) = decide (i - at_ < k) := by rw [decide_eq_decide]; omega
          rw [e3]
        · simp [ha]
    · rw [if_neg h, ih (by omega)]
      by_cases ha : at_ ≤ i
      · by_cases e : i - at_ = k
        · have hk2 : t.getLsbD k = false := by
            have : at_ + k < 8 * b.length := by omega
            cases hb : t.getLsbD k with
            | false => rfl
            | true => exact absurd ⟨this, hb⟩ h
          rw [e, hk2]; simp
        · have e3 : decide (i - at_ < k + 1) = decide (i - at_ < k) := by rw [decide_eq_decide]; omega
          rw [e3]
      · simp [ha]
theorem flips_law (b : List (BitVec 8)) (at_ : Nat) (t : BitVec 32) : (b = flips b at_ t 32) ↔ (refSum b = refSum (flips b at_ t 32)) := by
  refine burst_law b _ at_ t (flips_length _ _ _ _) (fun i hi => ?_)
  rw [bitOf_flips b at_ t 32 (Nat.le_refl _) i hi]
  unfold win
  by_cases h32 : i - at_ < 32
  · simp [h32]
  · rw [BitVec.getLsbD_of_ge t _ (by omega)]; simp
end Go.Proofs.Ytbbanicjlfabgaa
