/- How a number of two words is divided by one, as Go's bits.Div64 does it: the plain law. -/
import Derived.Test.YtcaeaepnobbjlaaA
namespace Go.Proofs.Ytcaeaepnobbjlaa
set_option linter.unusedVariables false
set_option linter.unusedSimpArgs false

structure KI (p t u c q r : Nat) : Prop where
  e : q * p + r = u
  le : (u * 4294967296 + c) / (p * 4294967296 + t) ≤ q
  hr : r < 4294967296
  hq : q ≤ 4294967297
structure KC (p t u c : Nat) : Prop where
  hp1 : 2147483648 ≤ p
  hp2 : p < 4294967296
  ht : t < 4294967296
  hu : u < p * 4294967296 + t
  hc : c < 4294967296

theorem KC.start {p t u c : Nat} (h : KC p t u c) : KI p t u c (u / p) (u % p) := by
  obtain ⟨hp1, hp2, ht, hu, hc⟩ := h
  have e := Nat.div_add_mod u p
  rw [Nat.mul_comm] at e
  have hm : u % p < p := Nat.mod_lt _ (by omega)
  refine ⟨e, ?_, by omega, ?_⟩
  · rw [Nat.le_div_iff_mul_le (by omega)]
    have hQ := Nat.div_mul_le_self (u * 4294967296 + c) (p * 4294967296 + t)
    generalize (u * 4294967296 + c) / (p * 4294967296 + t) = Q at *
    rw [Nat.mul_add, ← Nat.mul_assoc] at hQ
    generalize Q * p = X at *
    generalize Q * t = Y at *
    omega
  · have h2 : u / p < 4294967298 := by
      rw [Nat.div_lt_iff_lt_mul (by omega)]
      omega
    omega
theorem KI.less {p t u c q r : Nat} (h : KI p t u c q r) (k : KC p t u c) (ht : 4294967296 ≤ q ∨ 4294967296 * r + c < q * t) :
    (u * 4294967296 + c) / (p * 4294967296 + t) ≤ q - 1 ∧ 1 ≤ q := by
  obtain ⟨e, le, hr, hq⟩ := h
  obtain ⟨hp1, hp2, ht', hu, hc⟩ := k
  have h1 : (u * 4294967296 + c) / (p * 4294967296 + t) < q := by
    rw [Nat.div_lt_iff_lt_mul (by omega)]
    rcases ht with ht | ht
    · have := Nat.mul_le_mul_right (p * 4294967296 + t) ht
      omega
    · subst e
      rw [Nat.mul_add, ← Nat.mul_assoc]
      generalize q * p = X at *
      generalize q * t = Y at *
      omega
  exact ⟨Nat.le_sub_one_of_lt h1, Nat.lt_of_le_of_lt (Nat.zero_le _) h1⟩
theorem KI.next {p t u c q r : Nat} (h : KI p t u c q r) (k : KC p t u c) (ht : 4294967296 ≤ q ∨ 4294967296 * r + c < q * t) (hr : r + p < 4294967296) : KI p t u c (q - 1) (r + p) := by
  obtain ⟨h1, h2⟩ := h.less k ht
  refine ⟨?_, h1, hr, by have := h.hq; omega⟩
  have e := h.e
  obtain ⟨x, rfl⟩ : ∃ x, q = x + 1 := ⟨q - 1, by omega⟩
  rw [Nat.add_mul, Nat.one_mul] at e
  rw [Nat.add_sub_cancel]
  omega
theorem KI.brk {p t u c q r : Nat} (h : KI p t u c q r) (k : KC p t u c) (ht : 4294967296 ≤ q ∨ 4294967296 * r + c < q * t) (hr : 4294967296 ≤ r + p) : (u * 4294967296 + c) / (p * 4294967296 + t) = q - 1 := by
  obtain ⟨h1, h2⟩ := h.less k ht
  refine Nat.le_antisymm h1 ?_
  have hp := k.hp1
  rw [Nat.le_div_iff_mul_le (by omega)]
  have e := h.e
  have hq := h.hq
  have htt := k.ht
  obtain ⟨x, rfl⟩ : ∃ x, q = x + 1 := ⟨q - 1, by omega⟩
  rw [Nat.add_mul, Nat.one_mul] at e
  rw [Nat.add_sub_cancel, Nat.mul_add, ← Nat.mul_assoc]
  have h3 : x * t ≤ 4294967296 * 4294967296 := Nat.mul_le_mul (by omega) (by omega)
  generalize x * p = X at *
  generalize x * t = Y at *
  omega
theorem KI.fin {p t u c q r : Nat} (h : KI p t u c q r) (k : KC p t u c) (ht : q * t ≤ 4294967296 * r + c) : (u * 4294967296 + c) / (p * 4294967296 + t) = q := by
  refine Nat.le_antisymm h.le ?_
  have hp := k.hp1
  rw [Nat.le_div_iff_mul_le (by omega)]
  have e := h.e
  rw [Nat.mul_add, ← Nat.mul_assoc]
  generalize q * p = X at *
  generalize q * t = Y at *
  omega

/-- Both digits together. -/
theorem two_digits (v u c1 c0 X y K : Nat) (hv : v = y * K) (hK : 0 < K) (hy : 0 < y) (hu : u < v) (hc1 : c1 < 4294967296) (hc0 : c0 < 4294967296) (hX : (u * 4294967296 + c1) * 4294967296 + c0 = X * K) :
    (u * 4294967296 + c1) / v * 4294967296 + ((u * 4294967296 + c1) % v * 4294967296 + c0) / v = X / y ∧
    ((u * 4294967296 + c1) % v * 4294967296 + c0) % v / K = X % y ∧ (u * 4294967296 + c1) / v < 4294967296 ∧ ((u * 4294967296 + c1) % v * 4294967296 + c0) / v < 4294967296 := by
  have hv0 : 0 < v := by rw [hv]; exact Nat.mul_pos hy hK
  obtain ⟨U, hU⟩ : ∃ U, U = u * 4294967296 + c1 := ⟨_, rfl⟩
  rw [← hU] at hX ⊢
  have e1 := Nat.div_add_mod U v
  have l1 : U % v < v := Nat.mod_lt _ hv0
  have q1 : U / v < 4294967296 := by
    rw [Nat.div_lt_iff_lt_mul hv0]; omega
  obtain ⟨Q1, hQ1⟩ : ∃ Q, U / v = Q := ⟨_, rfl⟩
  obtain ⟨R1, hR1⟩ : ∃ R, U % v = R := ⟨_, rfl⟩
  rw [hQ1] at e1 q1 ⊢
  rw [hR1] at e1 l1 ⊢
  obtain ⟨V, hV⟩ : ∃ V, V = R1 * 4294967296 + c0 := ⟨_, rfl⟩
  rw [← hV]
  have e0 := Nat.div_add_mod V v
  have l0 : V % v < v := Nat.mod_lt _ hv0
  have q0 : V / v < 4294967296 := by
    rw [Nat.div_lt_iff_lt_mul hv0]; omega
  obtain ⟨Q0, hQ0⟩ : ∃ Q, V / v = Q := ⟨_, rfl⟩
  obtain ⟨R0, hR0⟩ : ∃ R, V % v = R := ⟨_, rfl⟩
  rw [hQ0] at e0 q0 ⊢
  rw [hR0] at e0 l0 ⊢
  have hN : X * K = (Q1 * 4294967296 + Q0) * v + R0 := by
    have h1 : (Q1 * 4294967296 + Q0) * v = (v * Q1) * 4294967296 + v * Q0 := by rw [Nat.add_mul, Nat.mul_right_comm, Nat.mul_comm Q1 v, Nat.mul_comm Q0 v]
    rw [← hX, h1]
    clear hX hu hc1 hc0 l1 q1 l0 q0 h1 hv0 hv hU hQ1 hR1 hQ0 hR0
    generalize v * Q1 = A at *
    generalize v * Q0 = B at *
    omega
  have hd : X * K / v = Q1 * 4294967296 + Q0 := by
    rw [hN, Nat.mul_comm, Nat.mul_add_div hv0, Nat.div_eq_of_lt l0, Nat.add_zero]
  have hm : X * K % v = R0 := by
    rw [hN, Nat.mul_comm, Nat.mul_add_mod, Nat.mod_eq_of_lt l0]
  rw [hv, Nat.mul_div_mul_right _ _ hK] at hd
  rw [hv, Nat.mul_mod_mul_right] at hm
  exact ⟨hd.symm, by rw [← hm, Nat.mul_div_cancel _ hK], q1, q0⟩

end Go.Proofs.Ytcaeaepnobbjlaa
