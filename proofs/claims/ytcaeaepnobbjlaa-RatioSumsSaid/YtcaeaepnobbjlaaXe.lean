import Derived.Test.YtcaeaepnobbjlaaXd
import Derived.Test.YtcaeaepnobbjlaaXl
namespace Go.Proofs.Ytcaeaepnobbjlaa
set_option linter.unusedVariables false
set_option linter.unusedSimpArgs false
open Go.RowKit

theorem bitLen_spec : ∀ (x : Nat), 0 < x → x < 2 ^ 64 → 1 ≤ Lib.bitLen x ∧ 2 ^ (Lib.bitLen x - 1) ≤ x ∧ x < 2 ^ Lib.bitLen x := by
  intro x
  induction x using Nat.strongRecOn with
  | ind x ih =>
    intro h0 h1
    rw [Lib.bitLen_half x (by omega) h1]
    by_cases h : x / 2 = 0
    · have hx : x = 1 := by omega
      subst hx
      refine ⟨by omega, ?_, ?_⟩ <;> decide
    · obtain ⟨a, b, c⟩ := ih (x / 2) (by omega) (by omega) (by omega)
      obtain ⟨n, hn⟩ : ∃ n, Lib.bitLen (x / 2) = n + 1 := ⟨Lib.bitLen (x / 2) - 1, by omega⟩
      rw [hn] at b c ⊢
      rw [Nat.add_sub_cancel] at b
      rw [show 1 + (n + 1) - 1 = n + 1 by omega, show 1 + (n + 1) = (n + 1) + 1 by omega, Nat.pow_succ 2 (n + 1)]
      rw [Nat.pow_succ] at c ⊢
      refine ⟨by omega, by omega, by omega⟩

set_option maxRecDepth 100000 in
set_option maxHeartbeats 4000000 in
theorem div64_zero (lo y q r : Nat) (hy : 1 ≤ y) (f1 : IntKind.u64.wrap ((lo : Int) / y) = q) (f2 : (lo : Int) % y = r) (w : World) :
    Calls Try.prog 81 #[.int .u64 0, .int .u64 lo, .int .u64 y] w fun e w' => e = .returned (.tuple #[.int .u64 q, .int .u64 r]) ∧ Below w.heap.size w w' := by
  have d1 : ((y : Int) == 0) = false := by simp; omega
  have d2 : decide (y = 0) = false := decide_eq_false (by omega)
  have d4 : (y : Int) ≠ 0 := by omega
  clear hy
  go_enter Try.func81, Try.ntmps81
  go_wp2_with fail
  go_region
  go_wp2_with fail
  exact bodyPost_ret (v := .tuple #[.int .u64 q, .int .u64 r]) (by simp [results, Try.results81, go_sem, f2]) rfl ⟨rfl, (Below.refl _ _).drew⟩

theorem low32b (v : Nat) (hv : v < 18446744073709551616) : bits .and .u64 (v : Int) 4294967295 = ((v % 4294967296 : Nat) : Int) := by
  have h := bits_and_u64_nat v 4294967295 hv (by omega)
  have e : v &&& 4294967295 = v % 4294967296 := Nat.and_two_pow_sub_one_eq_mod v 32
  rw [e] at h
  exact h

set_option maxRecDepth 100000 in
set_option maxHeartbeats 1000000 in
theorem div64_any (hi lo y : Nat) (hy : y < M) (hh : hi < y) (hl : lo < M) (w : World) :
    Calls Try.prog 81 #[.int .u64 hi, .int .u64 lo, .int .u64 y] w fun e w' => e = .returned (.tuple #[.int .u64 (((hi * M + lo) / y : Nat) : Int), .int .u64 (((hi * M + lo) % y : Nat) : Int)]) ∧ Below w.heap.size w w' := by
  by_cases h0 : hi = 0
  · subst h0
    rw [Nat.zero_mul, Nat.zero_add]
    refine div64_zero lo y (lo / y) (lo % y) (by omega) ?_ ?_ w
    · rw [← Int.natCast_ediv]; exact wrapq _ (Nat.lt_of_le_of_lt (Nat.div_le_self _ _) hl)
    · rw [← Int.natCast_emod]
  · have h64 : M = 2 ^ 64 := M_pow
    obtain ⟨a1, a2, a3⟩ := bitLen_spec y (by omega) (by rw [← h64]; exact hy)
    have a4 : Lib.bitLen y ≤ 64 := Lib.bitLen_le y 64 (by omega) (by rw [← h64]; exact hy)
    have hlz := bits_LeadingZeros64 (y : Int)
    obtain ⟨j, hj⟩ : ∃ j, Lib.bitLen y = j := ⟨_, rfl⟩
    rw [Int.toNat_natCast, hj] at hlz
    rw [hj] at a1 a2 a3 a4
    obtain ⟨s, hs⟩ : ∃ s, j + s = 64 := ⟨64 - j, by omega⟩
    have hK : 0 < 2 ^ s := Nat.two_pow_pos s
    have hJ : 0 < 2 ^ j := Nat.two_pow_pos j
    have hJK : 2 ^ s * 2 ^ j = M := M_split s j hs
    have hMl : M = 18446744073709551616 := M_eq
    have hv2 : 9223372036854775808 ≤ y * 2 ^ s := by
      have h1 : 2 ^ (j - 1) * 2 ^ s ≤ y * 2 ^ s := Nat.mul_le_mul_right _ a2
      rw [← Nat.pow_add, show j - 1 + s = 63 by omega] at h1
      omega
    have w1 := word_up y s j hs
    have w2 := word_up hi s j hs
    have w3 := word_down lo j a4
    have w4 := word_up lo s j hs
    have w6 := fun (x : Nat) => word_down x s (by omega)
    rw [Nat.mod_eq_of_lt a3] at w1
    rw [Nat.mod_eq_of_lt (by omega)] at w2
    generalize hKe : 2 ^ s = K at *
    generalize hJe : 2 ^ j = J at *
    have hlK : lo / J < K := by rw [Nat.div_lt_iff_lt_mul hJ, hJK]; exact hl
    have hyv : y * K < M := by rw [← hJK, Nat.mul_comm]; exact Nat.mul_lt_mul_of_pos_left a3 hK
    have hl2 := Nat.div_add_mod lo J
    have hmJ : lo % J < J := Nat.mod_lt _ hJ
    -- the digits
    obtain ⟨u, hu⟩ : ∃ u, u = K * hi + lo / J := ⟨_, rfl⟩
    obtain ⟨z, hz⟩ : ∃ z, z = K * (lo % J) := ⟨_, rfl⟩
    have hX : u * M + z = (hi * M + lo) * K := by
      rw [hu, hz]
      have e1 : (hi * M + lo) * K = K * hi * M + K * lo := by rw [Nat.add_mul, Nat.mul_comm K lo, Nat.mul_right_comm, Nat.mul_comm K hi]
      have e2 : K * lo = (lo / J) * M + K * (lo % J) := by
        rw [← hJK]
        conv => lhs; rw [← hl2, Nat.mul_add]
        rw [Nat.mul_comm (lo / J), Nat.mul_assoc]
      rw [e1, e2, Nat.add_mul]
      omega
    have hzM : z < M := by
      rw [hz, ← hJK]; exact Nat.mul_lt_mul_of_pos_left hmJ hK
    have huv : u < y * K := by
      have h1 : (hi * M + lo) * K < (y * M) * K := by
        refine Nat.mul_lt_mul_of_pos_right ?_ hK
        have := Nat.mul_le_mul_right M (show hi + 1 ≤ y from hh)
        rw [Nat.add_mul, Nat.one_mul] at this
        omega
      rw [← hX, Nat.mul_right_comm] at h1
      refine Nat.lt_of_mul_lt_mul_right (a := M) ?_
      omega
    have w5 : bits .or .u64 ((K * hi : Nat) : Int) ((lo / J : Nat) : Int) = ((u : Nat) : Int) := by
      have h := word_or hi (lo / J) s (by rw [hKe]; exact hlK) (by rw [hKe, ← hu]; omega)
      rw [hKe, ← hu] at h
      exact h
    obtain ⟨v, hv⟩ : ∃ v, v = y * K := ⟨_, rfl⟩
    rw [Nat.mul_comm K y] at w1
    rw [← hv] at huv hyv hv2 w1
    have hp : v / 4294967296 * 4294967296 + v % 4294967296 = v := Nat.div_add_mod' v _
    have hzz : z / 4294967296 * 4294967296 + z % 4294967296 = z := Nat.div_add_mod' z _
    have hN : (u * 4294967296 + z / 4294967296) * 4294967296 + z % 4294967296 = (hi * M + lo) * K := by
      rw [← hX, show M = 4294967296 * 4294967296 by rw [M_eq], ← Nat.mul_assoc, Nat.add_mul, Nat.add_assoc, hzz]
    have k1 : KC (v / 4294967296) (v % 4294967296) u (z / 4294967296) := ⟨by omega, by omega, by omega, by omega, by omega⟩
    obtain ⟨q, hq⟩ : ∃ q, (u * 4294967296 + z / 4294967296) / v = q := ⟨_, rfl⟩
    obtain ⟨u2, hu2⟩ : ∃ u2, (u * 4294967296 + z / 4294967296) % v = u2 := ⟨_, rfl⟩
    have hu2v : u2 < v := by rw [← hu2]; exact Nat.mod_lt _ (by omega)
    have k0 : KC (v / 4294967296) (v % 4294967296) u2 (z % 4294967296) := ⟨by omega, by omega, by omega, by omega, by omega⟩
    obtain ⟨t1, t2, t3, t4⟩ := two_digits v u (z / 4294967296) (z % 4294967296) (hi * M + lo) y K hv hK (by omega) huv (by omega) (by omega) hN
    have e1 := Nat.div_add_mod (u * 4294967296 + z / 4294967296) v
    rw [hq] at t1 t3 e1
    rw [hu2] at t1 t2 t4 e1
    obtain ⟨q0, hq0⟩ : ∃ q0, (u2 * 4294967296 + z % 4294967296) / v = q0 := ⟨_, rfl⟩
    obtain ⟨r0, hr0⟩ : ∃ r0, (u2 * 4294967296 + z % 4294967296) % v = r0 := ⟨_, rfl⟩
    have e0 := Nat.div_add_mod (u2 * 4294967296 + z % 4294967296) v
    have hr0v : r0 < v := by rw [← hr0]; exact Nat.mod_lt _ (by omega)
    rw [hq0] at t1 t4 e0
    rw [hr0] at t2 e0
    have hr := w6 r0
    rw [t2] at hr
    rw [← t1]
    rw [hMl] at hyv hzM
    have hp0 : 2147483648 ≤ v / 4294967296 := by omega
    have d1 := Nat.div_add_mod u (v / 4294967296)
    have d2 := Nat.div_add_mod u2 (v / 4294967296)
    refine Calls.mono (div64_walk hi lo y s j v (v / 4294967296) (v % 4294967296) (K * hi) (lo / J) u z (z / 4294967296) (z % 4294967296) (u / (v / 4294967296)) (u % (v / 4294967296)) q u2 (u2 / (v / 4294967296)) (u2 % (v / 4294967296)) q0
      (q * 4294967296 + q0) ((hi * M + lo) % y) (((u / (v / 4294967296) * (v / 4294967296) : Nat) : Int)) (((u2 / (v / 4294967296) * (v / 4294967296) : Nat) : Int)) _ _ _ _ _ _ _ (r0 : Int)
      (fun w => ?_) (by omega) hh (by omega) k1 k0 k1.start k0.start (by rw [hp]; exact hq) (by rw [hp]; exact hq0) (wrapq s (by rw [hMl]; omega)) w1 ?_ (low32b v hyv) w2 ?_ w3 w5 (by rw [hz]; exact w4) ?_ (low32b z hzM)
      ?_ ?_ ?_ rfl rfl rfl ?_ ?_ ?_ ?_ rfl ?_ rfl rfl rfl ?_ hr (by omega) w) ?_
    · have h := hlz w (by omega) (by rw [hMl] at hy; omega)
      rw [show (64 - (j : Int)) = (s : Int) by omega] at h
      exact h
    · omega
    · rw [IntKind.wrap_u64]; omega
    · omega
    · rw [← Int.natCast_ediv]; exact wrapq _ (Nat.lt_of_le_of_lt (Nat.div_le_self _ _) (by omega))
    · rw [← Int.natCast_mul]; exact wrapq _ (Nat.lt_of_le_of_lt (Nat.div_mul_le_self _ _) (by omega))
    · rw [Nat.mul_comm] at d1
      generalize u / (v / 4294967296) * (v / 4294967296) = A at *
      generalize u % (v / 4294967296) = B at *
      rw [IntKind.wrap_u64]; omega
    · rw [IntKind.wrap_u64, IntKind.wrap_u64, IntKind.wrap_u64, IntKind.wrap_u64, ← Int.natCast_mul, Nat.mul_comm q v]
      generalize v * q = A at *
      omega
    · rw [← Int.natCast_ediv]; exact wrapq _ (Nat.lt_of_le_of_lt (Nat.div_le_self _ _) (by omega))
    · rw [← Int.natCast_mul]; exact wrapq _ (Nat.lt_of_le_of_lt (Nat.div_mul_le_self _ _) (by omega))
    · rw [Nat.mul_comm] at d2
      generalize u2 / (v / 4294967296) * (v / 4294967296) = A at *
      generalize u2 % (v / 4294967296) = B at *
      rw [IntKind.wrap_u64]; omega
    · rw [IntKind.wrap_u64, IntKind.wrap_u64]; omega
    · rw [IntKind.wrap_u64, IntKind.wrap_u64, IntKind.wrap_u64, IntKind.wrap_u64, ← Int.natCast_mul, Nat.mul_comm q0 v]
      generalize v * q0 = A at *
      omega
    · rintro e w' ⟨rfl, rfl⟩
      exact ⟨rfl, Below.refl _ _⟩

end Go.Proofs.Ytcaeaepnobbjlaa
