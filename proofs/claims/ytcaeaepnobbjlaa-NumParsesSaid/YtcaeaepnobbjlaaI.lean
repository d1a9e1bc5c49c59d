import Derived.Test.YtcaeaepnobbjlaaH
namespace Go.Proofs.Ytcaeaepnobbjlaa
set_option linter.unusedVariables false
set_option linter.unusedSimpArgs false
open Go.RowKit

theorem shift_split (K J h l : Nat) (hK : 0 < K) (hJ : 0 < J) (hl : l < K * J) :
    (h * (K * J) + l) * K % ((K * J) * (K * J)) = (K * (h % J) + l / J) * (K * J) + K * (l % J) ∧ K * (h % J) + l / J < K * J ∧ K * (l % J) < K * J := by
  have ha : l / J < K := by rw [Nat.div_lt_iff_lt_mul hJ]; exact hl
  have hb : l % J < J := Nat.mod_lt _ hJ
  have hd : h % J < J := Nat.mod_lt _ hJ
  have el : J * (l / J) + l % J = l := Nat.div_add_mod l J
  have eh : J * (h / J) + h % J = h := Nat.div_add_mod h J
  have h1 : K * (h % J) + K ≤ K * J := by
    have := Nat.mul_le_mul_left K (show h % J + 1 ≤ J from hd)
    rwa [Nat.mul_add, Nat.mul_one] at this
  have h2 : K * (l % J) + K ≤ K * J := by
    have := Nat.mul_le_mul_left K (show l % J + 1 ≤ J from hb)
    rwa [Nat.mul_add, Nat.mul_one] at this
  refine ⟨?_, by omega, by omega⟩
  generalize l / J = a at *
  generalize l % J = b at *
  generalize h / J = c at *
  generalize h % J = d at *
  subst el eh
  have e : ((J * c + d) * (K * J) + (J * a + b)) * K = (K * J) * (K * J) * c + ((K * d + a) * (K * J) + K * b) := by
    simp only [Nat.add_mul, Nat.mul_add, Nat.mul_assoc, Nat.mul_comm, Nat.mul_left_comm, Nat.add_assoc]
  rw [e, Nat.mul_add_mod]
  refine Nat.mod_eq_of_lt ?_
  have h3 : (K * d + a + 1) * (K * J) ≤ (K * J) * (K * J) := Nat.mul_le_mul_right _ (by omega)
  rw [Nat.add_mul, Nat.one_mul] at h3
  omega

theorem M_split (k j : Nat) (hk : j + k = 64) : 2 ^ k * 2 ^ j = M := by rw [← Nat.pow_add, Nat.add_comm, hk, M_pow]
theorem MM_MM : M * M = MM := by decide

theorem left_low (h l k j : Nat) (hk : j + k = 64) (hl : l < M) : (h * M + l) * 2 ^ k % MM = (2 ^ k * (h % 2 ^ j) + l / 2 ^ j) * M + 2 ^ k * (l % 2 ^ j) ∧ 2 ^ k * (h % 2 ^ j) + l / 2 ^ j < M ∧ 2 ^ k * (l % 2 ^ j) < M := by
  have := shift_split (2 ^ k) (2 ^ j) h l (Nat.two_pow_pos _) (Nat.two_pow_pos _) (by rw [M_split k j hk]; exact hl)
  rwa [M_split k j hk, MM_MM] at this
theorem left_high (h l j : Nat) : (h * M + l) * 2 ^ (j + 64) % MM = (l * 2 ^ j % M) * M := by
  rw [Nat.pow_add, ← M_pow, ← Nat.mul_assoc, ← MM_MM, Nat.mul_mod_mul_right, Nat.add_mul, Nat.mul_assoc, Nat.mul_comm M, ← Nat.mul_assoc, Nat.add_comm, Nat.add_mul_mod_self_right]
theorem right_low (h l k j : Nat) (hk : j + k = 64) (hl : l < M) : (h * M + l) / 2 ^ k = (h / 2 ^ k) * M + (2 ^ j * (h % 2 ^ k) + l / 2 ^ k) ∧ 2 ^ j * (h % 2 ^ k) + l / 2 ^ k < M := by
  have hp := Nat.two_pow_pos k
  have hs := M_split k j hk
  have ha : l / 2 ^ k < 2 ^ j := by rw [Nat.div_lt_iff_lt_mul hp, Nat.mul_comm, hs]; exact hl
  have hb : h % 2 ^ k < 2 ^ k := Nat.mod_lt _ hp
  have eh : 2 ^ k * (h / 2 ^ k) + h % 2 ^ k = h := Nat.div_add_mod h _
  constructor
  · rw [← hs, ← Nat.mul_assoc, Nat.mul_comm h, Nat.mul_assoc, Nat.mul_add_div hp]
    generalize h / 2 ^ k = c at *
    generalize h % 2 ^ k = d at *
    rw [← eh, Nat.add_mul, ← Nat.add_assoc, Nat.mul_comm d]
    congr 2
    rw [Nat.mul_comm c, Nat.mul_right_comm]
  · have h1 : 2 ^ j * (h % 2 ^ k) + 2 ^ j ≤ 2 ^ j * 2 ^ k := by
      have := Nat.mul_le_mul_left (2 ^ j) (show h % 2 ^ k + 1 ≤ 2 ^ k from hb)
      rwa [Nat.mul_add, Nat.mul_one] at this
    rw [Nat.mul_comm (2 ^ j) (2 ^ k), hs] at h1
    omega
theorem right_high (h l j : Nat) (hl : l < M) : (h * M + l) / 2 ^ (j + 64) = h / 2 ^ j := by
  rw [Nat.add_comm j, Nat.pow_add, ← M_pow, ← Nat.div_div_eq_div_mul, Nat.mul_comm h, Nat.mul_add_div (by rw [M_eq]; omega), Nat.div_eq_of_lt hl, Nat.add_zero]

/-- A shift up of one word, as the model has it. -/
theorem word_up (x k j : Nat) (hk : j + k = 64) : IntKind.u64.wrap ((x : Int) * 2 ^ min k 64) = ((2 ^ k * (x % 2 ^ j) : Nat) : Int) := by
  have e : ((x : Int) * 2 ^ min k 64) = ((x * 2 ^ k : Nat) : Int) := by rw [Nat.min_eq_left (by omega)]; simp
  rw [e, wrap_mod]
  congr 1
  rw [show (18446744073709551616 : Nat) = 2 ^ k * 2 ^ j from (M_split k j hk).symm, Nat.mul_comm x, Nat.mul_mod_mul_left]
theorem word_down (x k : Nat) (hk : k ≤ 64) : (x : Int) / 2 ^ min k 64 = ((x / 2 ^ k : Nat) : Int) := by
  rw [Nat.min_eq_left hk]; simp
theorem word_or (x y k : Nat) (hy : y < 2 ^ k) (hx : 2 ^ k * x + y < M) : bits .or .u64 ((2 ^ k * x : Nat) : Int) (y : Int) = ((2 ^ k * x + y : Nat) : Int) := by
  rw [M_eq] at hx
  rw [bits_or_u64_nat _ _ (by omega) (by omega), Nat.two_pow_add_eq_or_of_lt hy]

set_option maxHeartbeats 1000000 in
theorem left_high_walk (ah al k j x : Nat) (hj : j + 64 = k) (h2 : k < 128) (he : IntKind.u64.wrap ((al : Int) * 2 ^ min j 64) = (x : Int)) (w : World) :
    Calls Try.prog 30 #[wv ah al, .int .i64 k] w fun e w' => e = .returned (wv x 0) ∧ Below w.heap.size w w' := by
  have d1 : decide ((k : Int) < 1) = false := by simp; omega
  have d2 : decide ((k : Int) ≥ 128) = false := by simp; omega
  have d3 : decide ((k : Int) ≥ 64) = true := by simp; omega
  have e1 : IntKind.i64.wrap ((k : Int) - 64) = (j : Int) := by rw [IntKind.wrap_i64]; omega
  have z : ¬ (j : Int) < 0 := by omega
  clear h2 hj
  go_enter Try.func30, Try.ntmps30
  go_wp2_with fail
  refine bodyPost_ret (v := wv x 0) (by simp [results, Try.results30, go_sem]) rfl ⟨rfl, ?_⟩
  exact ((Below.refl _ _).alloc (Nat.le_refl _) _).alloc (by simp) _

set_option maxHeartbeats 1000000 in
theorem left_low_walk (ah al k j p q r s : Nat) (hj : j + k = 64) (hk1 : 1 ≤ k) (hk2 : k < 64) (h1 : IntKind.u64.wrap ((ah : Int) * 2 ^ min k 64) = (p : Int)) (h2 : (al : Int) / 2 ^ min j 64 = (q : Int)) (h3 : bits .or .u64 (p : Int) (q : Int) = (r : Int)) (h4 : IntKind.u64.wrap ((al : Int) * 2 ^ min k 64) = (s : Int)) (w : World) :
    Calls Try.prog 30 #[wv ah al, .int .i64 k] w fun e w' => e = .returned (wv r s) ∧ Below w.heap.size w w' := by
  have d1 : decide ((k : Int) < 1) = false := by simp; omega
  have d2 : decide ((k : Int) ≥ 128) = false := by simp; omega
  have d3 : decide ((k : Int) ≥ 64) = false := by simp; omega
  have e1 : IntKind.i64.wrap (64 - (k : Int)) = (j : Int) := by rw [IntKind.wrap_i64]; omega
  have z : ¬ (j : Int) < 0 := by omega
  have z2 : ¬ (k : Int) < 0 := by omega
  clear hk1 hk2 hj
  go_enter Try.func30, Try.ntmps30
  go_wp2_with fail
  go_region
  go_wp2_with fail
  refine bodyPost_ret (v := wv r s) (by simp [results, Try.results30, go_sem]) rfl ⟨rfl, ?_⟩
  exact (((Below.refl _ _).alloc (Nat.le_refl _) _).alloc (by simp) _).drew

set_option maxHeartbeats 1000000 in
theorem left_none_walk (ah al : Nat) (k : Int) (hk : k < 1) (w : World) :
    Calls Try.prog 30 #[wv ah al, .int .i64 k] w fun e w' => e = .returned (wv ah al) ∧ Below w.heap.size w w' := by
  have d1 : decide (k < 1) = true := by simpa using hk
  clear hk
  go_enter Try.func30, Try.ntmps30
  go_wp2_with fail
  refine bodyPost_ret (v := wv ah al) (by simp [results, Try.results30, go_sem]) rfl ⟨rfl, ?_⟩
  exact ((Below.refl _ _).alloc (Nat.le_refl _) _).alloc (by simp) _

set_option maxHeartbeats 1000000 in
theorem left_all_walk (ah al : Nat) (k : Int) (hk : 128 ≤ k) (w : World) :
    Calls Try.prog 30 #[wv ah al, .int .i64 k] w fun e w' => e = .returned (wv 0 0) ∧ Below w.heap.size w w' := by
  have d1 : decide (k < 1) = false := by simp; omega
  have d2 : decide (k ≥ 128) = true := by simpa using hk
  clear hk
  go_enter Try.func30, Try.ntmps30
  go_wp2_with fail
  refine bodyPost_ret (v := wv 0 0) (by simp [results, Try.results30, go_sem]) rfl ⟨rfl, ?_⟩
  exact ((Below.refl _ _).alloc (Nat.le_refl _) _).alloc (by simp) _

set_option maxHeartbeats 1000000 in
theorem right_high_walk (ah al k j x : Nat) (hj : j + 64 = k) (h2 : k < 128) (he : (ah : Int) / 2 ^ min j 64 = (x : Int)) (w : World) :
    Calls Try.prog 32 #[wv ah al, .int .i64 k] w fun e w' => e = .returned (wv 0 x) ∧ Below w.heap.size w w' := by
  have d1 : decide ((k : Int) < 1) = false := by simp; omega
  have d2 : decide ((k : Int) ≥ 128) = false := by simp; omega
  have d3 : decide ((k : Int) ≥ 64) = true := by simp; omega
  have e1 : IntKind.i64.wrap ((k : Int) - 64) = (j : Int) := by rw [IntKind.wrap_i64]; omega
  have z : ¬ (j : Int) < 0 := by omega
  clear h2 hj
  go_enter Try.func32, Try.ntmps32
  go_wp2_with fail
  refine bodyPost_ret (v := wv 0 x) (by simp [results, Try.results32, go_sem]) rfl ⟨rfl, ?_⟩
  exact ((Below.refl _ _).alloc (Nat.le_refl _) _).alloc (by simp) _

set_option maxHeartbeats 1000000 in
theorem right_low_walk (ah al k j p q r s : Nat) (hj : j + k = 64) (hk1 : 1 ≤ k) (hk2 : k < 64) (h1 : IntKind.u64.wrap ((ah : Int) * 2 ^ min j 64) = (p : Int)) (h2 : (al : Int) / 2 ^ min k 64 = (q : Int)) (h3 : bits .or .u64 (q : Int) (p : Int) = (r : Int)) (h4 : (ah : Int) / 2 ^ min k 64 = (s : Int)) (w : World) :
    Calls Try.prog 32 #[wv ah al, .int .i64 k] w fun e w' => e = .returned (wv s r) ∧ Below w.heap.size w w' := by
  have d1 : decide ((k : Int) < 1) = false := by simp; omega
  have d2 : decide ((k : Int) ≥ 128) = false := by simp; omega
  have d3 : decide ((k : Int) ≥ 64) = false := by simp; omega
  have e1 : IntKind.i64.wrap (64 - (k : Int)) = (j : Int) := by rw [IntKind.wrap_i64]; omega
  have z : ¬ (j : Int) < 0 := by omega
  have z2 : ¬ (k : Int) < 0 := by omega
  clear hk1 hk2 hj
  go_enter Try.func32, Try.ntmps32
  go_wp2_with fail
  go_region
  go_wp2_with fail
  refine bodyPost_ret (v := wv s r) (by simp [results, Try.results32, go_sem]) rfl ⟨rfl, ?_⟩
  exact (((Below.refl _ _).alloc (Nat.le_refl _) _).alloc (by simp) _).drew

set_option maxHeartbeats 1000000 in
theorem right_none_walk (ah al : Nat) (k : Int) (hk : k < 1) (w : World) :
    Calls Try.prog 32 #[wv ah al, .int .i64 k] w fun e w' => e = .returned (wv ah al) ∧ Below w.heap.size w w' := by
  have d1 : decide (k < 1) = true := by simpa using hk
  clear hk
  go_enter Try.func32, Try.ntmps32
  go_wp2_with fail
  refine bodyPost_ret (v := wv ah al) (by simp [results, Try.results32, go_sem]) rfl ⟨rfl, ?_⟩
  exact ((Below.refl _ _).alloc (Nat.le_refl _) _).alloc (by simp) _

set_option maxHeartbeats 1000000 in
theorem right_all_walk (ah al : Nat) (k : Int) (hk : 128 ≤ k) (w : World) :
    Calls Try.prog 32 #[wv ah al, .int .i64 k] w fun e w' => e = .returned (wv 0 0) ∧ Below w.heap.size w w' := by
  have d1 : decide (k < 1) = false := by simp; omega
  have d2 : decide (k ≥ 128) = true := by simpa using hk
  clear hk
  go_enter Try.func32, Try.ntmps32
  go_wp2_with fail
  refine bodyPost_ret (v := wv 0 0) (by simp [results, Try.results32, go_sem]) rfl ⟨rfl, ?_⟩
  exact ((Below.refl _ _).alloc (Nat.le_refl _) _).alloc (by simp) _

theorem W_halves (h l : Nat) (hl : l < M) (n : Nat) (hn : n = h * M + l) : W n = wv h l := by rw [hn, ← wv_W h l hl]
theorem W_of (n : Nat) : W n = wv (n / M) (n % M) := rfl

theorem left_any (n : Nat) (hn : n < MM) (k : Int) (w : World) :
    Calls Try.prog 30 #[W n, .int .i64 k] w fun e w' => e = .returned (W (n * 2 ^ k.toNat % MM)) ∧ Below w.heap.size w w' := by
  have hl : n % M < M := Nat.mod_lt _ (by rw [M_eq]; omega)
  have en : n = n / M * M + n % M := (Nat.div_add_mod' n M).symm
  by_cases c1 : k < 1
  · rw [show k.toNat = 0 by omega, Nat.pow_zero, Nat.mul_one, Nat.mod_eq_of_lt hn]
    exact left_none_walk _ _ k c1 w
  · by_cases c2 : 128 ≤ k
    · have e : n * 2 ^ k.toNat % MM = 0 := by
        obtain ⟨d, hd⟩ : ∃ d, k.toNat = d + 128 := ⟨k.toNat - 128, by omega⟩
        rw [hd, Nat.pow_add, ← MM_pow, ← Nat.mul_assoc, Nat.mul_mod_left]
      rw [e]
      exact left_all_walk _ _ k c2 w
    · obtain ⟨m, rfl⟩ : ∃ m : Nat, k = m := ⟨k.toNat, by omega⟩
      rw [Int.toNat_natCast]
      by_cases c3 : 64 ≤ m
      · obtain ⟨j, rfl⟩ : ∃ j, m = j + 64 := ⟨m - 64, by omega⟩
        have h := left_high_walk (n / M) (n % M) (j + 64) j (2 ^ j * (n % M % 2 ^ (64 - j))) rfl (by omega) (word_up _ _ (64 - j) (by omega)) w
        have e : W (n * 2 ^ (j + 64) % MM) = wv (2 ^ j * (n % M % 2 ^ (64 - j))) 0 := by
          refine W_halves _ _ (by rw [M_eq]; omega) _ ?_
          rw [Nat.add_zero]
          conv => lhs; rw [en]
          rw [left_high]
          congr 1
          rw [← M_split j (64 - j) (by omega), Nat.mul_comm, Nat.mul_mod_mul_left]
        rw [e]; exact h
      · obtain ⟨a1, a2, a3⟩ := left_low (n / M) (n % M) m (64 - m) (by omega) hl
        have h := left_low_walk (n / M) (n % M) m (64 - m) _ _ _ _ (by omega) (by omega) (by omega) (word_up _ _ (64 - m) (by omega)) (word_down _ _ (by omega))
          (word_or _ _ m (by rw [Nat.div_lt_iff_lt_mul (Nat.two_pow_pos _), M_split m (64 - m) (by omega)]; exact hl) a2) (word_up _ _ (64 - m) (by omega)) w
        have e : W (n * 2 ^ m % MM) = wv (2 ^ m * (n / M % 2 ^ (64 - m)) + n % M / 2 ^ (64 - m)) (2 ^ m * (n % M % 2 ^ (64 - m))) := by
          refine W_halves _ _ a3 _ ?_
          rw [← a1, ← en]
        rw [e]; exact h

theorem right_any (n : Nat) (hn : n < MM) (k : Int) (w : World) :
    Calls Try.prog 32 #[W n, .int .i64 k] w fun e w' => e = .returned (W (n / 2 ^ k.toNat)) ∧ Below w.heap.size w w' := by
  have hl : n % M < M := Nat.mod_lt _ (by rw [M_eq]; omega)
  have en : n = n / M * M + n % M := (Nat.div_add_mod' n M).symm
  by_cases c1 : k < 1
  · rw [show k.toNat = 0 by omega, Nat.pow_zero, Nat.div_one]
    exact right_none_walk _ _ k c1 w
  · by_cases c2 : 128 ≤ k
    · have e : n / 2 ^ k.toNat = 0 := Nat.div_eq_of_lt (Nat.lt_of_lt_of_le (MM_pow ▸ hn) (Nat.pow_le_pow_right (by omega) (by omega)))
      rw [e]
      exact right_all_walk _ _ k c2 w
    · obtain ⟨m, rfl⟩ : ∃ m : Nat, k = m := ⟨k.toNat, by omega⟩
      rw [Int.toNat_natCast]
      by_cases c3 : 64 ≤ m
      · obtain ⟨j, rfl⟩ : ∃ j, m = j + 64 := ⟨m - 64, by omega⟩
        have h := right_high_walk (n / M) (n % M) (j + 64) j _ rfl (by omega) (word_down _ _ (by omega)) w
        have e : W (n / 2 ^ (j + 64)) = wv 0 (n / M / 2 ^ j) := by
          refine W_halves _ _ ?_ _ ?_
          · have : n / M < M := by rw [Nat.div_lt_iff_lt_mul (by rw [M_eq]; omega), MM_MM]; exact hn
            exact Nat.lt_of_le_of_lt (Nat.div_le_self _ _) this
          · rw [Nat.zero_mul, Nat.zero_add, ← right_high (n / M) (n % M) j hl, ← en]
        rw [e]; exact h
      · obtain ⟨a1, a2⟩ := right_low (n / M) (n % M) m (64 - m) (by omega) hl
        have hq : n % M / 2 ^ m < 2 ^ (64 - m) := by rw [Nat.div_lt_iff_lt_mul (Nat.two_pow_pos _), Nat.mul_comm, M_split m (64 - m) (by omega)]; exact hl
        have hor : bits .or .u64 ((n % M / 2 ^ m : Nat) : Int) ((2 ^ (64 - m) * (n / M % 2 ^ m) : Nat) : Int) = ((2 ^ (64 - m) * (n / M % 2 ^ m) + n % M / 2 ^ m : Nat) : Int) := by
          have a2' := Nat.lt_of_lt_of_eq a2 M_eq
          rw [bits_or_u64_nat _ _ (Nat.lt_of_le_of_lt (Nat.le_add_left _ _) a2') (Nat.lt_of_le_of_lt (Nat.le_add_right _ _) a2'), Nat.two_pow_add_eq_or_of_lt hq, Nat.or_comm]
        have h := right_low_walk (n / M) (n % M) m (64 - m) _ _ _ _ (by omega) (by omega) (by omega) (word_up _ _ m (by omega)) (word_down _ _ (by omega)) hor (word_down _ _ (by omega)) w
        have e : W (n / 2 ^ m) = wv (n / M / 2 ^ m) (2 ^ (64 - m) * (n / M % 2 ^ m) + n % M / 2 ^ m) := by
          refine W_halves _ _ a2 _ ?_
          rw [← a1, ← en]
        rw [e]; exact h

end Go.Proofs.Ytcaeaepnobbjlaa
