import Derived.Test.YtcaeaepnobbjlaaT
namespace Go.Proofs.Ytcaeaepnobbjlaa
set_option linter.unusedVariables false
set_option linter.unusedSimpArgs false
open Go.RowKit

/-- Which measures may be. -/
def RightP (k a b : Int) : Prop := 1 ≤ k ∧ k ≤ 200 ∧ 1 ≤ a ∧ a ≤ b ∧ b ≤ 1048576 ∧ b < k * a
instance (k a b : Int) : Decidable (RightP k a b) := by unfold RightP; infer_instance
def rightB (k a b : Int) : Bool := decide (RightP k a b)
theorem mul_small (k a : Int) (h1 : 1 ≤ k) (h2 : k ≤ 200) (h3 : 1 ≤ a) (h4 : a ≤ 1048576) : 1 ≤ k * a ∧ k * a ≤ 209715200 := by
  obtain ⟨K, rfl⟩ := Int.eq_ofNat_of_zero_le (show 0 ≤ k by omega)
  obtain ⟨A, rfl⟩ := Int.eq_ofNat_of_zero_le (show 0 ≤ a by omega)
  have g1 : 1 * 1 ≤ K * A := Nat.mul_le_mul (by omega) (by omega)
  have g2 : K * A ≤ 200 * 1048576 := Nat.mul_le_mul (by omega) (by omega)
  rw [← Int.natCast_mul]
  omega
theorem right_t {k a b z : Int} (h1 : 1 ≤ k) (h2 : k ≤ 200) (h3 : 1 ≤ a) (h4 : a ≤ b) (h5 : b ≤ 1048576) (hz : z = k * a) : Ending.returned (.bool (decide (b < z))) = Ending.returned (.bool (rightB k a b)) := by
  subst hz
  unfold rightB RightP
  simp only [h1, h2, h3, h4, h5, true_and]
theorem right_f {k a b : Int} (h : ¬ (1 ≤ k ∧ k ≤ 200 ∧ 1 ≤ a ∧ a ≤ b ∧ b ≤ 1048576)) : Ending.returned (.bool false) = Ending.returned (.bool (rightB k a b)) := by
  rw [rightB, decide_eq_false (fun c : RightP k a b => h ⟨c.1, c.2.1, c.2.2.1, c.2.2.2.1, c.2.2.2.2.1⟩)]

set_option maxRecDepth 100000 in
set_option maxHeartbeats 4000000 in
theorem ratright_walk (k a b z : Int) (hz : IntKind.i64.wrap (k * a) = z) (hh : 1 ≤ k → k ≤ 200 → 1 ≤ a → a ≤ b → b ≤ 1048576 → z = k * a) (w : World) :
    Calls Try.prog 55 #[.int .i64 k, .int .i64 a, .int .i64 b] w fun e w' => e = .returned (.bool (rightB k a b)) ∧ Below w.heap.size w w' := by
  have HH := Lib.hid hh
  clear hh
  go_enter Try.func55, Try.ntmps55
  go_wp2
  all_goals go_ret
  all_goals first
    | exact ⟨right_t (by omega) (by omega) (by omega) (by omega) (by omega) (HH.out (by omega) (by omega) (by omega) (by omega) (by omega)), Below.refl _ _⟩
    | exact ⟨right_f (by omega), Below.refl _ _⟩
theorem ratright_any (k a b : Int) (w : World) :
    Calls Try.prog 55 #[.int .i64 k, .int .i64 a, .int .i64 b] w fun e w' => e = .returned (.bool (rightB k a b)) ∧ Below w.heap.size w w' :=
  ratright_walk k a b _ rfl (fun h1 h2 h3 h4 h5 => IntWalk.i64_in _ (by have := mul_small k a h1 h2 h3 (by omega); omega)) w

set_option maxRecDepth 100000 in
set_option maxHeartbeats 4000000 in
theorem refright_walk (k a b z : Int) (hz : IntKind.i64.wrap (k * a) = z) (hh : 1 ≤ k → k ≤ 200 → 1 ≤ a → a ≤ b → b ≤ 1048576 → z = k * a) (w : World) :
    Calls Try.prog 56 #[.int .i64 k, .int .i64 a, .int .i64 b] w fun e w' => e = .returned (.bool (rightB k a b)) ∧ Below w.heap.size w w' := by
  have HH := Lib.hid hh
  clear hh
  go_enter Try.func56, Try.ntmps56
  go_wp2
  all_goals go_ret
  all_goals first
    | exact ⟨right_t (by omega) (by omega) (by omega) (by omega) (by omega) (HH.out (by omega) (by omega) (by omega) (by omega) (by omega)), Below.refl _ _⟩
    | exact ⟨right_f (by omega), Below.refl _ _⟩
theorem refright_any (k a b : Int) (w : World) :
    Calls Try.prog 56 #[.int .i64 k, .int .i64 a, .int .i64 b] w fun e w' => e = .returned (.bool (rightB k a b)) ∧ Below w.heap.size w w' :=
  refright_walk k a b _ rfl (fun h1 h2 h3 h4 h5 => IntWalk.i64_in _ (by have := mul_small k a h1 h2 h3 (by omega); omega)) w

def shareN (k : Int) (n : Nat) : Nat := if k < 1 then 0 else n / k.toNat
theorem i64_nat (n : Nat) (h : n ≤ 9223372036854775807) : IntKind.i64.wrap (n : Int) = (n : Int) := IntWalk.i64_in _ (by omega)
theorem wrapq (n : Nat) (h : n < M) : IntKind.u64.wrap (n : Int) = (n : Int) := wrap_in n (by rw [M_eq] at h; exact h)

set_option maxRecDepth 100000 in
theorem share_zero (k : Int) (n : Nat) (h : k < 1) (w : World) : Calls Try.prog 57 #[.int .i64 k, .int .u64 n] w fun e w' => e = .returned (.int .u64 (0 : Nat)) ∧ Below w.heap.size w w' := by
  have hd : decide (k < 1) = true := decide_eq_true h
  go_enter Try.func57, Try.ntmps57
  go_wp2
  go_ret
  exact ⟨rfl, Below.refl _ _⟩
set_option maxRecDepth 100000 in
theorem share_walk (K n r : Nat) (h1 : 1 ≤ K) (h2 : IntKind.u64.wrap (K : Int) = K) (h3 : IntKind.u64.wrap ((n : Int) / K) = r) (w : World) :
    Calls Try.prog 57 #[.int .i64 K, .int .u64 n] w fun e w' => e = .returned (.int .u64 r) ∧ Below w.heap.size w w' := by
  have hd : decide ((K : Int) < 1) = false := decide_eq_false (by omega)
  have hK : (K : Int) ≠ 0 := by omega
  go_enter Try.func57, Try.ntmps57
  go_wp2
  go_ret
  exact ⟨rfl, Below.refl _ _⟩
set_option maxRecDepth 100000 in
theorem refshare_zero (k : Int) (n : Nat) (h : k < 1) (w : World) : Calls Try.prog 58 #[.int .i64 k, .int .u64 n] w fun e w' => e = .returned (.int .u64 (0 : Nat)) ∧ Below w.heap.size w w' := by
  have hd : decide (k < 1) = true := decide_eq_true h
  go_enter Try.func58, Try.ntmps58
  go_wp2
  go_ret
  exact ⟨rfl, Below.refl _ _⟩
set_option maxRecDepth 100000 in
theorem refshare_walk (K n s r : Nat) (h1 : 1 ≤ K) (h2 : IntKind.u64.wrap (K : Int) = K) (h4 : IntKind.u64.wrap ((n : Int) - (n : Int) % K) = s) (h5 : IntKind.u64.wrap ((s : Int) / K) = r) (w : World) :
    Calls Try.prog 58 #[.int .i64 K, .int .u64 n] w fun e w' => e = .returned (.int .u64 r) ∧ Below w.heap.size w w' := by
  have hd : decide ((K : Int) < 1) = false := decide_eq_false (by omega)
  have hK : (K : Int) ≠ 0 := by omega
  go_enter Try.func58, Try.ntmps58
  go_wp2
  go_ret
  exact ⟨rfl, Below.refl _ _⟩
theorem share_any (k : Int) (hk : k ≤ 9223372036854775807) (n : Nat) (hn : n < M) (w : World) :
    Calls Try.prog 57 #[.int .i64 k, .int .u64 n] w fun e w' => e = .returned (.int .u64 (shareN k n)) ∧ Below w.heap.size w w' := by
  unfold shareN
  by_cases h : k < 1
  · rw [if_pos h]; exact share_zero k n h w
  · rw [if_neg h]
    obtain ⟨K, rfl⟩ := Int.eq_ofNat_of_zero_le (show 0 ≤ k by omega)
    rw [Int.toNat_natCast]
    refine share_walk K n (n / K) (by omega) (wrapq K (by rw [M_eq]; omega)) ?_ w
    rw [← Int.natCast_ediv]
    exact wrapq _ (Nat.lt_of_le_of_lt (Nat.div_le_self _ _) hn)
theorem refshare_any (k : Int) (hk : k ≤ 9223372036854775807) (n : Nat) (hn : n < M) (w : World) :
    Calls Try.prog 58 #[.int .i64 k, .int .u64 n] w fun e w' => e = .returned (.int .u64 (shareN k n)) ∧ Below w.heap.size w w' := by
  unfold shareN
  by_cases h : k < 1
  · rw [if_pos h]; exact refshare_zero k n h w
  · rw [if_neg h]
    obtain ⟨K, rfl⟩ := Int.eq_ofNat_of_zero_le (show 0 ≤ k by omega)
    rw [Int.toNat_natCast]
    have hm := Nat.mod_le n K
    refine refshare_walk K n (n - n % K) (n / K) (by omega) (wrapq K (by rw [M_eq]; omega)) ?_ ?_ w
    · rw [← Int.natCast_emod, ← Int.ofNat_sub hm]
      exact wrapq _ (by omega)
    · rw [← Int.natCast_ediv]
      have e : (n - n % K) / K = n / K := by
        have h1 : n - n % K = K * (n / K) := by have := Nat.div_add_mod n K; omega
        rw [h1, Nat.mul_div_cancel_left _ (by omega)]
      rw [e]
      exact wrapq _ (Nat.lt_of_le_of_lt (Nat.div_le_self _ _) hn)

/-- Whether a weight is a great share. -/
def heavyB (a b : Int) (x n : Nat) : Bool := decide (1 ≤ a) && decide (1 ≤ b) && decide (a.toNat * n ≤ b.toNat * x)

set_option maxRecDepth 100000 in
theorem heavy_zero (a b : Int) (x n : Nat) (h : a < 1 ∨ b < 1) (w : World) : Calls Try.prog 59 #[.int .i64 a, .int .i64 b, .int .u64 x, .int .u64 n] w fun e w' => e = .returned (.bool false) ∧ Below w.heap.size w w' := by
  by_cases h1 : a < 1
  · have hd : decide (a < 1) = true := decide_eq_true h1
    have hd2 : decide (0 < a) = false := decide_eq_false (by omega)
    clear h h1
    go_enter Try.func59, Try.ntmps59
    go_wp2
    go_ret
    exact ⟨rfl, Below.refl _ _⟩
  · have h2 : b < 1 := by omega
    have hd : decide (a < 1) = false := decide_eq_false (by omega)
    have hd2 : decide (0 < a) = true := decide_eq_true (by omega)
    have he : decide (b < 1) = true := decide_eq_true (by omega)
    have he2 : decide (0 < b) = false := decide_eq_false (by omega)
    clear h h1 h2
    go_enter Try.func59, Try.ntmps59
    go_wp2
    go_ret
    exact ⟨rfl, Below.refl _ _⟩
set_option maxRecDepth 100000 in
set_option maxHeartbeats 1000000 in
theorem heavy_walk (A B x n p q r s : Nat) (k : Int) (o : Bool) (hA : 1 ≤ A) (hB : 1 ≤ B) (eA : IntKind.u64.wrap (A : Int) = A) (eB : IntKind.u64.wrap (B : Int) = B)
    (c1 : ∀ w, Calls Try.prog 28 #[.int .u64 B, .int .u64 x] w fun e w' => e = .returned (wv p q) ∧ Below w.heap.size w w')
    (c2 : ∀ w, Calls Try.prog 28 #[.int .u64 A, .int .u64 n] w fun e w' => e = .returned (wv r s) ∧ Below w.heap.size w w')
    (c3 : ∀ w, Calls Try.prog 25 #[wv p q, wv r s] w fun e w' => e = .returned (.int .i64 k) ∧ Below w.heap.size w w') (ho : decide (0 ≤ k) = o) (w : World) :
    Calls Try.prog 59 #[.int .i64 A, .int .i64 B, .int .u64 x, .int .u64 n] w fun e w' => e = .returned (.bool o) ∧ Below w.heap.size w w' := by
  have hd : decide ((A : Int) < 1) = false := decide_eq_false (by omega)
  have he : decide ((B : Int) < 1) = false := decide_eq_false (by omega)
  have hd2 : decide (0 < A) = true := decide_eq_true (by omega)
  have he2 : decide (0 < B) = true := decide_eq_true (by omega)
  have hd3 : decide ((0 : Int) < A) = true := decide_eq_true (by omega)
  have he3 : decide ((0 : Int) < B) = true := decide_eq_true (by omega)
  have C1 := Lib.hid c1
  have C2 := Lib.hid c2
  have C3 := Lib.hid c3
  clear c1 c2 c3 hA hB
  go_enter Try.func59, Try.ntmps59
  go_wp2_with (first
    | (go_at_call 28; (with_reducible refine (C1.out _).mono ?_); rintro e w1 ⟨rfl, hb1⟩; have hB1 : Hid (Below w.heap.size w w1) := hb1; clear hb1)
    | (go_at_call 28; (with_reducible refine (C2.out _).mono ?_); rintro e w2 ⟨rfl, hb1⟩; have hB2 : Hid (Below w.heap.size w w2) := below_next hB1.out hb1; clear hb1)
    | (go_at_call 25; (with_reducible refine (C3.out _).mono ?_); rintro e w3 ⟨rfl, hb1⟩; have hB3 : Hid (Below w.heap.size w w3) := below_next hB2.out hb1; clear hb1))
  go_ret
  exact ⟨by simp [ho], hB3.out⟩

theorem cmp_ge (x y : Nat) : decide (0 ≤ cmpI x y) = decide (y ≤ x) := by
  unfold cmpI
  by_cases h : x < y
  · rw [if_pos h]; simp; omega
  · rw [if_neg h]
    by_cases h2 : y < x
    · rw [if_pos h2]; simp; omega
    · rw [if_neg h2]; simp; omega
theorem mul_lt (a b : Nat) (ha : a < M) (hb : b < M) : a * b < MM := by
  have h : a * b < M * M := Nat.mul_lt_mul'' ha hb
  rwa [show M * M = MM by decide] at h
theorem heavy_any (a b : Int) (ha : a ≤ 9223372036854775807) (hb : b ≤ 9223372036854775807) (x n : Nat) (hx : x < M) (hn : n < M) (w : World) :
    Calls Try.prog 59 #[.int .i64 a, .int .i64 b, .int .u64 x, .int .u64 n] w fun e w' => e = .returned (.bool (heavyB a b x n)) ∧ Below w.heap.size w w' := by
  by_cases h : a < 1 ∨ b < 1
  · have e : heavyB a b x n = false := by
      unfold heavyB
      rcases h with h | h
      · rw [decide_eq_false (by omega)]; rfl
      · rw [decide_eq_false (show ¬ 1 ≤ b by omega)]; simp
    rw [e]; exact heavy_zero a b x n h w
  · obtain ⟨A, rfl⟩ := Int.eq_ofNat_of_zero_le (show 0 ≤ a by omega)
    obtain ⟨B, rfl⟩ := Int.eq_ofNat_of_zero_le (show 0 ≤ b by omega)
    have lA : A < M := by rw [M_eq]; omega
    have lB : B < M := by rw [M_eq]; omega
    refine heavy_walk A B x n (B * x / M) (B * x % M) (A * n / M) (A * n % M) (cmpI (B * x) (A * n)) _ (by omega) (by omega) (wrapq A lA) (wrapq B lB)
      (fun w => mul_any B x lB hx w) (fun w => mul_any A n lA hn w) (fun w => cmp_any _ _ (mul_lt B x lB hx) (mul_lt A n lA hn) w) ?_ w
    rw [cmp_ge, heavyB, decide_eq_true (show (1 : Int) ≤ A by omega), decide_eq_true (show (1 : Int) ≤ B by omega), Int.toNat_natCast, Int.toNat_natCast]
    rfl

set_option maxRecDepth 100000 in
theorem refheavy_zero (a b : Int) (x n : Nat) (h : a < 1 ∨ b < 1) (w : World) : Calls Try.prog 60 #[.int .i64 a, .int .i64 b, .int .u64 x, .int .u64 n] w fun e w' => e = .returned (.bool false) ∧ Below w.heap.size w w' := by
  by_cases h1 : a < 1
  · have hd : decide (a < 1) = true := decide_eq_true h1
    have hd2 : decide (0 < a) = false := decide_eq_false (by omega)
    clear h h1
    go_enter Try.func60, Try.ntmps60
    go_wp2
    go_ret
    exact ⟨rfl, Below.refl _ _⟩
  · have h2 : b < 1 := by omega
    have hd : decide (a < 1) = false := decide_eq_false (by omega)
    have hd2 : decide (0 < a) = true := decide_eq_true (by omega)
    have he : decide (b < 1) = true := decide_eq_true (by omega)
    have he2 : decide (0 < b) = false := decide_eq_false (by omega)
    clear h h1 h2
    go_enter Try.func60, Try.ntmps60
    go_wp2
    go_ret
    exact ⟨rfl, Below.refl _ _⟩
set_option maxRecDepth 100000 in
set_option maxHeartbeats 1000000 in
theorem refheavy_walk (A B x n p q r s : Nat) (k : Int) (o : Bool) (hA : 1 ≤ A) (hB : 1 ≤ B) (eA : IntKind.u64.wrap (A : Int) = A) (eB : IntKind.u64.wrap (B : Int) = B)
    (c1 : ∀ w, Calls Try.prog 29 #[.int .u64 B, .int .u64 x] w fun e w' => e = .returned (wv p q) ∧ Below w.heap.size w w')
    (c2 : ∀ w, Calls Try.prog 29 #[.int .u64 A, .int .u64 n] w fun e w' => e = .returned (wv r s) ∧ Below w.heap.size w w')
    (c3 : ∀ w, Calls Try.prog 26 #[wv p q, wv r s] w fun e w' => e = .returned (.int .i64 k) ∧ Below w.heap.size w w') (ho : decide (0 ≤ k) = o) (w : World) :
    Calls Try.prog 60 #[.int .i64 A, .int .i64 B, .int .u64 x, .int .u64 n] w fun e w' => e = .returned (.bool o) ∧ Below w.heap.size w w' := by
  have hd : decide ((A : Int) < 1) = false := decide_eq_false (by omega)
  have he : decide ((B : Int) < 1) = false := decide_eq_false (by omega)
  have hd2 : decide (0 < A) = true := decide_eq_true (by omega)
  have he2 : decide (0 < B) = true := decide_eq_true (by omega)
  have hd3 : decide ((0 : Int) < A) = true := decide_eq_true (by omega)
  have he3 : decide ((0 : Int) < B) = true := decide_eq_true (by omega)
  have C1 := Lib.hid c1
  have C2 := Lib.hid c2
  have C3 := Lib.hid c3
  clear c1 c2 c3 hA hB
  go_enter Try.func60, Try.ntmps60
  go_wp2_with (first
    | (go_at_call 29; (with_reducible refine (C1.out _).mono ?_); rintro e w1 ⟨rfl, hb1⟩; have hB1 : Hid (Below w.heap.size w w1) := hb1; clear hb1)
    | (go_at_call 29; (with_reducible refine (C2.out _).mono ?_); rintro e w2 ⟨rfl, hb1⟩; have hB2 : Hid (Below w.heap.size w w2) := below_next hB1.out hb1; clear hb1)
    | (go_at_call 26; (with_reducible refine (C3.out _).mono ?_); rintro e w3 ⟨rfl, hb1⟩; have hB3 : Hid (Below w.heap.size w w3) := below_next hB2.out hb1; clear hb1))
  go_ret
  exact ⟨by simp [ho], hB3.out⟩
theorem refheavy_any (a b : Int) (ha : a ≤ 9223372036854775807) (hb : b ≤ 9223372036854775807) (x n : Nat) (hx : x < M) (hn : n < M) (w : World) :
    Calls Try.prog 60 #[.int .i64 a, .int .i64 b, .int .u64 x, .int .u64 n] w fun e w' => e = .returned (.bool (heavyB a b x n)) ∧ Below w.heap.size w w' := by
  by_cases h : a < 1 ∨ b < 1
  · have e : heavyB a b x n = false := by
      unfold heavyB
      rcases h with h | h
      · rw [decide_eq_false (by omega)]; rfl
      · rw [decide_eq_false (show ¬ 1 ≤ b by omega)]; simp
    rw [e]; exact refheavy_zero a b x n h w
  · obtain ⟨A, rfl⟩ := Int.eq_ofNat_of_zero_le (show 0 ≤ a by omega)
    obtain ⟨B, rfl⟩ := Int.eq_ofNat_of_zero_le (show 0 ≤ b by omega)
    have lA : A < M := by rw [M_eq]; omega
    have lB : B < M := by rw [M_eq]; omega
    refine refheavy_walk A B x n (B * x / M) (B * x % M) (A * n / M) (A * n % M) (cmpI (B * x) (A * n)) _ (by omega) (by omega) (wrapq A lA) (wrapq B lB)
      (fun w => refmul_any B x lB hx w) (fun w => refmul_any A n lA hn w) (fun w => refcmp_any _ _ (mul_lt B x lB hx) (mul_lt A n lA hn) w) ?_ w
    rw [cmp_ge, heavyB, decide_eq_true (show (1 : Int) ≤ A by omega), decide_eq_true (show (1 : Int) ≤ B by omega), Int.toNat_natCast, Int.toNat_natCast]
    rfl

/-- How many weights can be nearly heavy at once. -/
def mostI (k a b : Int) : Int := if RightP k a b then b * k / (a * k - b) else 0

set_option maxRecDepth 100000 in
theorem most_zero (k a b : Int) (c : ∀ w, Calls Try.prog 55 #[.int .i64 k, .int .i64 a, .int .i64 b] w fun e w' => e = .returned (.bool false) ∧ Below w.heap.size w w') (w : World) :
    Calls Try.prog 63 #[.int .i64 k, .int .i64 a, .int .i64 b] w fun e w' => e = .returned (.int .i64 0) ∧ Below w.heap.size w w' := by
  have C := Lib.hid c
  clear c
  go_enter Try.func63, Try.ntmps63
  go_wp2_with (first
    | (go_at_call 55; refine (C.out _).mono ?_; rintro e w1 ⟨rfl, hb1⟩; have hB1 : Hid (Below w.heap.size w w1) := hb1; clear hb1))
  go_ret
  exact ⟨rfl, hB1.out⟩
set_option maxRecDepth 100000 in
set_option maxHeartbeats 1000000 in
theorem most_walk (K A B p q d r : Nat) (c : ∀ w, Calls Try.prog 55 #[.int .i64 K, .int .i64 A, .int .i64 B] w fun e w' => e = .returned (.bool true) ∧ Below w.heap.size w w')
    (h1 : IntKind.i64.wrap ((B : Int) * K) = p) (h2 : IntKind.i64.wrap ((A : Int) * K) = q) (h3 : IntKind.i64.wrap ((q : Int) - B) = d) (h4 : IntKind.i64.wrap ((p : Int) / d) = r) (hd : 1 ≤ d) (w : World) :
    Calls Try.prog 63 #[.int .i64 K, .int .i64 A, .int .i64 B] w fun e w' => e = .returned (.int .i64 r) ∧ Below w.heap.size w w' := by
  have C := Lib.hid c
  have hK : (d : Int) ≠ 0 := by omega
  clear c hd
  go_enter Try.func63, Try.ntmps63
  go_wp2_with (first
    | (go_at_call 55; refine (C.out _).mono ?_; rintro e w1 ⟨rfl, hb1⟩; have hB1 : Hid (Below w.heap.size w w1) := hb1; clear hb1))
  go_ret
  exact ⟨rfl, hB1.out⟩
theorem most_any (k a b : Int) (w : World) :
    Calls Try.prog 63 #[.int .i64 k, .int .i64 a, .int .i64 b] w fun e w' => e = .returned (.int .i64 (mostI k a b)) ∧ Below w.heap.size w w' := by
  have c := fun w => ratright_any k a b w
  unfold mostI
  by_cases h : RightP k a b
  · rw [if_pos h]
    rw [show rightB k a b = true from decide_eq_true h] at c
    obtain ⟨h1, h2, h3, h4, h5, h6⟩ := h
    obtain ⟨K, rfl⟩ := Int.eq_ofNat_of_zero_le (show 0 ≤ k by omega)
    obtain ⟨A, rfl⟩ := Int.eq_ofNat_of_zero_le (show 0 ≤ a by omega)
    obtain ⟨B, rfl⟩ := Int.eq_ofNat_of_zero_le (show 0 ≤ b by omega)
    have g1 : B * K ≤ 1048576 * 200 := Nat.mul_le_mul (by omega) (by omega)
    have g2 : A * K ≤ 1048576 * 200 := Nat.mul_le_mul (by omega) (by omega)
    have g3 : B < A * K := by rw [← Int.natCast_mul] at h6; rw [Nat.mul_comm]; omega
    have e : (B : Int) * K / (A * K - B) = ((B * K / (A * K - B) : Nat) : Int) := by
      rw [Int.natCast_ediv, Int.ofNat_sub (by omega), Int.natCast_mul, Int.natCast_mul]
    have g4 := Nat.div_le_self (B * K) (A * K - B)
    rw [e]
    refine most_walk K A B (B * K) (A * K) (A * K - B) (B * K / (A * K - B)) c ?_ ?_ ?_ ?_ (by omega) w
    · rw [← Int.natCast_mul]; exact IntWalk.i64_in _ (by omega)
    · rw [← Int.natCast_mul]; exact IntWalk.i64_in _ (by omega)
    · rw [← Int.ofNat_sub (by omega)]; exact IntWalk.i64_in _ (by omega)
    · rw [← Int.natCast_ediv]; exact i64_nat _ (by omega)
  · rw [if_neg h]
    rw [show rightB k a b = false from decide_eq_false h] at c
    exact most_zero k a b c w

set_option maxRecDepth 100000 in
theorem refmost_zero (k a b : Int) (c : ∀ w, Calls Try.prog 56 #[.int .i64 k, .int .i64 a, .int .i64 b] w fun e w' => e = .returned (.bool false) ∧ Below w.heap.size w w') (w : World) :
    Calls Try.prog 64 #[.int .i64 k, .int .i64 a, .int .i64 b] w fun e w' => e = .returned (.int .i64 0) ∧ Below w.heap.size w w' := by
  have C := Lib.hid c
  clear c
  go_enter Try.func64, Try.ntmps64
  go_wp2_with (first
    | (go_at_call 56; refine (C.out _).mono ?_; rintro e w1 ⟨rfl, hb1⟩; have hB1 : Hid (Below w.heap.size w w1) := hb1; clear hb1))
  go_ret
  exact ⟨rfl, hB1.out⟩
set_option maxRecDepth 100000 in
set_option maxHeartbeats 1000000 in
theorem refmost_walk (K A B p q d s r : Nat) (c : ∀ w, Calls Try.prog 56 #[.int .i64 K, .int .i64 A, .int .i64 B] w fun e w' => e = .returned (.bool true) ∧ Below w.heap.size w w')
    (h1 : IntKind.i64.wrap ((B : Int) * K) = p) (h2 : IntKind.i64.wrap ((A : Int) * K) = q) (h3 : IntKind.i64.wrap ((q : Int) - B) = d)  (h6 : IntKind.i64.wrap ((p : Int) - (p : Int) % d) = s) (h7 : IntKind.i64.wrap ((s : Int) / d) = r) (hd : 1 ≤ d) (w : World) :
    Calls Try.prog 64 #[.int .i64 K, .int .i64 A, .int .i64 B] w fun e w' => e = .returned (.int .i64 r) ∧ Below w.heap.size w w' := by
  have C := Lib.hid c
  have hK : (d : Int) ≠ 0 := by omega
  clear c hd
  go_enter Try.func64, Try.ntmps64
  go_wp2_with (first
    | (go_at_call 56; refine (C.out _).mono ?_; rintro e w1 ⟨rfl, hb1⟩; have hB1 : Hid (Below w.heap.size w w1) := hb1; clear hb1))
  go_ret
  exact ⟨rfl, hB1.out⟩
theorem refmost_any (k a b : Int) (w : World) :
    Calls Try.prog 64 #[.int .i64 k, .int .i64 a, .int .i64 b] w fun e w' => e = .returned (.int .i64 (mostI k a b)) ∧ Below w.heap.size w w' := by
  have c := fun w => refright_any k a b w
  unfold mostI
  by_cases h : RightP k a b
  · rw [if_pos h]
    rw [show rightB k a b = true from decide_eq_true h] at c
    obtain ⟨h1, h2, h3, h4, h5, h6⟩ := h
    obtain ⟨K, rfl⟩ := Int.eq_ofNat_of_zero_le (show 0 ≤ k by omega)
    obtain ⟨A, rfl⟩ := Int.eq_ofNat_of_zero_le (show 0 ≤ a by omega)
    obtain ⟨B, rfl⟩ := Int.eq_ofNat_of_zero_le (show 0 ≤ b by omega)
    have g1 : B * K ≤ 1048576 * 200 := Nat.mul_le_mul (by omega) (by omega)
    have g2 : A * K ≤ 1048576 * 200 := Nat.mul_le_mul (by omega) (by omega)
    have g3 : B < A * K := by rw [← Int.natCast_mul] at h6; rw [Nat.mul_comm]; omega
    have e : (B : Int) * K / (A * K - B) = ((B * K / (A * K - B) : Nat) : Int) := by
      rw [Int.natCast_ediv, Int.ofNat_sub (by omega), Int.natCast_mul, Int.natCast_mul]
    have g4 := Nat.div_le_self (B * K) (A * K - B)
    rw [e]
    have hm := Nat.mod_le (B * K) (A * K - B)
    have ed : (B * K - B * K % (A * K - B)) / (A * K - B) = B * K / (A * K - B) := by
      have h1 : B * K - B * K % (A * K - B) = (A * K - B) * (B * K / (A * K - B)) := by have := Nat.div_add_mod (B * K) (A * K - B); omega
      rw [h1, Nat.mul_div_cancel_left _ (by omega)]
    refine refmost_walk K A B (B * K) (A * K) (A * K - B) (B * K - B * K % (A * K - B)) (B * K / (A * K - B)) c ?_ ?_ ?_ ?_ ?_ (by omega) w
    · rw [← Int.natCast_mul]; exact IntWalk.i64_in _ (by omega)
    · rw [← Int.natCast_mul]; exact IntWalk.i64_in _ (by omega)
    · rw [← Int.ofNat_sub (by omega)]; exact IntWalk.i64_in _ (by omega)
    · rw [← Int.natCast_emod, ← Int.ofNat_sub hm]; exact i64_nat _ (by omega)
    · rw [← Int.natCast_ediv, ed]; exact i64_nat _ (by omega)
  · rw [if_neg h]
    rw [show rightB k a b = false from decide_eq_false h] at c
    exact refmost_zero k a b c w

end Go.Proofs.Ytcaeaepnobbjlaa

