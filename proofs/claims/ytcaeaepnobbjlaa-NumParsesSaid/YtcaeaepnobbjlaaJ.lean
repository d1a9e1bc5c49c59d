import Derived.Test.YtcaeaepnobbjlaaI
namespace Go.Proofs.Ytcaeaepnobbjlaa
set_option linter.unusedVariables false
set_option linter.unusedSimpArgs false
open Go.RowKit

set_option maxHeartbeats 1000000 in
theorem and_walk (ah al bh bl p q : Nat) (h1 : bits .and .u64 (ah : Int) bh = (p : Int)) (h2 : bits .and .u64 (al : Int) bl = (q : Int)) (w : World) :
    Calls Try.prog 34 #[wv ah al, wv bh bl] w fun e w' => e = .returned (wv p q) ∧ Below w.heap.size w w' := by
  go_enter Try.func34, Try.ntmps34
  go_wp2_with fail
  refine bodyPost_ret (v := wv p q) (by simp [results, Try.results34, go_sem]) rfl ⟨rfl, ?_⟩
  exact (((Below.refl _ _).alloc (Nat.le_refl _) _).alloc (by simp) _).alloc (by simp; omega) _

set_option maxHeartbeats 1000000 in
theorem or_walk (ah al bh bl p q : Nat) (h1 : bits .or .u64 (ah : Int) bh = (p : Int)) (h2 : bits .or .u64 (al : Int) bl = (q : Int)) (w : World) :
    Calls Try.prog 36 #[wv ah al, wv bh bl] w fun e w' => e = .returned (wv p q) ∧ Below w.heap.size w w' := by
  go_enter Try.func36, Try.ntmps36
  go_wp2_with fail
  refine bodyPost_ret (v := wv p q) (by simp [results, Try.results36, go_sem]) rfl ⟨rfl, ?_⟩
  exact (((Below.refl _ _).alloc (Nat.le_refl _) _).alloc (by simp) _).alloc (by simp; omega) _

theorem low_lt (n : Nat) : n % M < 18446744073709551616 := by rw [M_eq]; omega
theorem high_lt (n : Nat) (hn : n < MM) : n / M < 18446744073709551616 := by rw [M_eq]; rw [MM_eq] at hn; omega

theorem and_any (n m : Nat) (hn : n < MM) (hm : m < MM) (w : World) :
    Calls Try.prog 34 #[W n, W m] w fun e w' => e = .returned (W (n &&& m)) ∧ Below w.heap.size w w' := by
  have h := and_walk (n / M) (n % M) (m / M) (m % M) _ _ (bits_and_u64_nat _ _ (high_lt n hn) (high_lt m hm)) (bits_and_u64_nat _ _ (low_lt n) (low_lt m)) w
  rw [W_of (n &&& m), M_pow, Nat.and_div_two_pow, Nat.and_mod_two_pow, ← M_pow]
  exact h
theorem or_any_w (n m : Nat) (hn : n < MM) (hm : m < MM) (w : World) :
    Calls Try.prog 36 #[W n, W m] w fun e w' => e = .returned (W (n ||| m)) ∧ Below w.heap.size w w' := by
  have h := or_walk (n / M) (n % M) (m / M) (m % M) _ _ (bits_or_u64_nat _ _ (high_lt n hn) (high_lt m hm)) (bits_or_u64_nat _ _ (low_lt n) (low_lt m)) w
  rw [W_of (n ||| m), M_pow, Nat.or_div_two_pow, Nat.or_mod_two_pow, ← M_pow]
  exact h

/-- The first m bits of 128. -/
def maskN (m : Nat) : Nat := MM - 2 ^ (128 - m)
theorem maskN_lt (m : Nat) : maskN m < MM := by
  have := Nat.two_pow_pos (128 - m)
  have h : 0 < MM := by rw [MM_eq]; omega
  unfold maskN; omega
theorem mask_shift (m : Nat) (h1 : 1 ≤ m) (h2 : m ≤ 128) : (MM - 1) * 2 ^ (128 - m) % MM = maskN m := by
  have hp := Nat.two_pow_pos (128 - m)
  have hle : 2 ^ (128 - m) < MM := by rw [MM_pow]; exact Nat.pow_lt_pow_right (by omega) (by omega)
  unfold maskN
  generalize 2 ^ (128 - m) = x at *
  have e : (MM - 1) * x = MM - x + MM * (x - 1) := by
    obtain ⟨y, rfl⟩ : ∃ y, x = y + 1 := ⟨x - 1, by omega⟩
    obtain ⟨z, hz⟩ : ∃ z, MM = z + 1 := ⟨MM - 1, by omega⟩
    rw [hz, Nat.add_sub_cancel, Nat.add_sub_cancel, Nat.mul_add, Nat.add_mul, Nat.mul_one, Nat.one_mul]
    omega
  rw [e, Nat.add_mul_mod_self_left, Nat.mod_eq_of_lt (by omega)]

set_option maxHeartbeats 1000000 in
theorem mask_walk (m : Int) (h1 : 1 ≤ m) (p q : Nat) (hc1 : 128 < m → ∀ w, Calls Try.prog 30 #[.agg #[.int .u64 18446744073709551615, .int .u64 18446744073709551615], .int .i64 0] w fun e w' => e = .returned (wv p q) ∧ Below w.heap.size w w')
    (hc2 : m ≤ 128 → ∀ w, Calls Try.prog 30 #[.agg #[.int .u64 18446744073709551615, .int .u64 18446744073709551615], .int .i64 (wrap64 (128 - m))] w fun e w' => e = .returned (wv p q) ∧ Below w.heap.size w w') (w : World) :
    Calls Try.prog 37 #[.int .i64 m] w fun e w' => e = .returned (wv p q) ∧ Below w.heap.size w w' := by
  by_cases hm : m ≤ 128
  · have HC1 := Lib.hid (hc2 hm)
    have d1 : decide (m ≤ 0) = false := by simp; omega
    clear hc1 hc2 h1
    go_enter Try.func37, Try.ntmps37
    go_wp2_with (first
     | (go_at_call 30; refine (HC1.out _).mono ?_; rintro e w1 ⟨rfl, hb1⟩
        have hr := old_below hb1 (heap_alloc2_old w (.cells #[.int .u64 0, .int .u64 0] 24) (.cells #[.int .u64 18446744073709551615, .int .u64 18446744073709551615] 24))
        obtain ⟨c0, c1⟩ := two_cells hr
        have f0 := frozen_of_row _ _ 0 _ _ hr
        have f1 := frozen_of_row _ _ 1 _ _ hr
        have HP := Lib.hid (pair_set hr (.int .u64 p) (.int .u64 q))
        have hB : Below w.heap.size w w1 := (((Below.refl _ _).alloc (Nat.le_refl _) _).alloc (by simp) _).trans (hb1.mono (by simp; omega))
        have HB := Lib.hid ((hB.setCell (p := ⟨w.heap.size, 0, none⟩) (by simp) (.int .u64 p)).setCell (p := ⟨w.heap.size, 1, none⟩) (by simp) (.int .u64 q))
        clear hb1 hB hr)
     | fail)
    obtain ⟨r0, r1⟩ := two_cells HP.out
    have hB := HB.out
    generalize (w1.setCell ⟨w.heap.size, 0, none⟩ (.int .u64 p)).setCell ⟨w.heap.size, 1, none⟩ (.int .u64 q) = W1 at *
    exact bodyPost_ret (v := wv p q) (by simp [results, Try.results37, go_sem, r0, r1]) rfl ⟨rfl, hB⟩
  · have HC1 := Lib.hid (hc1 (by omega))
    have d1 : decide (m ≤ 0) = false := by simp; omega
    clear hc1 hc2 h1
    go_enter Try.func37, Try.ntmps37
    go_wp2_with (first
     | (go_at_call 30; refine (HC1.out _).mono ?_; rintro e w1 ⟨rfl, hb1⟩
        have hr := old_below hb1 (heap_alloc2_old w (.cells #[.int .u64 0, .int .u64 0] 24) (.cells #[.int .u64 18446744073709551615, .int .u64 18446744073709551615] 24))
        obtain ⟨c0, c1⟩ := two_cells hr
        have f0 := frozen_of_row _ _ 0 _ _ hr
        have f1 := frozen_of_row _ _ 1 _ _ hr
        have HP := Lib.hid (pair_set hr (.int .u64 p) (.int .u64 q))
        have hB : Below w.heap.size w w1 := (((Below.refl _ _).alloc (Nat.le_refl _) _).alloc (by simp) _).trans (hb1.mono (by simp; omega))
        have HB := Lib.hid ((hB.setCell (p := ⟨w.heap.size, 0, none⟩) (by simp) (.int .u64 p)).setCell (p := ⟨w.heap.size, 1, none⟩) (by simp) (.int .u64 q))
        clear hb1 hB hr)
     | fail)
    obtain ⟨r0, r1⟩ := two_cells HP.out
    have hB := HB.out
    generalize (w1.setCell ⟨w.heap.size, 0, none⟩ (.int .u64 p)).setCell ⟨w.heap.size, 1, none⟩ (.int .u64 q) = W1 at *
    exact bodyPost_ret (v := wv p q) (by simp [results, Try.results37, go_sem, r0, r1]) rfl ⟨rfl, hB⟩

set_option maxHeartbeats 1000000 in
theorem mask_none (m : Int) (h1 : m ≤ 0) (w : World) :
    Calls Try.prog 37 #[.int .i64 m] w fun e w' => e = .returned (wv 0 0) ∧ Below w.heap.size w w' := by
  have d1 : decide (m ≤ 0) = true := by simp; omega
  clear h1
  go_enter Try.func37, Try.ntmps37
  go_wp2_with fail
  refine bodyPost_ret (v := wv 0 0) (by simp [results, Try.results37, go_sem]) rfl ⟨rfl, ?_⟩
  exact ((Below.refl _ _).alloc (Nat.le_refl _) _).alloc (by simp) _

theorem ones : W (MM - 1) = .agg #[.int .u64 18446744073709551615, .int .u64 18446744073709551615] := by
  rw [W, MM_eq, M_eq]; rfl
set_option maxHeartbeats 1000000 in
theorem mask_any (m : Int) (w : World) :
    Calls Try.prog 37 #[.int .i64 m] w fun e w' => e = .returned (W (maskN (min m.toNat 128))) ∧ Below w.heap.size w w' := by
  by_cases h : m ≤ 0
  · have e : maskN (min m.toNat 128) = 0 := by rw [show m.toNat = 0 by omega]; decide
    rw [e]; exact mask_none m h w
  · have hlt : MM - 1 < MM := by rw [MM_eq]; omega
    refine mask_walk m (by omega) _ _ (fun hm w => ?_) (fun hm w => ?_) w
    · have hc := left_any (MM - 1) hlt 0 w
      rw [show min m.toNat 128 = 128 by omega, ← mask_shift 128 (by omega) (by omega), ← W_of]
      rw [ones, show (0 : Int).toNat = 128 - 128 from rfl] at hc; exact hc
    · have hc := left_any (MM - 1) hlt (128 - m) w
      have ew : wrap64 (128 - m) = 128 - m := by
        unfold wrap64
        omega
      rw [← mask_shift (min m.toNat 128) (by omega) (by omega), ← W_of, ew, show 128 - min m.toNat 128 = (128 - m).toNat by omega]
      rw [ones] at hc; exact hc

def bitB (n : Nat) (i : Int) : Bool := decide (0 ≤ i ∧ i < 128 ∧ bitOf n i.toNat = 1)

set_option maxHeartbeats 1000000 in
theorem bit_out (ah al : Nat) (i : Int) (hi : i < 0 ∨ 128 ≤ i) (w : World) :
    Calls Try.prog 40 #[wv ah al, .int .i64 i] w fun e w' => e = .returned (.bool false) ∧ Below w.heap.size w w' := by
  rcases hi with hi | hi
  · have d1 : decide (i < 0) = true := by simpa using hi
    clear hi
    go_enter Try.func40, Try.ntmps40
    go_wp2_with fail
    go_ret
    exact ⟨rfl, (Below.refl _ _).alloc (Nat.le_refl _) _⟩
  · have d1 : decide (i < 0) = false := by simp; omega
    have d2 : decide (i ≥ 128) = true := by simpa using hi
    clear hi
    go_enter Try.func40, Try.ntmps40
    go_wp2_with fail
    go_ret
    exact ⟨rfl, (Below.refl _ _).alloc (Nat.le_refl _) _⟩

theorem field_lo (p q : Nat) (w : World) : (Instr.field 24 (wv p q) 1).run Try.prog w = .ok (.int .u64 (q : Int)) w := by kernel_rfl

set_option maxRecDepth 100000 in
set_option maxHeartbeats 1000000 in
theorem bit_in (ah al p q i k b : Nat) (o : Bool) (hi : i + k = 127) (hc : ∀ w, Calls Try.prog 32 #[wv ah al, .int .i64 k] w fun e w' => e = .returned (wv p q) ∧ Below w.heap.size w w')
    (hb : bits .and .u64 (q : Int) 1 = (b : Int)) (ho : ((b : Int) == 1) = o) (w : World) :
    Calls Try.prog 40 #[wv ah al, .int .i64 i] w fun e w' => e = .returned (.bool o) ∧ Below w.heap.size w w' := by
  have HC := Lib.hid hc
  have HO := Lib.hid ho
  have d1 : decide ((i : Int) < 0) = false := by simp
  have d2 : decide ((i : Int) ≥ 128) = false := by simp; omega
  have e1 : IntKind.i64.wrap (127 - (i : Int)) = (k : Int) := by rw [IntKind.wrap_i64]; omega
  clear hc ho hi
  have hf := field_lo p q
  go_enter Try.func40, Try.ntmps40
  go_wp2_with (first
    | (go_at_call 32; with_reducible refine (HC.out _).mono ?_; rintro e w1 ⟨rfl, hb1⟩
       have HB1 : Hid (Below w.heap.size w w1) := ((Below.refl _ _).alloc (Nat.le_refl _) _).trans (hb1.mono (by simp))
       clear hb1)
    | fail)
  go_ret
  exact ⟨by rw [← HO.out]; rfl, HB1.out⟩

theorem and_one (q : Nat) (hq : q < 18446744073709551616) : bits .and .u64 (q : Int) 1 = ((q % 2 : Nat) : Int) := by
  have h := bits_and_u64_nat q 1 hq (by decide)
  rw [Nat.and_one_is_mod q] at h
  rw [← h]
  congr 1

theorem bit_any (n : Nat) (hn : n < MM) (i : Int) (w : World) :
    Calls Try.prog 40 #[W n, .int .i64 i] w fun e w' => e = .returned (.bool (bitB n i)) ∧ Below w.heap.size w w' := by
  by_cases h : i < 0 ∨ 128 ≤ i
  · have e : bitB n i = false := by unfold bitB; simp; omega
    rw [e]
    exact bit_out _ _ i h w
  · obtain ⟨m, rfl⟩ : ∃ m : Nat, i = m := ⟨i.toNat, by omega⟩
    obtain ⟨k, hk⟩ : ∃ k, m + k = 127 := ⟨127 - m, by omega⟩
    have e2 : n / 2 ^ k % M % 2 = bitOf n m := by
      rw [bitOf, show 127 - m = k by omega, M_eq]; omega
    refine bit_in (n / M) (n % M) _ _ m k _ _ hk (fun w => by have := right_any n hn k w; rw [Int.toNat_natCast] at this; exact this) (and_one _ (low_lt _)) (beq_one _ _ ?_) w
    rw [e2]
    have := bitOf_le n m
    unfold bitB
    by_cases c : bitOf n m = 1
    · rw [if_pos (by simp; omega)]; exact c
    · rw [if_neg (by simp; omega)]; omega

end Go.Proofs.Ytcaeaepnobbjlaa
