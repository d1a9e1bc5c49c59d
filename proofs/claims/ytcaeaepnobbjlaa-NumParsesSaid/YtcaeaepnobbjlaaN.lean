import Derived.Test.YtcaeaepnobbjlaaL
namespace Go.Proofs.Ytcaeaepnobbjlaa
set_option linter.unusedVariables false
set_option linter.unusedSimpArgs false
open Go.RowKit

theorem W_lit (n h l : Nat) (hh : n / M = h) (hl : n % M = l) : W n = wv h l := by rw [W, hh, hl]
theorem W0 : W 0 = .agg #[.int .u64 0, .int .u64 0] := W_lit 0 0 0 (by decide) (by decide)
theorem W1 : W 1 = .agg #[.int .u64 0, .int .u64 1] := W_lit 1 0 1 (by decide) (by decide)
theorem W2 : W 2 = .agg #[.int .u64 0, .int .u64 2] := W_lit 2 0 2 (by decide) (by decide)
theorem W3 : W 3 = .agg #[.int .u64 0, .int .u64 3] := W_lit 3 0 3 (by decide) (by decide)
theorem W4 : W 4 = .agg #[.int .u64 0, .int .u64 4] := W_lit 4 0 4 (by decide) (by decide)

theorem of0 (w : World) : Calls Try.prog 27 #[.int .u64 0] w fun e w' => e = .returned (.agg #[.int .u64 0, .int .u64 0]) ∧ Below w.heap.size w w' := by
  have h := of_any 0 (by decide) w; rw [W0] at h; exact h
theorem of1 (w : World) : Calls Try.prog 27 #[.int .u64 1] w fun e w' => e = .returned (.agg #[.int .u64 0, .int .u64 1]) ∧ Below w.heap.size w w' := by
  have h := of_any 1 (by decide) w; rw [W1] at h; exact h
theorem of2 (w : World) : Calls Try.prog 27 #[.int .u64 2] w fun e w' => e = .returned (.agg #[.int .u64 0, .int .u64 2]) ∧ Below w.heap.size w w' := by
  have h := of_any 2 (by decide) w; rw [W2] at h; exact h
theorem of3 (w : World) : Calls Try.prog 27 #[.int .u64 3] w fun e w' => e = .returned (.agg #[.int .u64 0, .int .u64 3]) ∧ Below w.heap.size w w' := by
  have h := of_any 3 (by decide) w; rw [W3] at h; exact h
theorem of4 (w : World) : Calls Try.prog 27 #[.int .u64 4] w fun e w' => e = .returned (.agg #[.int .u64 0, .int .u64 4]) ∧ Below w.heap.size w w' := by
  have h := of_any 4 (by decide) w; rw [W4] at h; exact h
theorem addA (w : World) : Calls Try.prog 19 #[.agg #[.int .u64 18446744073709551615, .int .u64 18446744073709551615], .agg #[.int .u64 0, .int .u64 2]] w fun e w' => e = .returned (.tuple #[.agg #[.int .u64 0, .int .u64 1], .bool true]) ∧ Below w.heap.size w w' := by
  have h := add_any (MM - 1) 2 (by decide) (by decide) w
  rw [ones, W2, show (MM - 1 + 2) % MM = 1 by decide, W1, show decide (MM ≤ MM - 1 + 2) = true by decide] at h; exact h
theorem subA (w : World) : Calls Try.prog 22 #[.agg #[.int .u64 0, .int .u64 1], .agg #[.int .u64 0, .int .u64 2]] w fun e w' => e = .returned (.tuple #[.agg #[.int .u64 18446744073709551615, .int .u64 18446744073709551615], .bool true]) ∧ Below w.heap.size w w' := by
  have h := sub_any 1 2 (by decide) (by decide) w
  rw [W1, W2, show (1 + MM - 2) % MM = MM - 1 by decide, ones, show decide (1 < 2) = true by decide] at h; exact h
theorem mulA (w : World) : Calls Try.prog 28 #[.int .u64 9223372036854775808, .int .u64 4] w fun e w' => e = .returned (.agg #[.int .u64 2, .int .u64 0]) ∧ Below w.heap.size w w' := by
  have h := mul_any 9223372036854775808 4 (by decide) (by decide) w
  rw [W_lit (9223372036854775808 * 4) 2 0 (by decide) (by decide)] at h; exact h
theorem cmpA (w : World) : Calls Try.prog 25 #[.agg #[.int .u64 0, .int .u64 3], .agg #[.int .u64 0, .int .u64 4]] w fun e w' => e = .returned (.int .i64 (-1)) ∧ Below w.heap.size w w' := by
  have h := cmp_any 3 4 (by decide) (by decide) w
  rw [W3, W4, show cmpI 3 4 = -1 by decide] at h; exact h
theorem maskA (w : World) : Calls Try.prog 37 #[.int .i64 65] w fun e w' => e = .returned (.agg #[.int .u64 18446744073709551615, .int .u64 9223372036854775808]) ∧ Below w.heap.size w w' := by
  have h := mask_any 65 w
  rw [W_lit (maskN (min (65 : Int).toNat 128)) 18446744073709551615 9223372036854775808 (by decide) (by decide)] at h; exact h
theorem bitA (w : World) : Calls Try.prog 40 #[.agg #[.int .u64 0, .int .u64 1], .int .i64 127] w fun e w' => e = .returned (.bool true) ∧ Below w.heap.size w w' := by
  have h := bit_any 1 (by decide) 127 w
  rw [W1, show bitB 1 127 = true by decide] at h; exact h
theorem sameA (w : World) : Calls Try.prog 42 #[.agg #[.int .u64 0, .int .u64 1], .agg #[.int .u64 0, .int .u64 0]] w fun e w' => e = .returned (.int .i64 127) ∧ Below w.heap.size w w' := by
  have h := same_any 1 0 (by decide) (by decide) w
  have e : sameR (bitOf 1) (bitOf 0) 128 = 127 := by
    refine same_stop _ _ 127 (by decide) (fun j hj => ?_) (by decide)
    have : 1 < 2 ^ (127 - j) := Nat.one_lt_two_pow (by omega)
    unfold bitOf
    rw [Nat.div_eq_of_lt this, Nat.zero_div]
  rw [W1, W0, e] at h; exact h
theorem leftA (w : World) : Calls Try.prog 30 #[.agg #[.int .u64 0, .int .u64 1], .int .i64 64] w fun e w' => e = .returned (.agg #[.int .u64 1, .int .u64 0]) ∧ Below w.heap.size w w' := by
  have h := left_any 1 (by decide) 64 w
  rw [W1, W_lit (1 * 2 ^ (64 : Int).toNat % MM) 1 0 (by decide) (by decide)] at h; exact h

set_option maxRecDepth 100000 in
set_option maxHeartbeats 8000000 in
theorem alive_any (w : World) : Calls Try.prog 24 #[] w fun e w' => e = .returned (.bool true) ∧ Below w.heap.size w w' := by
  go_enter Try.func24, Try.ntmps24
  go_wp2_with (first
    | (go_at_call 19; refine (addA _).mono ?_; rintro e w2 ⟨rfl, hb2⟩; have hB2 : Hid (Below w.heap.size w w2) := below_next hB1.out hb2; clear hb2)
    | (go_at_call 22; refine (subA _).mono ?_; rintro e w5 ⟨rfl, hb5⟩; have hB5 : Hid (Below (w2.alloc (.cells #[.int .u64 0, .int .u64 1] 24)).heap.size (w2.alloc (.cells #[.int .u64 0, .int .u64 1] 24)) w5) := below_next hB4.out hb5; clear hb5)
    | (go_at_call 27; refine (of2 _).mono ?_; rintro e w1 ⟨rfl, hb1⟩; have hB1 : Hid (Below w.heap.size w w1) := hb1; clear hb1)
    | (go_at_call 27; refine (of1 _).mono ?_; rintro e w3 ⟨rfl, hb3⟩; have hB3 := Lib.hid hb3; clear hb3)
    | (go_at_call 27; refine (of2 _).mono ?_; rintro e w4 ⟨rfl, hb4⟩; have hB4 : Hid (Below (w2.alloc (.cells #[.int .u64 0, .int .u64 1] 24)).heap.size (w2.alloc (.cells #[.int .u64 0, .int .u64 1] 24)) w4) := below_next hB3.out hb4; clear hb4)
    | fail)
  have hbx : Boxes w (w5.alloc (.cells #[.int .u64 18446744073709551615, .int .u64 18446744073709551615] 24)) [(w2.heap.size, 24, 0, 1), (w5.heap.size, 24, 18446744073709551615, 18446744073709551615)] := by
    refine ⟨below_alloc ((below_alloc hB2.out _).trans (hB5.out.mono (below_alloc hB2.out _).size)) _, fun x hx => ?_⟩
    simp only [List.mem_cons, List.not_mem_nil, or_false] at hx
    rcases hx with rfl | rfl
    · exact old_alloc _ (old_below hB5.out (heap_alloc_new _ _))
    · exact heap_alloc_new _ _
  generalize w5.alloc (.cells #[.int .u64 18446744073709551615, .int .u64 18446744073709551615] 24) = w0 at *
  generalize w2.heap.size = b1 at *
  generalize w5.heap.size = b3 at *
  have HNk : ∀ W, Boxes w W [(b1, 24, 0, 1), (b3, 24, 18446744073709551615, 18446744073709551615)] → (Boxes w W [(b1, 24, 0, 1), (b3, 24, 18446744073709551615, 18446744073709551615)] ∧ (W.cell? ⟨b1, 0, none⟩ = some (.int .u64 0) ∧ W.cell? ⟨b1, 1, none⟩ = some (.int .u64 1)) ∧ (W.cell? ⟨b3, 0, none⟩ = some (.int .u64 18446744073709551615) ∧ W.cell? ⟨b3, 1, none⟩ = some (.int .u64 18446744073709551615))) := fun W h =>
    ⟨h, two_cells (h.all (b1, 24, 0, 1) (by simp)), two_cells (h.all (b3, 24, 18446744073709551615, 18446744073709551615) (by simp))⟩
  have HN : Hid (∀ W V, (Boxes w W [(b1, 24, 0, 1), (b3, 24, 18446744073709551615, 18446744073709551615)] ∧ (W.cell? ⟨b1, 0, none⟩ = some (.int .u64 0) ∧ W.cell? ⟨b1, 1, none⟩ = some (.int .u64 1)) ∧ (W.cell? ⟨b3, 0, none⟩ = some (.int .u64 18446744073709551615) ∧ W.cell? ⟨b3, 1, none⟩ = some (.int .u64 18446744073709551615))) → Below W.heap.size W V → (Boxes w V [(b1, 24, 0, 1), (b3, 24, 18446744073709551615, 18446744073709551615)] ∧ (V.cell? ⟨b1, 0, none⟩ = some (.int .u64 0) ∧ V.cell? ⟨b1, 1, none⟩ = some (.int .u64 1)) ∧ (V.cell? ⟨b3, 0, none⟩ = some (.int .u64 18446744073709551615) ∧ V.cell? ⟨b3, 1, none⟩ = some (.int .u64 18446744073709551615)))) := fun W V h hb => HNk _ (h.1.next hb)
  have HS0 : Hid (Boxes w w0.drew [(b1, 24, 0, 1), (b3, 24, 18446744073709551615, 18446744073709551615)] ∧ (w0.drew.cell? ⟨b1, 0, none⟩ = some (.int .u64 0) ∧ w0.drew.cell? ⟨b1, 1, none⟩ = some (.int .u64 1)) ∧ (w0.drew.cell? ⟨b3, 0, none⟩ = some (.int .u64 18446744073709551615) ∧ w0.drew.cell? ⟨b3, 1, none⟩ = some (.int .u64 18446744073709551615))) := HNk _ (hbx.next ⟨rfl, rfl, rfl, Nat.le_refl _, fun _ _ => rfl⟩)
  have HF : Hid (∀ W, (Boxes w W [(b1, 24, 0, 1), (b3, 24, 18446744073709551615, 18446744073709551615)] ∧ (W.cell? ⟨b1, 0, none⟩ = some (.int .u64 0) ∧ W.cell? ⟨b1, 1, none⟩ = some (.int .u64 1)) ∧ (W.cell? ⟨b3, 0, none⟩ = some (.int .u64 18446744073709551615) ∧ W.cell? ⟨b3, 1, none⟩ = some (.int .u64 18446744073709551615))) → Below w.heap.size w W) := fun W h => h.1.below
  clear HNk hbx
  go_region_held3 (fun W => (Boxes w W [(b1, 24, 0, 1), (b3, 24, 18446744073709551615, 18446744073709551615)] ∧ (W.cell? ⟨b1, 0, none⟩ = some (.int .u64 0) ∧ W.cell? ⟨b1, 1, none⟩ = some (.int .u64 1)) ∧ (W.cell? ⟨b3, 0, none⟩ = some (.int .u64 18446744073709551615) ∧ W.cell? ⟨b3, 1, none⟩ = some (.int .u64 18446744073709551615)))) (first | exact HS0.out | assumption)
    (first
      | (go_at_call 28; refine (mulA _).mono ?_; rintro e w1 ⟨rfl, hb1⟩; have hS1 := HN.out _ _ (by assumption) hb1; clear hb1)
      | (go_at_call 27; refine (of0 _).mono ?_; rintro e w1 ⟨rfl, hb1⟩; have hS1 := HN.out _ _ (by assumption) hb1; clear hb1)
      | (go_at_call 27; refine (of1 _).mono ?_; rintro e w1 ⟨rfl, hb1⟩; have hS1 := HN.out _ _ (by assumption) hb1; clear hb1)
      | (go_at_call 27; refine (of3 _).mono ?_; rintro e w1 ⟨rfl, hb1⟩; have hS1 := HN.out _ _ (by assumption) hb1; clear hb1)
      | (go_at_call 27; refine (of4 _).mono ?_; rintro e w1 ⟨rfl, hb1⟩; have hS1 := HN.out _ _ (by assumption) hb1; clear hb1)
      | (go_at_call 25; refine (cmpA _).mono ?_; rintro e w1 ⟨rfl, hb1⟩; have hS1 := HN.out _ _ (by assumption) hb1; clear hb1)
      | (go_at_call 37; refine (maskA _).mono ?_; rintro e w1 ⟨rfl, hb1⟩; have hS1 := HN.out _ _ (by assumption) hb1; clear hb1)
      | (go_at_call 40; refine (bitA _).mono ?_; rintro e w1 ⟨rfl, hb1⟩; have hS1 := HN.out _ _ (by assumption) hb1; clear hb1)
      | (go_at_call 42; refine (sameA _).mono ?_; rintro e w1 ⟨rfl, hb1⟩; have hS1 := HN.out _ _ (by assumption) hb1; clear hb1)
      | (go_at_call 30; refine (leftA _).mono ?_; rintro e w1 ⟨rfl, hb1⟩; have hS1 := HN.out _ _ (by assumption) hb1; clear hb1))
  all_goals go_wp2_with fail
  all_goals go_ret
  all_goals exact ⟨rfl, HF.out _ (by assumption)⟩

end Go.Proofs.Ytcaeaepnobbjlaa
