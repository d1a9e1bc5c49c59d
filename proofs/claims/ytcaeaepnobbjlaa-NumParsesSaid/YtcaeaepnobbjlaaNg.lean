import Derived.Test.YtcaeaepnobbjlaaNf
namespace Go.Proofs.Ytcaeaepnobbjlaa
set_option linter.unusedVariables false
set_option linter.unusedSimpArgs false
open Go.RowKit

def revF : Nat → Nat → List (BitVec 8)
  | 0, n => [dig n]
  | k + 1, n => if n / 10 = 0 then [dig n] else dig n :: revF k (n / 10)
theorem revN_fuel : ∀ (k n : Nat), n < 10 ^ (k + 1) → revN n = revF k n
  | 0, n, h => by rw [revN_last n (by omega), revF]
  | k + 1, n, h => by
    rw [revF]
    by_cases h0 : n / 10 = 0
    · rw [if_pos h0, revN_last n h0]
    · rw [if_neg h0, revN_more n h0, revN_fuel k (n / 10) (by rw [Nat.pow_succ] at h; omega)]
set_option maxRecDepth 100000 in
theorem numA (w : World) : Calls Try.prog 48 #[.string { data := #[51, 48, 48] }, .int .u64 300] w fun e w' => e = .returned (.tuple #[.int .u64 300, .int .i64 0]) ∧ Below w.heap.size w w' := by
  have h := parse_any { data := #[51, 48, 48] } 300 (by decide) (by decide) w
  rw [show psN { data := #[51, 48, 48] } 300 = 300 by decide +kernel, show psE { data := #[51, 48, 48] } 300 = 0 by decide +kernel] at h; exact h
set_option maxRecDepth 100000 in
theorem numB (w : World) : Calls Try.prog 48 #[.string { data := #[51, 48, 48] }, .int .u64 255] w fun e w' => e = .returned (.tuple #[.int .u64 0, .int .i64 11]) ∧ Below w.heap.size w w' := by
  have h := parse_any { data := #[51, 48, 48] } 255 (by decide) (by decide) w
  rw [show psN { data := #[51, 48, 48] } 255 = 0 by decide +kernel, show psE { data := #[51, 48, 48] } 255 = 11 by decide +kernel] at h; exact h
set_option maxRecDepth 100000 in
theorem numC (w : World) : Calls Try.prog 48 #[.string { data := #[48, 48, 55] }, .int .u64 255] w fun e w' => e = .returned (.tuple #[.int .u64 0, .int .i64 3]) ∧ Below w.heap.size w w' := by
  have h := parse_any { data := #[48, 48, 55] } 255 (by decide) (by decide) w
  rw [show psN { data := #[48, 48, 55] } 255 = 0 by decide +kernel, show psE { data := #[48, 48, 55] } 255 = 3 by decide +kernel] at h; exact h
set_option maxRecDepth 100000 in
theorem numD (w : World) : Calls Try.prog 49 #[.string { data := #[49, 56, 52, 52, 54, 55, 52, 52, 48, 55, 51, 55, 48, 57, 53, 53, 49, 54, 49, 54] }] w fun e w' => e = .returned (.tuple #[.agg #[.int .u64 1, .int .u64 0], .int .i64 0]) ∧ Below w.heap.size w w' := by
  have h := parsewide_any { data := #[49, 56, 52, 52, 54, 55, 52, 52, 48, 55, 51, 55, 48, 57, 53, 53, 49, 54, 49, 54] } (by decide) w
  rw [show pwN { data := #[49, 56, 52, 52, 54, 55, 52, 52, 48, 55, 51, 55, 48, 57, 53, 53, 49, 54, 49, 54] } = 18446744073709551616 by decide +kernel, show pwE { data := #[49, 56, 52, 52, 54, 55, 52, 52, 48, 55, 51, 55, 48, 57, 53, 53, 49, 54, 49, 54] } = 0 by decide +kernel, W_lit 18446744073709551616 1 0 (by decide) (by decide)] at h; exact h
set_option maxRecDepth 100000 in
theorem numE (w : World) : Calls Try.prog 49 #[.string { data := #[51, 52, 48, 50, 56, 50, 51, 54, 54, 57, 50, 48, 57, 51, 56, 52, 54, 51, 52, 54, 51, 51, 55, 52, 54, 48, 55, 52, 51, 49, 55, 54, 56, 50, 49, 49, 52, 53, 54] }] w fun e w' => e = .returned (.tuple #[.agg #[.int .u64 0, .int .u64 0], .int .i64 11]) ∧ Below w.heap.size w w' := by
  have h := parsewide_any { data := #[51, 52, 48, 50, 56, 50, 51, 54, 54, 57, 50, 48, 57, 51, 56, 52, 54, 51, 52, 54, 51, 51, 55, 52, 54, 48, 55, 52, 51, 49, 55, 54, 56, 50, 49, 49, 52, 53, 54] } (by decide) w
  rw [show pwN { data := #[51, 52, 48, 50, 56, 50, 51, 54, 54, 57, 50, 48, 57, 51, 56, 52, 54, 51, 52, 54, 51, 51, 55, 52, 54, 48, 55, 52, 51, 49, 55, 54, 56, 50, 49, 49, 52, 53, 54] } = 0 by decide +kernel, show pwE { data := #[51, 52, 48, 50, 56, 50, 51, 54, 54, 57, 50, 48, 57, 51, 56, 52, 54, 51, 52, 54, 51, 51, 55, 52, 54, 48, 55, 52, 51, 49, 55, 54, 56, 50, 49, 49, 52, 53, 54] } = 11 by decide +kernel, W0] at h; exact h
set_option maxRecDepth 100000 in
theorem numF (w : World) : Calls Try.prog 47 #[.int .u64 120] w fun e w' => e = .returned (.string { data := #[49, 50, 48] }) ∧ Below w.heap.size w w' := by
  have h := numprint_any 120 (by decide) w
  rw [textN, revN_fuel 39 120 (by decide)] at h; exact h
set_option maxRecDepth 100000 in
theorem numG (w : World) : Calls Try.prog 45 #[.agg #[.int .u64 1, .int .u64 0]] w fun e w' => e = .returned (.string { data := #[49, 56, 52, 52, 54, 55, 52, 52, 48, 55, 51, 55, 48, 57, 53, 53, 49, 54, 49, 54] }) ∧ Below w.heap.size w w' := by
  have h := numwide_any 18446744073709551616 (by decide) w
  rw [W_lit 18446744073709551616 1 0 (by decide) (by decide), textN, revN_fuel 39 18446744073709551616 (by decide)] at h; exact h

set_option maxRecDepth 100000 in
set_option maxHeartbeats 16000000 in
theorem alive06_any (w : World) : Calls Try.prog 44 #[] w fun e w' => e = .returned (.bool true) ∧ Below w.heap.size w w' := by
  have HX0 : Hid (Boxes w w []) := Boxes.nil w
  go_enter Try.func44, Try.ntmps44
  go_wp2_with (first
    | (go_at_call 48; (with_reducible refine (numA _).mono ?_); rintro e v1 ⟨rfl, hb1⟩; have HY1 := Lib.hid (HX0.out.next hb1); clear hb1)
    | (go_at_call 48; (with_reducible refine (numB _).mono ?_); rintro e v2 ⟨rfl, hb1⟩; have HY2 := Lib.hid (HY1.out.next hb1); clear hb1)
    | (go_at_call 48; (with_reducible refine (numC _).mono ?_); rintro e v3 ⟨rfl, hb1⟩; have HY3 := Lib.hid (HY2.out.next hb1); clear hb1)
    | (go_at_call 49; (with_reducible refine (numD _).mono ?_); rintro e v4 ⟨rfl, hb1⟩; have HY4 := Lib.hid (HY3.out.next hb1); clear hb1)
    | (obtain ⟨w1, hw⟩ : ∃ w1, v4.alloc (.cells #[.int .u64 1, .int .u64 0] 24) = w1 := ⟨_, rfl⟩
       rewrite [hw]
       have HX1 : Hid (Boxes w w1 [(v4.heap.size, 24, 1, 0)]) := by rewrite [← hw]; exact HY4.out.new 24 1 0
       clear hw HY4
       generalize v4.heap.size = b7 at *)
    | (go_at_call 49; (with_reducible refine (numE _).mono ?_); rintro e v5 ⟨rfl, hb1⟩
       have HX2 : Hid (Boxes w (v5.alloc (.cells #[.int .u64 0, .int .u64 0] 24)) [(v5.heap.size, 24, 0, 0), (b7, 24, 1, 0)]) := (HX1.out.next hb1).new 24 0 0
       have q0 : (v5.alloc (.cells #[.int .u64 0, .int .u64 0] 24)).cell? ⟨b7, 0, none⟩ = some (.int .u64 1) := (HX2.out.at b7 24 1 0 (by simp)).1.1
       have q1 : (v5.alloc (.cells #[.int .u64 0, .int .u64 0] 24)).cell? ⟨b7, 1, none⟩ = some (.int .u64 0) := (HX2.out.at b7 24 1 0 (by simp)).1.2
       clear hb1)
    | (go_at_call 47; (with_reducible refine (numF _).mono ?_); rintro e v6 ⟨rfl, hb1⟩; have HY6 := Lib.hid (HX2.out.next hb1); clear hb1)
    | (go_at_call 45; (with_reducible refine (numG _).mono ?_); rintro e v7 ⟨rfl, hb1⟩; have HY7 := Lib.hid (HY6.out.next hb1); clear hb1))
  all_goals go_ret
  all_goals exact ⟨rfl, HY7.out.below⟩

end Go.Proofs.Ytcaeaepnobbjlaa

