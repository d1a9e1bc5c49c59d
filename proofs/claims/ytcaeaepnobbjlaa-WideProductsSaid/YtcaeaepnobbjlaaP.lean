import Derived.Test.YtcaeaepnobbjlaaN
namespace Go.Proofs.Ytcaeaepnobbjlaa
set_option linter.unusedVariables false
set_option linter.unusedSimpArgs false
open Go.RowKit

set_option maxRecDepth 100000 in
set_option maxHeartbeats 4000000 in
theorem products_any (a b : Nat) (ha : a < M) (hb : b < M) (w : World) :
    Calls Try.prog 4 #[.int .u64 a, .int .u64 b] w fun e w' => e = .returned (.bool true) ∧ Below w.heap.size w w' := by
  have c1 := fun w => mul_any a b ha hb w
  have c2 := fun w => as_any (a * b) w
  have c3 := fun w => refmul_any a b ha hb w
  rw [W_of] at c1 c2 c3
  generalize a * b / M = p at *
  generalize a * b % M = q at *
  have C1 := Lib.hid c1
  have C2 := Lib.hid c2
  have C3 := Lib.hid c3
  clear c1 c2 c3 ha hb
  go_enter Try.func4, Try.ntmps4
  go_wp2_with (first
    | (go_at_call 24; refine (alive_any _).mono ?_; rintro e w1 ⟨rfl, hb1⟩; have hB1 : Hid (Below w.heap.size w w1) := hb1; clear hb1)
    | (go_at_call 28; refine (C1.out _).mono ?_; rintro e w2 ⟨rfl, hb1⟩; have hB2 : Hid (Below w.heap.size w w2) := below_next hB1.out hb1; clear hb1)
    | (go_at_call 21; refine (C2.out _).mono ?_; rintro e w3 ⟨rfl, hb1⟩; have hB3 : Hid (Below w.heap.size w w3) := below_next hB2.out hb1; clear hb1)
    | (go_at_call 29; refine (C3.out _).mono ?_; rintro e w4 ⟨rfl, hb1⟩; have hB4 : Hid (Below w.heap.size w w4) := below_next hB3.out hb1; clear hb1))
  go_ret
  exact ⟨by simp, hB4.out⟩

end Go.Proofs.Ytcaeaepnobbjlaa
