import Derived.Test.YtcaeaepnobbjlaaXi
namespace Go.Proofs.Ytcaeaepnobbjlaa
set_option linter.unusedVariables false
set_option linter.unusedSimpArgs false
open Go.RowKit

set_option maxRecDepth 100000 in
set_option maxHeartbeats 16000000 in
theorem tells_walk (k a b mo : Int) (x n sh le : Nat) (rb hv : Bool)
    (c1 : ∀ w, Calls Try.prog 55 #[.int .i64 k, .int .i64 a, .int .i64 b] w fun e w' => e = .returned (.bool rb) ∧ Below w.heap.size w w')
    (c2 : ∀ w, Calls Try.prog 56 #[.int .i64 k, .int .i64 a, .int .i64 b] w fun e w' => e = .returned (.bool rb) ∧ Below w.heap.size w w')
    (c3 : ∀ w, Calls Try.prog 57 #[.int .i64 k, .int .u64 n] w fun e w' => e = .returned (.int .u64 sh) ∧ Below w.heap.size w w')
    (c4 : ∀ w, Calls Try.prog 58 #[.int .i64 k, .int .u64 n] w fun e w' => e = .returned (.int .u64 sh) ∧ Below w.heap.size w w')
    (c5 : ∀ w, Calls Try.prog 59 #[.int .i64 a, .int .i64 b, .int .u64 x, .int .u64 n] w fun e w' => e = .returned (.bool hv) ∧ Below w.heap.size w w')
    (c6 : ∀ w, Calls Try.prog 60 #[.int .i64 a, .int .i64 b, .int .u64 x, .int .u64 n] w fun e w' => e = .returned (.bool hv) ∧ Below w.heap.size w w')
    (c7 : ∀ w, Calls Try.prog 61 #[.int .i64 a, .int .i64 b, .int .u64 n] w fun e w' => e = .returned (.int .u64 le) ∧ Below w.heap.size w w')
    (c8 : ∀ w, Calls Try.prog 62 #[.int .i64 a, .int .i64 b, .int .u64 n] w fun e w' => e = .returned (.int .u64 le) ∧ Below w.heap.size w w')
    (c9 : ∀ w, Calls Try.prog 63 #[.int .i64 k, .int .i64 a, .int .i64 b] w fun e w' => e = .returned (.int .i64 mo) ∧ Below w.heap.size w w')
    (c10 : ∀ w, Calls Try.prog 64 #[.int .i64 k, .int .i64 a, .int .i64 b] w fun e w' => e = .returned (.int .i64 mo) ∧ Below w.heap.size w w') (w : World) :
    Calls Try.prog 12 #[.int .i64 k, .int .i64 a, .int .i64 b, .int .u64 x, .int .u64 n] w fun e w' => e = .returned (.bool true) ∧ Below w.heap.size w w' := by
  have C1 := Lib.hid c1
  have C2 := Lib.hid c2
  have C3 := Lib.hid c3
  have C4 := Lib.hid c4
  have C5 := Lib.hid c5
  have C6 := Lib.hid c6
  have C7 := Lib.hid c7
  have C8 := Lib.hid c8
  have C9 := Lib.hid c9
  have C10 := Lib.hid c10
  clear c1 c2 c3 c4 c5 c6 c7 c8 c9 c10
  have hS0 : Below w.heap.size w w := Below.refl _ _
  go_enter Try.func12, Try.ntmps12
  go_wp2_with (first
    | (go_at_call 54; (with_reducible refine (alive12_any _).mono ?_); rintro e w1 ⟨rfl, hb1⟩; have hS1 := below_next (by assumption) hb1; clear hb1)
    | (go_at_call 55; (with_reducible refine (C1.out _).mono ?_); rintro e w1 ⟨rfl, hb1⟩; have hS1 := below_next (by assumption) hb1; clear hb1)
    | (go_at_call 56; (with_reducible refine (C2.out _).mono ?_); rintro e w1 ⟨rfl, hb1⟩; have hS1 := below_next (by assumption) hb1; clear hb1)
    | (go_at_call 57; (with_reducible refine (C3.out _).mono ?_); rintro e w1 ⟨rfl, hb1⟩; have hS1 := below_next (by assumption) hb1; clear hb1)
    | (go_at_call 58; (with_reducible refine (C4.out _).mono ?_); rintro e w1 ⟨rfl, hb1⟩; have hS1 := below_next (by assumption) hb1; clear hb1)
    | (go_at_call 59; (with_reducible refine (C5.out _).mono ?_); rintro e w1 ⟨rfl, hb1⟩; have hS1 := below_next (by assumption) hb1; clear hb1)
    | (go_at_call 60; (with_reducible refine (C6.out _).mono ?_); rintro e w1 ⟨rfl, hb1⟩; have hS1 := below_next (by assumption) hb1; clear hb1)
    | (go_at_call 61; (with_reducible refine (C7.out _).mono ?_); rintro e w1 ⟨rfl, hb1⟩; have hS1 := below_next (by assumption) hb1; clear hb1)
    | (go_at_call 62; (with_reducible refine (C8.out _).mono ?_); rintro e w1 ⟨rfl, hb1⟩; have hS1 := below_next (by assumption) hb1; clear hb1)
    | (go_at_call 63; (with_reducible refine (C9.out _).mono ?_); rintro e w1 ⟨rfl, hb1⟩; have hS1 := below_next (by assumption) hb1; clear hb1)
    | (go_at_call 64; (with_reducible refine (C10.out _).mono ?_); rintro e w1 ⟨rfl, hb1⟩; have hS1 := below_next (by assumption) hb1; clear hb1))
  all_goals go_ret
  all_goals exact ⟨by simp, by assumption⟩

set_option maxRecDepth 100000 in
set_option maxHeartbeats 16000000 in
theorem least_law_walk (k a b mo : Int) (x n sh le : Nat) (p1 p2 rb hv hv2 : Bool)
    (c1 : ∀ w, Calls Try.prog 59 #[.int .i64 a, .int .i64 b, .int .u64 x, .int .u64 n] w fun e w' => e = .returned (.bool hv) ∧ Below w.heap.size w w')
    (c2 : ∀ w, Calls Try.prog 61 #[.int .i64 a, .int .i64 b, .int .u64 n] w fun e w' => e = .returned (.int .u64 le) ∧ Below w.heap.size w w')
    (c3 : ∀ w, Calls Try.prog 55 #[.int .i64 k, .int .i64 a, .int .i64 b] w fun e w' => e = .returned (.bool rb) ∧ Below w.heap.size w w')
    (c4 : ∀ w, Calls Try.prog 63 #[.int .i64 k, .int .i64 a, .int .i64 b] w fun e w' => e = .returned (.int .i64 mo) ∧ Below w.heap.size w w')
    (c5 : ∀ w, Calls Try.prog 57 #[.int .i64 k, .int .u64 n] w fun e w' => e = .returned (.int .u64 sh) ∧ Below w.heap.size w w')
    (c6 : ∀ w, Calls Try.prog 59 #[.int .i64 a, .int .i64 b, .int .u64 sh, .int .u64 n] w fun e w' => e = .returned (.bool hv2) ∧ Below w.heap.size w w')
    (h1 : decide (1 ≤ a) = p1) (h2 : decide (a ≤ b) = p2) (h3 : p1 = true → p2 = true → decide (le ≤ x) = hv) (h4 : rb = false → mo = 0) (h5 : rb = true → ((n : Int) == 0) = hv2) (w : World) :
    Calls Try.prog 15 #[.int .i64 k, .int .i64 a, .int .i64 b, .int .u64 x, .int .u64 n] w fun e w' => e = .returned (.bool true) ∧ Below w.heap.size w w' := by
  have C1 := Lib.hid c1
  have C2 := Lib.hid c2
  have C3 := Lib.hid c3
  have C4 := Lib.hid c4
  have C5 := Lib.hid c5
  have C6 := Lib.hid c6
  have H3 := Lib.hid h3
  have H4 := Lib.hid h4
  have H5 := Lib.hid h5
  clear c1 c2 c3 c4 c5 c6 h3 h4 h5
  have hS0 : Below w.heap.size w w := Below.refl _ _
  cases p1 <;> cases p2 <;> cases rb
  all_goals (try have k3 := H3.out rfl rfl)
  all_goals (try have k4 := H4.out rfl)
  all_goals (try have k5 := H5.out rfl)
  all_goals clear H3 H4 H5
  all_goals (try subst mo)
  all_goals (
    go_enter Try.func15, Try.ntmps15
    go_wp2_with (first
      | (go_at_call 54; (with_reducible refine (alive12_any _).mono ?_); rintro e w1 ⟨rfl, hb1⟩; have hS1 := below_next (by assumption) hb1; clear hb1)
      | (go_at_call 59; (with_reducible refine (C1.out _).mono ?_); rintro e w1 ⟨rfl, hb1⟩; have hS1 := below_next (by assumption) hb1; clear hb1)
      | (go_at_call 61; (with_reducible refine (C2.out _).mono ?_); rintro e w1 ⟨rfl, hb1⟩; have hS1 := below_next (by assumption) hb1; clear hb1)
      | (go_at_call 55; (with_reducible refine (C3.out _).mono ?_); rintro e w1 ⟨rfl, hb1⟩; have hS1 := below_next (by assumption) hb1; clear hb1)
      | (go_at_call 63; (with_reducible refine (C4.out _).mono ?_); rintro e w1 ⟨rfl, hb1⟩; have hS1 := below_next (by assumption) hb1; clear hb1)
      | (go_at_call 57; (with_reducible refine (C5.out _).mono ?_); rintro e w1 ⟨rfl, hb1⟩; have hS1 := below_next (by assumption) hb1; clear hb1)
      | (go_at_call 59; (with_reducible refine (C6.out _).mono ?_); rintro e w1 ⟨rfl, hb1⟩; have hS1 := below_next (by assumption) hb1; clear hb1))
    all_goals go_ret
    all_goals exact ⟨by simp, by assumption⟩)

set_option maxRecDepth 100000 in
set_option maxHeartbeats 16000000 in
theorem joins_walk (a b : Int) (x y n m s t : Nat) (one two both : Bool)
    (c1 : ∀ w, Calls Try.prog 59 #[.int .i64 a, .int .i64 b, .int .u64 x, .int .u64 n] w fun e w' => e = .returned (.bool one) ∧ Below w.heap.size w w')
    (c2 : ∀ w, Calls Try.prog 59 #[.int .i64 a, .int .i64 b, .int .u64 y, .int .u64 m] w fun e w' => e = .returned (.bool two) ∧ Below w.heap.size w w')
    (c3 : ∀ w, Calls Try.prog 59 #[.int .i64 a, .int .i64 b, .int .u64 s, .int .u64 t] w fun e w' => e = .returned (.bool both) ∧ Below w.heap.size w w')
    (e1 : IntKind.u64.wrap (x : Int) = x) (e2 : IntKind.u64.wrap (y : Int) = y) (e3 : IntKind.u64.wrap (n : Int) = n) (e4 : IntKind.u64.wrap (m : Int) = m)
    (e5 : IntKind.u64.wrap ((x : Int) + y) = s) (e6 : IntKind.u64.wrap ((n : Int) + m) = t)
    (h : (one = true ∧ two = true ∧ both = true) ∨ (one = false ∧ two = false ∧ both = false) ∨ (one = true ∧ two = false) ∨ (one = false ∧ two = true)) (w : World) :
    Calls Try.prog 16 #[.int .i64 a, .int .i64 b, .int .u32 x, .int .u32 y, .int .u32 n, .int .u32 m] w fun e w' => e = .returned (.bool true) ∧ Below w.heap.size w w' := by
  have C1 := Lib.hid c1
  have C2 := Lib.hid c2
  have C3 := Lib.hid c3
  clear c1 c2 c3
  have hS0 : Below w.heap.size w w := Below.refl _ _
  rcases h with ⟨rfl, rfl, rfl⟩ | ⟨rfl, rfl, rfl⟩ | ⟨rfl, rfl⟩ | ⟨rfl, rfl⟩
  all_goals (
    go_enter Try.func16, Try.ntmps16
    go_wp2_with (first
      | (go_at_call 54; (with_reducible refine (alive12_any _).mono ?_); rintro e w1 ⟨rfl, hb1⟩; have hS1 := below_next (by assumption) hb1; clear hb1)
      | (go_at_call 59; (with_reducible refine (C1.out _).mono ?_); rintro e w1 ⟨rfl, hb1⟩; have hS1 := below_next (by assumption) hb1; clear hb1)
      | (go_at_call 59; (with_reducible refine (C2.out _).mono ?_); rintro e w1 ⟨rfl, hb1⟩; have hS1 := below_next (by assumption) hb1; clear hb1)
      | (go_at_call 59; (with_reducible refine (C3.out _).mono ?_); rintro e w1 ⟨rfl, hb1⟩; have hS1 := below_next (by assumption) hb1; clear hb1))
    all_goals go_ret
    all_goals exact ⟨by simp, by assumption⟩)

end Go.Proofs.Ytcaeaepnobbjlaa

