import Derived.Test.YtbbanicjlfabgaaF
namespace Go.Proofs.Ytbbanicjlfabgaa
set_option linter.unusedVariables false
set_option linter.unusedSimpArgs false
open Go.RowKit

theorem index24 (cs : Array Value) (i : Nat) (v : Value) (hi : i < 256) (hv : cs[i]? = some v) (w : World) :
    (Instr.index 24 (.agg cs) (.int .u8 i)).run Try.prog w = .ok v w := by
  simp [Instr.index, run_underlying Try.underlying24, asIntOf, go_sem, hv]
  omega
theorem below_next {a w w1 : World} (h : Below a.heap.size a w) (hb : Below w.heap.size w w1) : Below a.heap.size a w1 := h.trans (hb.mono h.size)

set_option maxRecDepth 100000 in
set_option maxHeartbeats 800000 in
theorem tables_any (n : Nat) (hn : n < 256) (w : World) :
    Calls Try.prog 3 #[.int .u8 n] w fun e w' => e = .returned (.bool true) ∧ Below w.heap.size w w' := by
  have hx := index24 (tabOf word) n _ hn (tabOf_get? word n hn)
  have hwr : IntKind.i64.wrap (n : Int) = n := by rw [IntKind.wrap_i64]; omega
  have k0 : (0 : Int) ≤ (n : Int) := by omega
  have k1 : (n : Int) < 256 := by omega
  go_enter Try.func3, Try.ntmps3
  go_wp2_with fail
  go_region_held3 (fun w' => Below w.heap.size w w')
    (first | assumption | exact (Below.refl _ _).drew)
    (first
      | (go_at_call 10; refine (alive_any _).mono ?_; rintro e w1 ⟨rfl, hb1⟩; have hS1 : Below w.heap.size w w1 := below_next (by assumption) hb1; clear hb1)
      | (go_at_call 11; refine (table_word _).mono ?_; rintro e w1 ⟨rfl, hb1⟩; have hS1 : Below w.heap.size w w1 := below_next (by assumption) hb1; clear hb1)
      | (go_at_call 12; refine (word_any n hn _).mono ?_; rintro e w1 ⟨rfl, rfl⟩))
  all_goals
    go_wp2
    go_ret
    exact ⟨by simp, by assumption⟩

end Go.Proofs.Ytbbanicjlfabgaa
