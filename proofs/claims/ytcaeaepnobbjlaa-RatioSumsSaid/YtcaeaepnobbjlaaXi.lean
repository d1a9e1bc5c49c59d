import Derived.Test.YtcaeaepnobbjlaaXh
namespace Go.Proofs.Ytcaeaepnobbjlaa
set_option linter.unusedVariables false
set_option linter.unusedSimpArgs false
open Go.RowKit

theorem ratA (w : World) : Calls Try.prog 28 #[.int .u64 9223372036854775808, .int .u64 6] w fun e w' => e = .returned (.agg #[.int .u64 3, .int .u64 0]) ∧ Below w.heap.size w w' := by
  have h := mul_any 9223372036854775808 6 (by decide) (by decide) w
  rw [W_lit (9223372036854775808 * 6) 3 0 (by decide) (by decide)] at h; exact h
theorem ratB (w : World) : Calls Try.prog 65 #[.agg #[.int .u64 3, .int .u64 0], .int .u64 5] w fun e w' => e = .returned (.tuple #[.agg #[.int .u64 0, .int .u64 11068046444225730969], .int .u64 3]) ∧ Below w.heap.size w w' := by
  have h := div_any (9223372036854775808 * 6) 5 (by decide) (by decide) w
  rw [W_lit (9223372036854775808 * 6) 3 0 (by decide) (by decide), if_neg (by omega), if_neg (by omega), W_lit (9223372036854775808 * 6 / 5) 0 11068046444225730969 (by decide) (by decide)] at h; exact h
theorem ratC (w : World) : Calls Try.prog 55 #[.int .i64 10, .int .i64 1, .int .i64 4] w fun e w' => e = .returned (.bool true) ∧ Below w.heap.size w w' := by
  have h := ratright_any 10 1 4 w
  rw [show rightB 10 1 4 = true by decide] at h; exact h
theorem ratD (w : World) : Calls Try.prog 55 #[.int .i64 4, .int .i64 1, .int .i64 4] w fun e w' => e = .returned (.bool false) ∧ Below w.heap.size w w' := by
  have h := ratright_any 4 1 4 w
  rw [show rightB 4 1 4 = false by decide] at h; exact h
theorem ratE (w : World) : Calls Try.prog 57 #[.int .i64 3, .int .u64 10] w fun e w' => e = .returned (.int .u64 3) ∧ Below w.heap.size w w' := by
  have h := share_any 3 (by omega) 10 (by decide) w
  rw [show shareN 3 10 = 3 by decide] at h; exact h
theorem ratF (w : World) : Calls Try.prog 59 #[.int .i64 1, .int .i64 3, .int .u64 4, .int .u64 10] w fun e w' => e = .returned (.bool true) ∧ Below w.heap.size w w' := by
  have h := heavy_any 1 3 (by omega) (by omega) 4 10 (by decide) (by decide) w
  rw [show heavyB 1 3 4 10 = true by decide] at h; exact h
theorem ratG (w : World) : Calls Try.prog 59 #[.int .i64 1, .int .i64 3, .int .u64 3, .int .u64 10] w fun e w' => e = .returned (.bool false) ∧ Below w.heap.size w w' := by
  have h := heavy_any 1 3 (by omega) (by omega) 3 10 (by decide) (by decide) w
  rw [show heavyB 1 3 3 10 = false by decide] at h; exact h
theorem ratH (w : World) : Calls Try.prog 61 #[.int .i64 1, .int .i64 3, .int .u64 10] w fun e w' => e = .returned (.int .u64 4) ∧ Below w.heap.size w w' := by
  have h := least_any 1 3 (by omega) (by omega) 10 (by decide) w
  rw [show leastN 1 3 10 = 4 by decide] at h; exact h
theorem ratI (w : World) : Calls Try.prog 63 #[.int .i64 10, .int .i64 1, .int .i64 4] w fun e w' => e = .returned (.int .i64 6) ∧ Below w.heap.size w w' := by
  have h := most_any 10 1 4 w
  rw [show mostI 10 1 4 = 6 by decide] at h; exact h
theorem W6 : W 6 = .agg #[.int .u64 0, .int .u64 6] := W_lit 6 0 6 (by decide) (by decide)
theorem ratJ (v : Value) (w : World) (hv : U64At w v [1, 2, 3]) : Calls Try.prog 66 #[v] w fun e w' => e = .returned (.agg #[.int .u64 0, .int .u64 6]) ∧ Below w.heap.size w w' := by
  have h := sum_any [1, 2, 3] v w hv (by decide) (by intro x hx; simp only [List.mem_cons, List.not_mem_nil, or_false] at hx; rcases hx with rfl | rfl | rfl <;> decide)
  rw [show sumL [1, 2, 3] % MM = 6 by decide, W6] at h; exact h
theorem ratK (w : World) : Calls Try.prog 27 #[.int .u64 6] w fun e w' => e = .returned (.agg #[.int .u64 0, .int .u64 6]) ∧ Below w.heap.size w w' := by
  have h := of_any 6 (by decide) w; rw [W6] at h; exact h
theorem ratL (w : World) : Calls Try.prog 67 #[.int .u64 10, .agg #[.int .u64 0, .int .u64 1], .agg #[.int .u64 0, .int .u64 4]] w fun e w' => e = .returned (.int .u64 7) ∧ Below w.heap.size w w' := by
  have h := clip_any 10 1 4 (by decide) (by decide) (by decide) w
  rw [W1, W4, show clipN 10 1 4 = 7 by decide] at h; exact h
theorem u64_new (w : World) (t : Nat) : U64At (w.alloc (.cells #[.int .u64 1, .int .u64 2, .int .u64 3] t)) (.slice (some ⟨w.heap.size, 0, none⟩) 3 3) [1, 2, 3] := by
  refine ⟨⟨_, _, rfl, fun _ => ⟨_, _, rfl, fun i hi => ?_⟩⟩⟩
  rw [cell_of_row _ _ _ _ _ _ (heap_alloc_new _ _)]
  match i, hi with
  | 0, _ => rfl
  | 1, _ => rfl
  | 2, _ => rfl

set_option maxRecDepth 100000 in
set_option maxHeartbeats 16000000 in
theorem alive12_any (w : World) : Calls Try.prog 54 #[] w fun e w' => e = .returned (.bool true) ∧ Below w.heap.size w w' := by
  have HX0 : Hid (Boxes w w []) := Boxes.nil w
  go_enter Try.func54, Try.ntmps54
  go_wp2_with (first
    | (go_at_call 28; refine (ratA _).mono ?_; rintro e v1 ⟨rfl, hb1⟩
       have HY1 := Lib.hid (HX0.out.next hb1)
       clear hb1)
    | (go_at_call 65; refine (ratB _).mono ?_; rintro e v2 ⟨rfl, hb1⟩
       have HY2 := Lib.hid (HY1.out.next hb1)
       clear hb1)
    | (obtain ⟨w3, hw⟩ : ∃ w3, v2.alloc (.cells #[.int .u64 0, .int .u64 11068046444225730969] 24) = w3 := ⟨_, rfl⟩
       rewrite [hw]
       have HX3 : Hid (Boxes w w3 [(v2.heap.size, 24, 0, 11068046444225730969)]) := by rewrite [← hw]; exact HY2.out.new 24 0 11068046444225730969
       clear hw HY2 HY1
       generalize v2.heap.size = b at *))
  have HN : Hid (∀ W V, Boxes w W [(b, 24, 0, 11068046444225730969)] → Below W.heap.size W V → Boxes w V [(b, 24, 0, 11068046444225730969)]) := fun W V h hb => h.next hb
  have hS0 := HX3.out
  go_wp2_with (first
    | (go_at_call 55; (with_reducible refine (ratC _).mono ?_); rintro e w1 ⟨rfl, hb1⟩; have hS1 := HN.out _ _ (by first | assumption | exact HN.out _ _ (by assumption) (below_alloc (Below.refl _ _) _)) hb1; clear hb1)
    | (go_at_call 55; (with_reducible refine (ratD _).mono ?_); rintro e w1 ⟨rfl, hb1⟩; have hS1 := HN.out _ _ (by first | assumption | exact HN.out _ _ (by assumption) (below_alloc (Below.refl _ _) _)) hb1; clear hb1)
    | (go_at_call 57; (with_reducible refine (ratE _).mono ?_); rintro e w1 ⟨rfl, hb1⟩; have hS1 := HN.out _ _ (by first | assumption | exact HN.out _ _ (by assumption) (below_alloc (Below.refl _ _) _)) hb1; clear hb1)
    | (go_at_call 59; (with_reducible refine (ratF _).mono ?_); rintro e w1 ⟨rfl, hb1⟩; have hS1 := HN.out _ _ (by first | assumption | exact HN.out _ _ (by assumption) (below_alloc (Below.refl _ _) _)) hb1; clear hb1)
    | (go_at_call 59; (with_reducible refine (ratG _).mono ?_); rintro e w1 ⟨rfl, hb1⟩; have hS1 := HN.out _ _ (by first | assumption | exact HN.out _ _ (by assumption) (below_alloc (Below.refl _ _) _)) hb1; clear hb1)
    | (go_at_call 61; (with_reducible refine (ratH _).mono ?_); rintro e w1 ⟨rfl, hb1⟩; have hS1 := HN.out _ _ (by first | assumption | exact HN.out _ _ (by assumption) (below_alloc (Below.refl _ _) _)) hb1; clear hb1)
    | (go_at_call 63; (with_reducible refine (ratI _).mono ?_); rintro e w1 ⟨rfl, hb1⟩; have hS1 := HN.out _ _ (by first | assumption | exact HN.out _ _ (by assumption) (below_alloc (Below.refl _ _) _)) hb1; obtain ⟨⟨r0, s0⟩, -, -⟩ := hS1.at b 24 0 11068046444225730969 (by simp); clear hb1)
    | (go_at_call 27; (with_reducible refine (of1 _).mono ?_); rintro e w1 ⟨rfl, hb1⟩; have hS1 := HN.out _ _ (by first | assumption | exact HN.out _ _ (by assumption) (below_alloc (Below.refl _ _) _)) hb1; clear hb1)
    | (go_at_call 27; (with_reducible refine (of4 _).mono ?_); rintro e w1 ⟨rfl, hb1⟩; have hS1 := HN.out _ _ (by first | assumption | exact HN.out _ _ (by assumption) (below_alloc (Below.refl _ _) _)) hb1; clear hb1)
    | (go_at_call 27; (with_reducible refine (ratK _).mono ?_); rintro e w1 ⟨rfl, hb1⟩; have hS1 := HN.out _ _ (by first | assumption | exact HN.out _ _ (by assumption) (below_alloc (Below.refl _ _) _)) hb1)
    | (go_at_call 67; (with_reducible refine (ratL _).mono ?_); rintro e w1 ⟨rfl, hb1⟩; have hS1 := HN.out _ _ (by first | assumption | exact HN.out _ _ (by assumption) (below_alloc (Below.refl _ _) _)) hb1; clear hb1)
    | (go_at_call 66; refine (ratJ _ _ (by first | exact u64_new _ _ | exact (u64_new _ _).below (by assumption))).mono ?_; rintro e w1 ⟨rfl, hb1⟩; have hS1 := HN.out _ _ (by first | assumption | exact HN.out _ _ (by assumption) (below_alloc (Below.refl _ _) _)) hb1; clear hb1))
  all_goals go_ret
  all_goals exact ⟨rfl, Boxes.below (by assumption)⟩

end Go.Proofs.Ytcaeaepnobbjlaa

