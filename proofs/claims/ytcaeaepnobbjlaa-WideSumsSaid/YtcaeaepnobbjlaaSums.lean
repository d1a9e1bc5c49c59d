/- For all numbers a and b of 128 bits the law WideSums returns true: Cmp, Add and Sub return the results of the reference, including overflow. No condition. -/
import Derived.Test.YtcaeaepnobbjlaaU
import Derived.Test.YtcaeaepnobbjlaaO2
namespace Go.Proofs.Ytcaeaepnobbjlaa
set_option linter.unusedVariables false
set_option linter.unusedSimpArgs false
open Go.ChangeShapes Go.WideShapes Go.ChangeAt Go.RowKit

theorem sums_any (a b : Nat) (ha : a < MM) (hb : b < MM) (w : World) :
    Calls Try.prog 3 #[W a, W b] w fun e w' => e = .returned (.bool true) ∧ Below w.heap.size w w' := by
  refine sums_walk (a / M) (a % M) (b / M) (b % M) ((a + b) % MM / M) ((a + b) % MM % M) ((a + MM - b) % MM / M) ((a + MM - b) % MM % M) (decide (MM ≤ a + b)) (decide (a < b)) (cmpI a b)
    (fun w => add_any a b ha hb w) (fun w => as_any a w) (fun w => as_any b w) (fun w => refadd_any a b ha hb w) (fun w => sub_any a b ha hb w) (fun w => refsub_any a b ha hb w)
    (fun w => as_any _ w) (fun w => as_any _ w) (fun w => cmp_any a b ha hb w) (fun w => refcmp_any a b ha hb w) (fun w => ?_) w
  have hl : a % M < M := Nat.mod_lt _ (by rw [M_eq]; omega)
  have h := of_any (a % M) hl w
  rw [W_lit (a % M) 0 (a % M) (Nat.div_eq_of_lt hl) (Nat.mod_eq_of_lt hl)] at h
  exact h

set_option maxRecDepth 100000 in
theorem wideSums_lifted (os : Os) (started : os.Started) (H : Type) (enc : TypeId × Value → H) :
    ReturnsInHanded {} Try.checked os 3 .any (Rows.wideSumsSpec.pre6 enc Try.prog Try.f3 Rows.wideSumsRow.domain false) (Rows.wideSumsSpec.post enc Try.prog Try.f3 false true false false) := by
  refine law_lifted (C := Try.checked) (T := 4) Try.own started (by kernel_rfl) Try.func3
    (ChangeSpec.witness6 (enc := enc) (C := Try.checked) false ⟨#[], #[.agg #[.int .u64 0, .int .u64 0], .agg #[.int .u64 0, .int .u64 0]], []⟩ 8 (by kernel_rfl) (by kernel_rfl) (by kernel_rfl) (by kernel_rfl))
    Try.laidOut (of_decide_eq_true (by kernel_rfl)) rfl Try.underlying4 rfl (fun ds h => by match ds, h with | [_, _], _ => rfl) ?_
  intro W base args ds p hval0 hA0 hsz0
  have hval : ∀ (j : Nat) t v, Try.f3.params[j]? = some t → args[j]? = some v → Value.okWide Try.prog W .any base t v := hval0
  have hA : DataW.TrodAll enc Try.prog W 0 (fun _ => true) true Try.f3.params.toList args.toList ds p := hA0
  have hsz : (DataW.weightsEach Try.prog Try.f3.params.toList ds).all (· ≤ reachBytes) = true := hsz0
  rw [Try.params3] at hA hval hsz
  obtain ⟨v0, vs0, d0, ds0, p0, q0, hargs, rfl, rfl, h0, r0⟩ := trodAll_cons hA
  obtain ⟨v1, vs1, d1, ds1, p1, q1, rfl, rfl, rfl, h1, r1⟩ := trodAll_cons r0
  obtain ⟨rfl, rfl, rfl⟩ := trodAll_nil r1
  obtain rfl : args = #[v0, v1] := by cases args; simp_all
  obtain ⟨a, ha, rfl, rfl⟩ := open_wide (hval 0 24 v0 rfl rfl) h0
  obtain ⟨b, hb, rfl, rfl⟩ := open_wide (hval 1 24 v1 rfl rfl) h1
  exact sums_any a b ha hb W

theorem wideSums_holds : Rows.WideSumsSaid :=
  OpenClaim.holds_of_wide 3 Try.f3 rfl rfl rfl rfl rfl rfl rfl ⟨rfl, rfl, rfl, rfl, rfl⟩ rfl rfl rfl rfl rfl (by kernel_rfl) Try.func3 (by kernel_rfl)
    (of_decide_eq_true (by kernel_rfl)) (by unfold Func.isWrapper; rw [if_neg (of_decide_eq_false (by kernel_rfl))]; exact ⟨rfl, rfl⟩)
    (fun os started H enc _ => wideSums_lifted os started H enc)

end Go.Proofs.Ytcaeaepnobbjlaa
