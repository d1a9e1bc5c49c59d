/- For all numbers a, b and c of 128 bits the law WideBack returns true: Add and Sub are inverse to each other and Add is commutative; a sum overflows exactly if it is less than a summand. No condition. -/
import Derived.Test.YtcaeaepnobbjlaaQ
import Derived.Test.YtcaeaepnobbjlaaO2
namespace Go.Proofs.Ytcaeaepnobbjlaa
set_option linter.unusedVariables false
set_option linter.unusedSimpArgs false
open Go.ChangeShapes Go.WideShapes Go.ChangeAt Go.RowKit

theorem back_any (a b c : Nat) (ha : a < MM) (hb : b < MM) (hc : c < MM) (w : World) :
    Calls Try.prog 5 #[W a, W b, W c] w fun e w' => e = .returned (.bool true) ∧ Below w.heap.size w w' := by
  have hM : 0 < MM := by decide
  have hs : (a + b) % MM < MM := Nat.mod_lt _ hM
  have hv : (b + c) % MM < MM := Nat.mod_lt _ hM
  refine back_walk (a / M) (a % M) (b / M) (b % M) (c / M) (c % M) ((a + b) % MM / M) ((a + b) % MM % M) ((a + b + c) % MM / M) ((a + b + c) % MM % M) ((b + c) % MM / M) ((b + c) % MM % M)
    (decide (MM ≤ a + b)) (decide (MM ≤ b + a)) (decide ((a + b) % MM < b)) (decide (MM ≤ (a + b) % MM + c)) (decide (MM ≤ b + c)) (decide (MM ≤ a + (b + c) % MM)) (cmpI ((a + b) % MM) a)
    (fun w => add_any a b ha hb w) (fun w => ?_) (fun w => ?_) (fun w => ?_) (fun w => add_any b c hb hc w) (fun w => ?_) (fun w => cmp_any _ a hs ha w) ?_ w
  · have h := add_any b a hb ha w
    rw [Nat.add_comm b a] at h ⊢
    exact h
  · have h := sub_any ((a + b) % MM) b hs hb w
    rw [show ((a + b) % MM + MM - b) % MM = a by rw [MM_eq] at *; omega] at h
    exact h
  · have h := add_any ((a + b) % MM) c hs hc w
    rw [show ((a + b) % MM + c) % MM = (a + b + c) % MM by rw [MM_eq] at *; omega] at h
    exact h
  · have h := add_any a ((b + c) % MM) ha hv w
    rw [show (a + (b + c) % MM) % MM = (a + b + c) % MM by rw [MM_eq] at *; omega] at h
    exact h
  · unfold cmpI
    by_cases h : MM ≤ a + b
    · rw [if_pos (by rw [MM_eq] at *; omega)]; simp [h]
    · rw [if_neg (by rw [MM_eq] at *; omega)]
      by_cases h2 : a < (a + b) % MM
      · rw [if_pos h2]; simp [h]
      · rw [if_neg h2]; simp [h]

set_option maxRecDepth 100000 in
theorem wideBack_lifted (os : Os) (started : os.Started) (H : Type) (enc : TypeId × Value → H) :
    ReturnsInHanded {} Try.checked os 5 .any (Rows.wideBackSpec.pre6 enc Try.prog Try.f5 Rows.wideBackRow.domain false) (Rows.wideBackSpec.post enc Try.prog Try.f5 false true false false) := by
  refine law_lifted (C := Try.checked) (T := 4) Try.own started (by kernel_rfl) Try.func5
    (ChangeSpec.witness6 (enc := enc) (C := Try.checked) false ⟨#[], #[.agg #[.int .u64 0, .int .u64 0], .agg #[.int .u64 0, .int .u64 0], .agg #[.int .u64 0, .int .u64 0]], []⟩ 8 (by kernel_rfl) (by kernel_rfl) (by kernel_rfl) (by kernel_rfl))
    Try.laidOut (of_decide_eq_true (by kernel_rfl)) rfl Try.underlying4 rfl (fun ds h => by match ds, h with | [_, _, _], _ => rfl) ?_
  intro W base args ds p hval0 hA0 hsz0
  have hval : ∀ (j : Nat) t v, Try.f5.params[j]? = some t → args[j]? = some v → Value.okWide Try.prog W .any base t v := hval0
  have hA : DataW.TrodAll enc Try.prog W 0 (fun _ => true) true Try.f5.params.toList args.toList ds p := hA0
  have hsz : (DataW.weightsEach Try.prog Try.f5.params.toList ds).all (· ≤ reachBytes) = true := hsz0
  rw [Try.params5] at hA hval hsz
  obtain ⟨v0, vs0, d0, ds0, p0, q0, hargs, rfl, rfl, h0, r0⟩ := trodAll_cons hA
  obtain ⟨v1, vs1, d1, ds1, p1, q1, rfl, rfl, rfl, h1, r1⟩ := trodAll_cons r0
  obtain ⟨v2, vs2, d2, ds2, p2, q2, rfl, rfl, rfl, h2, r2⟩ := trodAll_cons r1
  obtain ⟨rfl, rfl, rfl⟩ := trodAll_nil r2
  obtain rfl : args = #[v0, v1, v2] := by cases args; simp_all
  obtain ⟨a, ha, rfl, rfl⟩ := open_wide (hval 0 24 v0 rfl rfl) h0
  obtain ⟨b, hb, rfl, rfl⟩ := open_wide (hval 1 24 v1 rfl rfl) h1
  obtain ⟨c, hc, rfl, rfl⟩ := open_wide (hval 2 24 v2 rfl rfl) h2
  exact back_any a b c ha hb hc W

theorem wideBack_holds : Rows.WideBackSaid :=
  OpenClaim.holds_of_wide 5 Try.f5 rfl rfl rfl rfl rfl rfl rfl ⟨rfl, rfl, rfl, rfl, rfl⟩ rfl rfl rfl rfl rfl (by kernel_rfl) Try.func5 (by kernel_rfl)
    (of_decide_eq_true (by kernel_rfl)) (by unfold Func.isWrapper; rw [if_neg (of_decide_eq_false (by kernel_rfl))]; exact ⟨rfl, rfl⟩)
    (fun os started H enc _ => wideBack_lifted os started H enc)

end Go.Proofs.Ytcaeaepnobbjlaa
