/- For all integers a, b and all numbers x, y, n, m of 32 bits the law RatioJoins returns true: two weights that are heavy in their totals are heavy together; two that are not heavy are not heavy together. No condition. -/
import Derived.Test.YtcaeaepnobbjlaaYa
import Derived.Test.YtcaeaepnobbjlaaO2
namespace Go.Proofs.Ytcaeaepnobbjlaa
set_option linter.unusedVariables false
set_option linter.unusedSimpArgs false
open Go.ChangeShapes Go.WideShapes Go.ChangeAt Go.RowKit

theorem joinsLaw_any (a b : Int) (x y n m : Nat) (ha : a ≤ 9223372036854775807) (hb : b ≤ 9223372036854775807) (hx : x < 4294967296) (hy : y < 4294967296) (hn : n < 4294967296) (hm : m < 4294967296) (w : World) :
    Calls Try.prog 16 #[.int .i64 a, .int .i64 b, .int .u32 x, .int .u32 y, .int .u32 n, .int .u32 m] w fun e w' => e = .returned (.bool true) ∧ Below w.heap.size w w' := by
  refine joins_walk a b x y n m (x + y) (n + m) _ _ _ (fun w => heavy_any a b ha hb x n (by rw [M_eq]; omega) (by rw [M_eq]; omega) w) (fun w => heavy_any a b ha hb y m (by rw [M_eq]; omega) (by rw [M_eq]; omega) w)
    (fun w => heavy_any a b ha hb (x + y) (n + m) (by rw [M_eq]; omega) (by rw [M_eq]; omega) w) ?_ ?_ ?_ ?_ ?_ ?_ ?_ w
  · rw [IntKind.wrap_u64]; omega
  · rw [IntKind.wrap_u64]; omega
  · rw [IntKind.wrap_u64]; omega
  · rw [IntKind.wrap_u64]; omega
  · rw [IntKind.wrap_u64]; omega
  · rw [IntKind.wrap_u64]; omega
  · unfold heavyB
    rw [Nat.mul_add, Nat.mul_add]
    by_cases h1 : 1 ≤ a
    · by_cases h2 : 1 ≤ b
      · rw [decide_eq_true h1, decide_eq_true h2]
        simp only [Bool.true_and]
        generalize a.toNat * n = p at *
        generalize a.toNat * m = q at *
        generalize b.toNat * x = r at *
        generalize b.toNat * y = s at *
        by_cases k1 : p ≤ r
        · by_cases k2 : q ≤ s
          · exact Or.inl ⟨decide_eq_true k1, decide_eq_true k2, decide_eq_true (by omega)⟩
          · exact Or.inr (Or.inr (Or.inl ⟨decide_eq_true k1, decide_eq_false k2⟩))
        · by_cases k2 : q ≤ s
          · exact Or.inr (Or.inr (Or.inr ⟨decide_eq_false k1, decide_eq_true k2⟩))
          · exact Or.inr (Or.inl ⟨decide_eq_false k1, decide_eq_false k2, decide_eq_false (by omega)⟩)
      · rw [decide_eq_false h2]; exact Or.inr (Or.inl (by simp))
    · rw [decide_eq_false h1]; exact Or.inr (Or.inl (by simp))

set_option maxRecDepth 100000 in
theorem ratioJoins_lifted (os : Os) (started : os.Started) (H : Type) (enc : TypeId × Value → H) :
    ReturnsInHanded {} Try.checked os 16 .any (Rows.ratioJoinsSpec.pre6 enc Try.prog Try.f16 Rows.ratioJoinsRow.domain false) (Rows.ratioJoinsSpec.post enc Try.prog Try.f16 false true false false) := by
  refine law_lifted (C := Try.checked) (T := 4) Try.own started (by kernel_rfl) Try.func16
    (ChangeSpec.witness6 (enc := enc) (C := Try.checked) false ⟨#[], #[.int .i64 0, .int .i64 0, .int .u32 0, .int .u32 0, .int .u32 0, .int .u32 0], []⟩ 8 (by kernel_rfl) (by kernel_rfl) (by kernel_rfl) (by kernel_rfl))
    Try.laidOut (of_decide_eq_true (by kernel_rfl)) rfl Try.underlying4 rfl (fun ds h => by match ds, h with | [_, _, _, _, _, _], _ => rfl) ?_
  intro W base args ds p hval0 hA0 hsz0
  have hval : ∀ (j : Nat) t v, Try.f16.params[j]? = some t → args[j]? = some v → Value.okWide Try.prog W .any base t v := hval0
  have hA : DataW.TrodAll enc Try.prog W 0 (fun _ => true) true Try.f16.params.toList args.toList ds p := hA0
  have hsz : (DataW.weightsEach Try.prog Try.f16.params.toList ds).all (· ≤ reachBytes) = true := hsz0
  rw [Try.params16] at hA hval hsz
  obtain ⟨v0, vs0, d0, ds0, p0, q0, hargs, rfl, rfl, h0, r0⟩ := trodAll_cons hA
  obtain ⟨v1, vs1, d1, ds1, p1, q1, rfl, rfl, rfl, h1, r1⟩ := trodAll_cons r0
  obtain ⟨v2, vs2, d2, ds2, p2, q2, rfl, rfl, rfl, h2, r2⟩ := trodAll_cons r1
  obtain ⟨v3, vs3, d3, ds3, p3, q3, rfl, rfl, rfl, h3, r3⟩ := trodAll_cons r2
  obtain ⟨v4, vs4, d4, ds4, p4, q4, rfl, rfl, rfl, h4, r4⟩ := trodAll_cons r3
  obtain ⟨v5, vs5, d5, ds5, p5, q5, rfl, rfl, rfl, h5, r5⟩ := trodAll_cons r4
  obtain ⟨rfl, rfl, rfl⟩ := trodAll_nil r5
  obtain rfl : args = #[v0, v1, v2, v3, v4, v5] := by cases args; simp_all
  obtain ⟨a, rfl, rfl, rfl, w0⟩ := open_int Try.underlying3 (hval 0 3 v0 rfl rfl) h0
  have b0 := Go.bounds_i64 w0
  obtain ⟨b, rfl, rfl, rfl, w1⟩ := open_int Try.underlying3 (hval 1 3 v1 rfl rfl) h1
  have b1 := Go.bounds_i64 w1
  obtain ⟨x, rfl, rfl, rfl, w2⟩ := open_int Try.underlying40 (hval 2 40 v2 rfl rfl) h2
  have b2 := Go.bounds_u32 w2
  obtain ⟨x, rfl⟩ := Int.eq_ofNat_of_zero_le b2.1
  obtain ⟨y, rfl, rfl, rfl, w3⟩ := open_int Try.underlying40 (hval 3 40 v3 rfl rfl) h3
  have b3 := Go.bounds_u32 w3
  obtain ⟨y, rfl⟩ := Int.eq_ofNat_of_zero_le b3.1
  obtain ⟨n, rfl, rfl, rfl, w4⟩ := open_int Try.underlying40 (hval 4 40 v4 rfl rfl) h4
  have b4 := Go.bounds_u32 w4
  obtain ⟨n, rfl⟩ := Int.eq_ofNat_of_zero_le b4.1
  obtain ⟨m, rfl, rfl, rfl, w5⟩ := open_int Try.underlying40 (hval 5 40 v5 rfl rfl) h5
  have b5 := Go.bounds_u32 w5
  obtain ⟨m, rfl⟩ := Int.eq_ofNat_of_zero_le b5.1
  exact joinsLaw_any a b x y n m b0.2 b1.2 (by omega) (by omega) (by omega) (by omega) W

theorem ratioJoins_holds : Rows.RatioJoinsSaid :=
  OpenClaim.holds_of_wide 16 Try.f16 rfl rfl rfl rfl rfl rfl rfl ⟨rfl, rfl, rfl, rfl, rfl⟩ rfl rfl rfl rfl rfl (by kernel_rfl) Try.func16 (by kernel_rfl)
    (of_decide_eq_true (by kernel_rfl)) (by unfold Func.isWrapper; rw [if_neg (of_decide_eq_false (by kernel_rfl))]; exact ⟨rfl, rfl⟩)
    (fun os started H enc _ => ratioJoins_lifted os started H enc)

end Go.Proofs.Ytcaeaepnobbjlaa
