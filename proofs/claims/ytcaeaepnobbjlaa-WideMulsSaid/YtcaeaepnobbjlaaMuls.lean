/- For all numbers a, b, c of 32 bits and x, y of 64 bits the law WideMuls returns true: products are commutative, monotone and distributive. No condition. -/
import Derived.Test.YtcaeaepnobbjlaaR
import Derived.Test.YtcaeaepnobbjlaaO2
namespace Go.Proofs.Ytcaeaepnobbjlaa
set_option linter.unusedVariables false
set_option linter.unusedSimpArgs false
open Go.ChangeShapes Go.WideShapes Go.ChangeAt Go.RowKit

theorem mul_lt (a b : Nat) (ha : a < M) (hb : b < M) : a * b < MM := by
  have h : a * b < M * M := Nat.mul_lt_mul'' ha hb
  rwa [show M * M = MM by decide] at h
theorem muls_any (a b c x y : Nat) (ha : a < 4294967296) (hb : b < 4294967296) (hc : c < 4294967296) (hx : x < M) (hy : y < M) (w : World) :
    Calls Try.prog 6 #[.int .u32 a, .int .u32 b, .int .u32 c, .int .u64 x, .int .u64 y] w fun e w' => e = .returned (.bool true) ∧ Below w.heap.size w w' := by
  have la : a < M := by rw [M_eq]; omega
  have lb : b < M := by rw [M_eq]; omega
  have lc : c < M := by rw [M_eq]; omega
  have ls : a + b < M := by rw [M_eq]; omega
  refine muls_walk a b c x y (a + b) (a * x / M) (a * x % M) (b * x / M) (b * x % M) ((a + b) * x / M) ((a + b) * x % M) (x * y / M) (x * y % M) (c * x / M) (c * x % M) (c * y / M) (c * y % M)
    (decide (MM ≤ a * x + b * x)) (decide (x < y)) (decide (0 < c)) (cmpI (c * x) (c * y))
    (fun w => mul_any a x la hx w) (fun w => mul_any b x lb hx w) (fun w => ?_) (fun w => mul_any (a + b) x ls hx w) (fun w => mul_any x y hx hy w) (fun w => ?_) (fun w => mul_any c x lc hx w)
    (fun w => mul_any c y lc hy w) (fun w => cmp_any _ _ (mul_lt c x lc hx) (mul_lt c y lc hy) w) ?_ ?_ ?_ ?_ rfl rfl ?_ w
  · have h := add_any (a * x) (b * x) (mul_lt a x la hx) (mul_lt b x lb hx) w
    rw [← Nat.add_mul, Nat.mod_eq_of_lt (mul_lt (a + b) x ls hx)] at h
    rw [← Nat.add_mul]
    exact h
  · have h := mul_any y x hy hx w
    rw [Nat.mul_comm y x] at h
    exact h
  · rw [IntKind.wrap_u64]; omega
  · rw [IntKind.wrap_u64]; omega
  · rw [IntKind.wrap_u64]; omega
  · rw [IntKind.wrap_u64]; omega
  · intro h1 h2
    have h1 := of_decide_eq_true h1
    have h2 := of_decide_eq_true h2
    have h3 : c * x < c * y := Nat.mul_lt_mul_of_pos_left h1 h2
    unfold cmpI
    rw [if_pos h3]
    rfl

set_option maxRecDepth 100000 in
theorem wideMuls_lifted (os : Os) (started : os.Started) (H : Type) (enc : TypeId × Value → H) :
    ReturnsInHanded {} Try.checked os 6 .any (Rows.wideMulsSpec.pre6 enc Try.prog Try.f6 Rows.wideMulsRow.domain false) (Rows.wideMulsSpec.post enc Try.prog Try.f6 false true false false) := by
  refine law_lifted (C := Try.checked) (T := 4) Try.own started (by kernel_rfl) Try.func6
    (ChangeSpec.witness6 (enc := enc) (C := Try.checked) false ⟨#[], #[.int .u32 0, .int .u32 0, .int .u32 0, .int .u64 0, .int .u64 0], []⟩ 8 (by kernel_rfl) (by kernel_rfl) (by kernel_rfl) (by kernel_rfl))
    Try.laidOut (of_decide_eq_true (by kernel_rfl)) rfl Try.underlying4 rfl (fun ds h => by match ds, h with | [_, _, _, _, _], _ => rfl) ?_
  intro W base args ds p hval0 hA0 hsz0
  have hval : ∀ (j : Nat) t v, Try.f6.params[j]? = some t → args[j]? = some v → Value.okWide Try.prog W .any base t v := hval0
  have hA : DataW.TrodAll enc Try.prog W 0 (fun _ => true) true Try.f6.params.toList args.toList ds p := hA0
  have hsz : (DataW.weightsEach Try.prog Try.f6.params.toList ds).all (· ≤ reachBytes) = true := hsz0
  rw [Try.params6] at hA hval hsz
  obtain ⟨v0, vs0, d0, ds0, p0, q0, hargs, rfl, rfl, h0, r0⟩ := trodAll_cons hA
  obtain ⟨v1, vs1, d1, ds1, p1, q1, rfl, rfl, rfl, h1, r1⟩ := trodAll_cons r0
  obtain ⟨v2, vs2, d2, ds2, p2, q2, rfl, rfl, rfl, h2, r2⟩ := trodAll_cons r1
  obtain ⟨v3, vs3, d3, ds3, p3, q3, rfl, rfl, rfl, h3, r3⟩ := trodAll_cons r2
  obtain ⟨v4, vs4, d4, ds4, p4, q4, rfl, rfl, rfl, h4, r4⟩ := trodAll_cons r3
  obtain ⟨rfl, rfl, rfl⟩ := trodAll_nil r4
  obtain rfl : args = #[v0, v1, v2, v3, v4] := by cases args; simp_all
  obtain ⟨a, rfl, rfl, rfl, wa⟩ := open_int Try.underlying40 (hval 0 40 v0 rfl rfl) h0
  obtain ⟨b, rfl, rfl, rfl, wb⟩ := open_int Try.underlying40 (hval 1 40 v1 rfl rfl) h1
  obtain ⟨c, rfl, rfl, rfl, wc⟩ := open_int Try.underlying40 (hval 2 40 v2 rfl rfl) h2
  obtain ⟨x, hx, rfl, rfl⟩ := open_u64 (hval 3 22 v3 rfl rfl) h3
  obtain ⟨y, hy, rfl, rfl⟩ := open_u64 (hval 4 22 v4 rfl rfl) h4
  have ha := Go.bounds_u32 wa
  have hb := Go.bounds_u32 wb
  have hc := Go.bounds_u32 wc
  obtain ⟨a, rfl⟩ := Int.eq_ofNat_of_zero_le ha.1
  obtain ⟨b, rfl⟩ := Int.eq_ofNat_of_zero_le hb.1
  obtain ⟨c, rfl⟩ := Int.eq_ofNat_of_zero_le hc.1
  exact muls_any a b c x y (by omega) (by omega) (by omega) hx hy W

theorem wideMuls_holds : Rows.WideMulsSaid :=
  OpenClaim.holds_of_wide 6 Try.f6 rfl rfl rfl rfl rfl rfl rfl ⟨rfl, rfl, rfl, rfl, rfl⟩ rfl rfl rfl rfl rfl (by kernel_rfl) Try.func6 (by kernel_rfl)
    (of_decide_eq_true (by kernel_rfl)) (by unfold Func.isWrapper; rw [if_neg (of_decide_eq_false (by kernel_rfl))]; exact ⟨rfl, rfl⟩)
    (fun os started H enc _ => wideMuls_lifted os started H enc)

end Go.Proofs.Ytcaeaepnobbjlaa
