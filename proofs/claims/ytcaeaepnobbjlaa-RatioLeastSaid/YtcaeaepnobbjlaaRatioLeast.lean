/- For all integers k, a, b and all numbers x, n of 64 bits the law RatioLeast returns true: a weight is heavy exactly if it is at least Least; a share of a valid measure is heavy only in a total of 0. No condition. -/
import Derived.Test.YtcaeaepnobbjlaaYa
import Derived.Test.YtcaeaepnobbjlaaO2
namespace Go.Proofs.Ytcaeaepnobbjlaa
set_option linter.unusedVariables false
set_option linter.unusedSimpArgs false
open Go.ChangeShapes Go.WideShapes Go.ChangeAt Go.RowKit

theorem share_heavy (k a b : Int) (n : Nat) (hr : RightP k a b) : heavyB a b (shareN k n) n = decide (n = 0) := by
  obtain ⟨h1, h2, h3, h4, h5, h6⟩ := hr
  obtain ⟨K, rfl⟩ := Int.eq_ofNat_of_zero_le (show 0 ≤ k by omega)
  obtain ⟨A, rfl⟩ := Int.eq_ofNat_of_zero_le (show 0 ≤ a by omega)
  obtain ⟨B, rfl⟩ := Int.eq_ofNat_of_zero_le (show 0 ≤ b by omega)
  rw [heavyB, shareN, if_neg (by omega), decide_eq_true (show (1 : Int) ≤ A by omega), decide_eq_true (show (1 : Int) ≤ B by omega), Int.toNat_natCast, Int.toNat_natCast, Int.toNat_natCast]
  simp only [Bool.true_and]
  refine decide_eq_decide.2 ⟨fun h => ?_, fun h => by subst h; simp⟩
  have g6 : B < K * A := by rw [← Int.natCast_mul] at h6; omega
  refine Decidable.byContradiction fun hn => ?_
  have e1 : A * n * K ≤ B * n := by
    refine Nat.le_trans (Nat.mul_le_mul_right K h) ?_
    rw [Nat.mul_assoc]
    exact Nat.mul_le_mul_left B (Nat.div_mul_le_self n K)
  have e2 : B * n < A * n * K := by
    rw [Nat.mul_right_comm, Nat.mul_comm A K]
    exact Nat.mul_lt_mul_of_pos_right g6 (by omega)
  omega
theorem leastLaw_any (k a b : Int) (x n : Nat) (hk : k ≤ 9223372036854775807) (ha : a ≤ 9223372036854775807) (hb : b ≤ 9223372036854775807) (hx : x < M) (hn : n < M) (w : World) :
    Calls Try.prog 15 #[.int .i64 k, .int .i64 a, .int .i64 b, .int .u64 x, .int .u64 n] w fun e w' => e = .returned (.bool true) ∧ Below w.heap.size w w' := by
  have hs : shareN k n < M := by
    unfold shareN
    split
    · rw [M_eq]; omega
    · exact Nat.lt_of_le_of_lt (Nat.div_le_self _ _) hn
  refine least_law_walk k a b (mostI k a b) x n (shareN k n) (leastN a b n) _ _ (rightB k a b) (heavyB a b x n) (heavyB a b (shareN k n) n)
    (fun w => heavy_any a b ha hb x n hx hn w) (fun w => least_any a b ha hb n hn w) (fun w => ratright_any k a b w) (fun w => most_any k a b w) (fun w => share_any k hk n hn w)
    (fun w => heavy_any a b ha hb _ n hs hn w) rfl rfl (fun p1 p2 => ?_) (fun h => ?_) (fun h => ?_) w
  · have p1 := of_decide_eq_true p1
    have p2 := of_decide_eq_true p2
    obtain ⟨A, rfl⟩ := Int.eq_ofNat_of_zero_le (show 0 ≤ a by omega)
    obtain ⟨B, rfl⟩ := Int.eq_ofNat_of_zero_le (show 0 ≤ b by omega)
    rw [heavyB, leastN, if_neg (by omega), decide_eq_true p1, decide_eq_true (show (1 : Int) ≤ B by omega), Int.toNat_natCast, Int.toNat_natCast]
    simp only [Bool.true_and]
    exact decide_eq_decide.2 (ceil_iff A B n x (by omega)).symm
  · exact if_neg (of_decide_eq_false h)
  · rw [share_heavy k a b n (of_decide_eq_true h)]
    by_cases h0 : n = 0
    · subst h0; rfl
    · rw [decide_eq_false h0]; simp; omega

set_option maxRecDepth 100000 in
theorem ratioLeast_lifted (os : Os) (started : os.Started) (H : Type) (enc : TypeId × Value → H) :
    ReturnsInHanded {} Try.checked os 15 .any (Rows.ratioLeastSpec.pre6 enc Try.prog Try.f15 Rows.ratioLeastRow.domain false) (Rows.ratioLeastSpec.post enc Try.prog Try.f15 false true false false) := by
  refine law_lifted (C := Try.checked) (T := 4) Try.own started (by kernel_rfl) Try.func15
    (ChangeSpec.witness6 (enc := enc) (C := Try.checked) false ⟨#[], #[.int .i64 0, .int .i64 0, .int .i64 0, .int .u64 0, .int .u64 0], []⟩ 8 (by kernel_rfl) (by kernel_rfl) (by kernel_rfl) (by kernel_rfl))
    Try.laidOut (of_decide_eq_true (by kernel_rfl)) rfl Try.underlying4 rfl (fun ds h => by match ds, h with | [_, _, _, _, _], _ => rfl) ?_
  intro W base args ds p hval0 hA0 hsz0
  have hval : ∀ (j : Nat) t v, Try.f15.params[j]? = some t → args[j]? = some v → Value.okWide Try.prog W .any base t v := hval0
  have hA : DataW.TrodAll enc Try.prog W 0 (fun _ => true) true Try.f15.params.toList args.toList ds p := hA0
  have hsz : (DataW.weightsEach Try.prog Try.f15.params.toList ds).all (· ≤ reachBytes) = true := hsz0
  rw [Try.params15] at hA hval hsz
  obtain ⟨v0, vs0, d0, ds0, p0, q0, hargs, rfl, rfl, h0, r0⟩ := trodAll_cons hA
  obtain ⟨v1, vs1, d1, ds1, p1, q1, rfl, rfl, rfl, h1, r1⟩ := trodAll_cons r0
  obtain ⟨v2, vs2, d2, ds2, p2, q2, rfl, rfl, rfl, h2, r2⟩ := trodAll_cons r1
  obtain ⟨v3, vs3, d3, ds3, p3, q3, rfl, rfl, rfl, h3, r3⟩ := trodAll_cons r2
  obtain ⟨v4, vs4, d4, ds4, p4, q4, rfl, rfl, rfl, h4, r4⟩ := trodAll_cons r3
  obtain ⟨rfl, rfl, rfl⟩ := trodAll_nil r4
  obtain rfl : args = #[v0, v1, v2, v3, v4] := by cases args; simp_all
  obtain ⟨k, rfl, rfl, rfl, w0⟩ := open_int Try.underlying3 (hval 0 3 v0 rfl rfl) h0
  have b0 := Go.bounds_i64 w0
  obtain ⟨a, rfl, rfl, rfl, w1⟩ := open_int Try.underlying3 (hval 1 3 v1 rfl rfl) h1
  have b1 := Go.bounds_i64 w1
  obtain ⟨b, rfl, rfl, rfl, w2⟩ := open_int Try.underlying3 (hval 2 3 v2 rfl rfl) h2
  have b2 := Go.bounds_i64 w2
  obtain ⟨x, hn3, rfl, rfl⟩ := open_u64 (hval 3 22 v3 rfl rfl) h3
  obtain ⟨n, hn4, rfl, rfl⟩ := open_u64 (hval 4 22 v4 rfl rfl) h4
  exact leastLaw_any k a b x n b0.2 b1.2 b2.2 hn3 hn4 W

theorem ratioLeast_holds : Rows.RatioLeastSaid :=
  OpenClaim.holds_of_wide 15 Try.f15 rfl rfl rfl rfl rfl rfl rfl ⟨rfl, rfl, rfl, rfl, rfl⟩ rfl rfl rfl rfl rfl (by kernel_rfl) Try.func15 (by kernel_rfl)
    (of_decide_eq_true (by kernel_rfl)) (by unfold Func.isWrapper; rw [if_neg (of_decide_eq_false (by kernel_rfl))]; exact ⟨rfl, rfl⟩)
    (fun os started H enc _ => ratioLeast_lifted os started H enc)

end Go.Proofs.Ytcaeaepnobbjlaa
