/- For all integers k, a, b and every number n of 32 bits the law RatioMost returns true: Most weights can be nearly heavy at the same time, and one more cannot. No condition. -/
import Derived.Test.YtcaeaepnobbjlaaYb
import Derived.Test.YtcaeaepnobbjlaaO2
namespace Go.Proofs.Ytcaeaepnobbjlaa
set_option linter.unusedVariables false
set_option linter.unusedSimpArgs false
open Go.ChangeShapes Go.WideShapes Go.ChangeAt Go.RowKit

theorem cmp_le (x y : Nat) : decide (cmpI x y ≤ 0) = decide (x ≤ y) := by
  unfold cmpI
  by_cases h : x < y
  · rw [if_pos h]; simp; omega
  · rw [if_neg h]
    by_cases h2 : y < x
    · rw [if_pos h2]; simp; omega
    · rw [if_neg h2]; simp; omega
theorem cmp_gt (x y : Nat) : decide (0 < cmpI x y) = decide (y < x) := by
  unfold cmpI
  by_cases h : x < y
  · rw [if_pos h]; simp; omega
  · rw [if_neg h]
    by_cases h2 : y < x
    · rw [if_pos h2]; simp; omega
    · rw [if_neg h2]; simp; omega
set_option maxHeartbeats 1000000 in
theorem mostLaw_any (k a b : Int) (n : Nat) (hn : n < 4294967296) (w : World) :
    Calls Try.prog 17 #[.int .i64 k, .int .i64 a, .int .i64 b, .int .u32 n] w fun e w' => e = .returned (.bool true) ∧ Below w.heap.size w w' := by
  have hl : M = 18446744073709551616 := M_eq
  have c1 := fun w => ratright_any k a b w
  have c2 := fun w => most_any k a b w
  by_cases h : RightP k a b
  · rw [show rightB k a b = true from decide_eq_true h] at c1
    rw [show mostI k a b = b * k / (a * k - b) from if_pos h] at c2
    obtain ⟨h1, h2, h3, h4, h5, h6⟩ := h
    obtain ⟨K, rfl⟩ := Int.eq_ofNat_of_zero_le (show 0 ≤ k by omega)
    obtain ⟨A, rfl⟩ := Int.eq_ofNat_of_zero_le (show 0 ≤ a by omega)
    obtain ⟨B, rfl⟩ := Int.eq_ofNat_of_zero_le (show 0 ≤ b by omega)
    have g1 : B * K ≤ 1048576 * 200 := Nat.mul_le_mul (by omega) (by omega)
    have g2 : A * K ≤ 1048576 * 200 := Nat.mul_le_mul (by omega) (by omega)
    have g3 : B < A * K := by rw [← Int.natCast_mul] at h6; rw [Nat.mul_comm]; omega
    have g4 : A * K ≤ B * K := Nat.mul_le_mul_right _ (by omega)
    have e : (B : Int) * K / (A * K - B) = ((B * K / (A * K - B) : Nat) : Int) := by
      rw [Int.natCast_ediv, Int.ofNat_sub (by omega), Int.natCast_mul, Int.natCast_mul]
    rw [e] at c2
    have q1 : ((A : Int) * K) = ((A * K : Nat) : Int) := by rw [Int.natCast_mul]
    have q2 : ((B : Int) * K) = ((B * K : Nat) : Int) := by rw [Int.natCast_mul]
    obtain ⟨q, hq⟩ : ∃ q, A * K = q := ⟨_, rfl⟩
    obtain ⟨bk, hbk⟩ : ∃ q, B * K = q := ⟨_, rfl⟩
    rw [hq] at g2 g3 g4 q1 c2
    rw [hbk] at g1 g4 q2 c2
    obtain ⟨d, hd⟩ : ∃ d, q - B = d := ⟨_, rfl⟩
    rw [hd] at c2
    have hdm := Nat.mul_div_le bk d
    have hm1 : 1 ≤ bk / d := by rw [Nat.le_div_iff_mul_le (by omega)]; omega
    have hlt : bk < d * (bk / d) + d := by have := Nat.div_add_mod bk d; have := Nat.mod_lt bk (show 0 < d by omega); omega
    have hmle := Nat.div_le_self bk d
    obtain ⟨m, hm⟩ : ∃ m, bk / d = m := ⟨_, rfl⟩
    rw [hm] at c2 hdm hm1 hlt hmle
    have hsucc : d * (m + 1) = d * m + d := by rw [Nat.mul_add, Nat.mul_one]
    have s1 : ((d : Int) * m) = ((d * m : Nat) : Int) := by rw [Int.natCast_mul]
    have s2 : ((d : Int) * ((m + 1 : Nat) : Int)) = ((d * m + d : Nat) : Int) := by rw [← Int.natCast_mul, hsucc]
    obtain ⟨dm, hdmv⟩ : ∃ x, d * m = x := ⟨_, rfl⟩
    rw [hdmv] at hdm hlt s1 s2
    refine most_law_walk K A B n m (m + 1) q d bk dm (dm + d) (bk * n / M) (bk * n % M) (dm * n / M) (dm * n % M) ((dm + d) * n / M) ((dm + d) * n % M) (cmpI (dm * n) (bk * n)) (cmpI ((dm + d) * n) (bk * n)) (decide (0 < n)) c1 c2
      (fun w => mul_any bk n (by omega) (by omega) w) (fun w => mul_any dm n (by omega) (by omega) w) (fun w => cmp_any _ _ (mul_lt _ _ (by omega) (by omega)) (mul_lt _ _ (by omega) (by omega)) w)
      (fun w => mul_any (dm + d) n (by omega) (by omega) w) (fun w => cmp_any _ _ (mul_lt _ _ (by omega) (by omega)) (mul_lt _ _ (by omega) (by omega)) w) ?_ ?_ ?_ ?_ ?_ ?_ ?_ ?_ ?_ ?_ ?_ ?_ ?_ ?_ rfl hm1 w
    · rw [q1]; exact i64_nat _ (by omega)
    · rw [← Int.ofNat_sub (by omega), hd]; exact i64_nat _ (by omega)
    · exact wrapq _ (by omega)
    · exact wrapq _ (by omega)
    · exact wrapq _ (by omega)
    · rw [q2]; exact wrapq _ (by omega)
    · exact wrapq _ (by omega)
    · exact wrapq _ (by omega)
    · rw [s1]; exact wrapq _ (by omega)
    · rw [IntWalk.i64_in _ (by omega)]; omega
    · exact wrapq _ (by omega)
    · rw [s2]; exact wrapq _ (by omega)
    · rw [cmp_le]; exact decide_eq_true (Nat.mul_le_mul_right n hdm)
    · rw [cmp_gt]
      refine decide_eq_decide.2 ⟨fun hx => ?_, fun hx => Nat.mul_lt_mul_of_pos_right hlt hx⟩
      refine Nat.pos_of_ne_zero fun h0 => ?_
      subst h0
      omega
  · rw [show rightB k a b = false from decide_eq_false h] at c1
    rw [show mostI k a b = 0 from if_neg h] at c2
    exact most_law_zero k a b n c1 c2 w

set_option maxRecDepth 100000 in
theorem ratioMost_lifted (os : Os) (started : os.Started) (H : Type) (enc : TypeId × Value → H) :
    ReturnsInHanded {} Try.checked os 17 .any (Rows.ratioMostSpec.pre6 enc Try.prog Try.f17 Rows.ratioMostRow.domain false) (Rows.ratioMostSpec.post enc Try.prog Try.f17 false true false false) := by
  refine law_lifted (C := Try.checked) (T := 4) Try.own started (by kernel_rfl) Try.func17
    (ChangeSpec.witness6 (enc := enc) (C := Try.checked) false ⟨#[], #[.int .i64 0, .int .i64 0, .int .i64 0, .int .u32 0], []⟩ 8 (by kernel_rfl) (by kernel_rfl) (by kernel_rfl) (by kernel_rfl))
    Try.laidOut (of_decide_eq_true (by kernel_rfl)) rfl Try.underlying4 rfl (fun ds h => by match ds, h with | [_, _, _, _], _ => rfl) ?_
  intro W base args ds p hval0 hA0 hsz0
  have hval : ∀ (j : Nat) t v, Try.f17.params[j]? = some t → args[j]? = some v → Value.okWide Try.prog W .any base t v := hval0
  have hA : DataW.TrodAll enc Try.prog W 0 (fun _ => true) true Try.f17.params.toList args.toList ds p := hA0
  have hsz : (DataW.weightsEach Try.prog Try.f17.params.toList ds).all (· ≤ reachBytes) = true := hsz0
  rw [Try.params17] at hA hval hsz
  obtain ⟨v0, vs0, d0, ds0, p0, q0, hargs, rfl, rfl, h0, r0⟩ := trodAll_cons hA
  obtain ⟨v1, vs1, d1, ds1, p1, q1, rfl, rfl, rfl, h1, r1⟩ := trodAll_cons r0
  obtain ⟨v2, vs2, d2, ds2, p2, q2, rfl, rfl, rfl, h2, r2⟩ := trodAll_cons r1
  obtain ⟨v3, vs3, d3, ds3, p3, q3, rfl, rfl, rfl, h3, r3⟩ := trodAll_cons r2
  obtain ⟨rfl, rfl, rfl⟩ := trodAll_nil r3
  obtain rfl : args = #[v0, v1, v2, v3] := by cases args; simp_all
  obtain ⟨k, rfl, rfl, rfl, w0⟩ := open_int Try.underlying3 (hval 0 3 v0 rfl rfl) h0
  have b0 := Go.bounds_i64 w0
  obtain ⟨a, rfl, rfl, rfl, w1⟩ := open_int Try.underlying3 (hval 1 3 v1 rfl rfl) h1
  have b1 := Go.bounds_i64 w1
  obtain ⟨b, rfl, rfl, rfl, w2⟩ := open_int Try.underlying3 (hval 2 3 v2 rfl rfl) h2
  have b2 := Go.bounds_i64 w2
  obtain ⟨n, rfl, rfl, rfl, w3⟩ := open_int Try.underlying40 (hval 3 40 v3 rfl rfl) h3
  have b3 := Go.bounds_u32 w3
  obtain ⟨n, rfl⟩ := Int.eq_ofNat_of_zero_le b3.1
  exact mostLaw_any k a b n (by omega) W

theorem ratioMost_holds : Rows.RatioMostSaid :=
  OpenClaim.holds_of_wide 17 Try.f17 rfl rfl rfl rfl rfl rfl rfl ⟨rfl, rfl, rfl, rfl, rfl⟩ rfl rfl rfl rfl rfl (by kernel_rfl) Try.func17 (by kernel_rfl)
    (of_decide_eq_true (by kernel_rfl)) (by unfold Func.isWrapper; rw [if_neg (of_decide_eq_false (by kernel_rfl))]; exact ⟨rfl, rfl⟩)
    (fun os started H enc _ => ratioMost_lifted os started H enc)

end Go.Proofs.Ytcaeaepnobbjlaa
