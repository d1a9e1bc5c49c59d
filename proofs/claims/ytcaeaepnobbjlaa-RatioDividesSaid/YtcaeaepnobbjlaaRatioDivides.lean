/- For every number x of 128 bits and every number d of 64 bits the law RatioDivides returns true: quotient times divisor plus remainder is the dividend, and the remainder is less than the divisor; dividing by 0 gives 0 and 0. No condition. -/
import Derived.Test.YtcaeaepnobbjlaaYc
import Derived.Test.YtcaeaepnobbjlaaO2
namespace Go.Proofs.Ytcaeaepnobbjlaa
set_option linter.unusedVariables false
set_option linter.unusedSimpArgs false
open Go.ChangeShapes Go.WideShapes Go.ChangeAt Go.RowKit

theorem W_hi (a : Nat) (ha : 0 < M) : W (a * M) = .agg #[.int .u64 (a : Int), .int .u64 0] := by
  have h := wv_W a 0 ha
  rw [Nat.add_zero] at h
  exact h.symm
theorem W_lo (a : Nat) (ha : a < M) : W a = .agg #[.int .u64 0, .int .u64 (a : Int)] := W_lit a 0 a (Nat.div_eq_of_lt ha) (Nat.mod_eq_of_lt ha)
theorem dividesLaw_any (n d : Nat) (hn : n < MM) (hd : d < M) (w : World) :
    Calls Try.prog 13 #[W n, .int .u64 d] w fun e w' => e = .returned (.bool true) ∧ Below w.heap.size w w' := by
  have c1 := fun w => div_any n d hn hd w
  have hM : 0 < M := by rw [M_eq]; omega
  have hMM : M * M = MM := MM_MM
  by_cases h : d = 0
  · subst h
    rw [if_pos rfl, if_pos rfl] at c1
    exact divides_zero (n / M) (n % M) 0 0 0 rfl rfl rfl c1 w
  · rw [if_neg h, if_neg h] at c1
    have hq := Nat.div_mul_le_self n d
    have e1 := Nat.div_add_mod' n d
    have hr : n % d < d := Nat.mod_lt _ (by omega)
    have e2 := Nat.div_add_mod' (n / d) M
    have hql : n / d % M < M := Nat.mod_lt _ hM
    have hqM : n / d / M < M := by rw [Nat.div_lt_iff_lt_mul hM, hMM]; exact Nat.lt_of_le_of_lt (Nat.div_le_self _ _) hn
    generalize n / d = q at *
    generalize n % d = r at *
    generalize hqh : q / M = a at *
    generalize hqll : q % M = b at *
    have hs : a * d * M + b * d = q * d := by rw [← e2, Nat.add_mul, Nat.mul_right_comm]
    have had : a * d < M := by
      refine Nat.lt_of_mul_lt_mul_right (a := M) ?_
      omega
    have hbd : b * d < MM := by rw [← hMM]; exact Nat.mul_lt_mul'' hql hd
    have hadM : a * d * M < MM := by omega
    have c2 := fun w => refmul_any a d hqM hd w
    rw [W_lo _ had] at c2
    have c4 := fun w => refadd_any (a * d * M) (b * d) hadM hbd w
    rw [W_hi _ hM, hs, Nat.mod_eq_of_lt (show q * d < MM by omega), decide_eq_false (show ¬ MM ≤ q * d by omega)] at c4
    have hrM : r < M := by omega
    have c5 := fun w => refadd_any (q * d) r (by omega) (by have : M ≤ MM := by decide
                                                            omega) w
    rw [W_lo r hrM, e1, Nat.mod_eq_of_lt hn, decide_eq_false (show ¬ MM ≤ n by omega)] at c5
    have c1' : ∀ w, Calls Try.prog 65 #[wv (n / M) (n % M), .int .u64 d] w fun e w' => e = .returned (.tuple #[wv a b, .int .u64 r]) ∧ Below w.heap.size w w' := by
      intro w
      have h := c1 w
      rw [show W q = wv a b by rw [W, hqh, hqll]] at h
      exact h
    exact divides_walk (n / M) (n % M) d a b r (a * d) (b * d / M) (b * d % M) (q * d / M) (q * d % M) (by omega) hr c1' c2 (fun w => refmul_any b d hql hd w) c4 c5 (fun w => as_any n w) w


set_option maxRecDepth 100000 in
theorem ratioDivides_lifted (os : Os) (started : os.Started) (H : Type) (enc : TypeId × Value → H) :
    ReturnsInHanded {} Try.checked os 13 .any (Rows.ratioDividesSpec.pre6 enc Try.prog Try.f13 Rows.ratioDividesRow.domain false) (Rows.ratioDividesSpec.post enc Try.prog Try.f13 false true false false) := by
  refine law_lifted (C := Try.checked) (T := 4) Try.own started (by kernel_rfl) Try.func13
    (ChangeSpec.witness6 (enc := enc) (C := Try.checked) false ⟨#[], #[.agg #[.int .u64 0, .int .u64 0], .int .u64 0], []⟩ 8 (by kernel_rfl) (by kernel_rfl) (by kernel_rfl) (by kernel_rfl))
    Try.laidOut (of_decide_eq_true (by kernel_rfl)) rfl Try.underlying4 rfl (fun ds h => by match ds, h with | [_, _], _ => rfl) ?_
  intro W base args ds p hval0 hA0 hsz0
  have hval : ∀ (j : Nat) t v, Try.f13.params[j]? = some t → args[j]? = some v → Value.okWide Try.prog W .any base t v := hval0
  have hA : DataW.TrodAll enc Try.prog W 0 (fun _ => true) true Try.f13.params.toList args.toList ds p := hA0
  have hsz : (DataW.weightsEach Try.prog Try.f13.params.toList ds).all (· ≤ reachBytes) = true := hsz0
  rw [Try.params13] at hA hval hsz
  obtain ⟨v0, vs0, d0, ds0, p0, q0, hargs, rfl, rfl, h0, r0⟩ := trodAll_cons hA
  obtain ⟨v1, vs1, d1, ds1, p1, q1, rfl, rfl, rfl, h1, r1⟩ := trodAll_cons r0
  obtain ⟨rfl, rfl, rfl⟩ := trodAll_nil r1
  obtain rfl : args = #[v0, v1] := by cases args; simp_all
  obtain ⟨n, hn0, rfl, rfl⟩ := open_wide (hval 0 24 v0 rfl rfl) h0
  obtain ⟨d, hn1, rfl, rfl⟩ := open_u64 (hval 1 22 v1 rfl rfl) h1
  exact dividesLaw_any n d hn0 hn1 W

theorem ratioDivides_holds : Rows.RatioDividesSaid :=
  OpenClaim.holds_of_wide 13 Try.f13 rfl rfl rfl rfl rfl rfl rfl ⟨rfl, rfl, rfl, rfl, rfl⟩ rfl rfl rfl rfl rfl (by kernel_rfl) Try.func13 (by kernel_rfl)
    (of_decide_eq_true (by kernel_rfl)) (by unfold Func.isWrapper; rw [if_neg (of_decide_eq_false (by kernel_rfl))]; exact ⟨rfl, rfl⟩)
    (fun os started H enc _ => ratioDivides_lifted os started H enc)

end Go.Proofs.Ytcaeaepnobbjlaa
