/- For all numbers a and b of 128 bits and every integer n the law WideTops returns true: Top of as many bits as both have in common is equal, of one more it is not; shifting there and back keeps the bits that were not shifted out. No condition. -/
import Derived.Test.YtcaeaepnobbjlaaT
import Derived.Test.YtcaeaepnobbjlaaO2
namespace Go.Proofs.Ytcaeaepnobbjlaa
set_option linter.unusedVariables false
set_option linter.unusedSimpArgs false
open Go.ChangeShapes Go.WideShapes Go.ChangeAt Go.RowKit

theorem top_eq (a b k : Nat) (ha : a < MM) (hb : b < MM) (hk : k ≤ 128) (hj : ∀ j, j < k → bitOf a j = bitOf b j) : a &&& maskN k = b &&& maskN k := by
  rw [and_mask a _ ha hk, and_mask b _ hb hk, ← numOf_top a _ ha hk, ← numOf_top b _ hb hk, numOf_congr k hj]
theorem same_or (a b : Nat) (ha : a < MM) (hb : b < MM) :
    (a = b ∧ sameR (bitOf a) (bitOf b) 128 = 128) ∨ ∃ p, p < 128 ∧ sameR (bitOf a) (bitOf b) 128 = p ∧ (∀ j, j < p → bitOf a j = bitOf b j) ∧ bitOf a p ≠ bitOf b p := by
  by_cases h : ∀ j, j < 128 → bitOf a j = bitOf b j
  · refine Or.inl ⟨?_, same_end _ _ h⟩
    have h1 := numOf_top a 128 ha (by omega)
    have h2 := numOf_top b 128 hb (by omega)
    rw [numOf_congr 128 h, h2] at h1
    simpa using h1.symm
  · have h' : ∃ p, p < 128 ∧ bitOf a p ≠ bitOf b p := by
      by_cases c : ∃ p, p < 128 ∧ bitOf a p ≠ bitOf b p
      · exact c
      · exact absurd (fun j hj => Decidable.byContradiction fun e => c ⟨j, hj, e⟩) h
    obtain ⟨p, hp, hl, hn⟩ : ∃ p, p < 128 ∧ (∀ j, j < p → bitOf a j = bitOf b j) ∧ bitOf a p ≠ bitOf b p := by
      obtain ⟨p, hp, hn⟩ := h'
      induction p using Nat.strongRecOn with
      | ind p ih =>
        by_cases c : ∃ j, j < p ∧ bitOf a j ≠ bitOf b j
        · obtain ⟨j, hj, e⟩ := c
          exact ih j hj (by omega) e
        · exact ⟨p, hp, fun j hj => Decidable.byContradiction fun e => c ⟨j, hj, e⟩, hn⟩
    exact Or.inr ⟨p, hp, same_stop _ _ p hp hl hn, hl, hn⟩
theorem beq_halves (a b : Nat) (h : a ≠ b) : (((a / M : Nat) : Int) == ((b / M : Nat) : Int)) = false ∨ ((((a / M : Nat) : Int) == ((b / M : Nat) : Int)) = true ∧ (((a % M : Nat) : Int) == ((b % M : Nat) : Int)) = false) := by
  by_cases e : a / M = b / M
  · refine Or.inr ⟨by rw [e]; simp, ?_⟩
    have : a % M ≠ b % M := fun e2 => h (by rw [← Nat.div_add_mod a M, ← Nat.div_add_mod b M, e, e2])
    simp only [beq_eq_false_iff_ne, ne_eq]
    omega
  · refine Or.inl ?_
    simp only [beq_eq_false_iff_ne, ne_eq]
    omega
theorem back_forth (a N e : Nat) (ha : a < MM) (he : N + e = 128) :
    a / 2 ^ e * 2 ^ e % MM = a &&& maskN N ∧ (a &&& maskN N) ||| (a * 2 ^ N % MM / 2 ^ N) = a := by
  have hm := and_mask a N ha (by omega)
  rw [show 128 - N = e by omega] at hm
  have hp : MM = 2 ^ e * 2 ^ N := by rw [← Nat.pow_add, Nat.add_comm e N, he, MM_pow]
  have hle : 2 ^ e * (a / 2 ^ e) ≤ a := Nat.mul_div_le a _
  have hz : a * 2 ^ N % MM / 2 ^ N = a % 2 ^ e := by
    rw [hp, Nat.mul_mod_mul_right, Nat.mul_div_cancel _ (Nat.two_pow_pos _)]
  refine ⟨by rw [hm, Nat.mul_comm, Nat.mod_eq_of_lt (by omega)], ?_⟩
  rw [hm, hz, ← Nat.two_pow_add_eq_or_of_lt (Nat.mod_lt _ (Nat.two_pow_pos _)), Nat.div_add_mod]

set_option maxHeartbeats 1000000 in
theorem tops_any (a b : Nat) (ha : a < MM) (hb : b < MM) (n : Int) (hn0 : -9223372036854775808 ≤ n) (hn1 : n ≤ 9223372036854775807) (w : World) :
    Calls Try.prog 8 #[W a, W b, .int .i64 n] w fun e w' => e = .returned (.bool true) ∧ Below w.heap.size w w' := by
  have hM : 0 < MM := by decide
  obtain ⟨k, hk⟩ : ∃ k, sameR (bitOf a) (bitOf b) 128 = k := ⟨_, rfl⟩
  have hor := same_or a b ha hb
  rw [hk] at hor
  have hk128 : k ≤ 128 := by rcases hor with ⟨_, h⟩ | ⟨p, hp, h, _⟩ <;> omega
  have hsame : a &&& maskN (min k 128) = b &&& maskN (min k 128) := by
    rcases hor with ⟨h, _⟩ | ⟨p, hp, rfl, hl, _⟩
    · rw [h]
    · exact top_eq a b _ ha hb (by omega) (fun j hj => hl j (by omega))
  have c1 := fun w => same_any a b ha hb w
  rw [hk] at c1
  have tp : ∀ (x : Nat), x < MM → ∀ (j : Nat) w, Calls Try.prog 39 #[W x, .int .i64 (j : Int)] w fun e w' => e = .returned (W (x &&& maskN (min j 128))) ∧ Below w.heap.size w w' := fun x hx j w => by
    have h := top_any x hx (j : Int) w
    rwa [Int.toNat_natCast] at h
  refine tops_walk (a / M) (a % M) (b / M) (b % M) k ((a &&& maskN (min k 128)) / M) ((a &&& maskN (min k 128)) % M) ((a &&& maskN (min (k + 1) 128)) / M) ((a &&& maskN (min (k + 1) 128)) % M)
    ((b &&& maskN (min (k + 1) 128)) / M) ((b &&& maskN (min (k + 1) 128)) % M) (k + 1) (a / 2 ^ (128 - n).toNat / M) (a / 2 ^ (128 - n).toNat % M) ((a &&& maskN (min n.toNat 128)) / M) ((a &&& maskN (min n.toNat 128)) % M)
    (a * 2 ^ n.toNat % MM / M) (a * 2 ^ n.toNat % MM % M) (a * 2 ^ n.toNat % MM / 2 ^ n.toNat / M) (a * 2 ^ n.toNat % MM / 2 ^ n.toNat % M) n (128 - n) _ _ _ _ _ _ _
    c1 (tp a ha k) (fun w => ?_) (tp a ha (k + 1)) (tp b hb (k + 1)) rfl rfl rfl rfl rfl ?_ ?_ rfl rfl (fun h1 h2 => ?_) w
  · have h := tp b hb k w
    rw [← hsame] at h
    exact h
  · rw [IntWalk.i64_in _ (by omega)]; omega
  · rcases hor with ⟨h, hk⟩ | ⟨p, hp, rfl, hl, hd⟩
    · refine Or.inl ⟨decide_eq_false (by omega), ?_, ?_⟩ <;> subst h <;> simp
    · refine Or.inr ⟨decide_eq_true (by omega), beq_halves _ _ (fun e => hd (by rw [e])), beq_halves _ _ ?_⟩
      rw [show min (k + 1) 128 = k + 1 by omega]
      exact top_diff a b k ha hb hp hl hd
  · have h1 := of_decide_eq_false h1
    have h2 := of_decide_eq_false h2
    obtain ⟨N, rfl⟩ := Int.eq_ofNat_of_zero_le (show 0 ≤ n by omega)
    have hN : N ≤ 128 := by omega
    have hm : (128 - (N : Int)).toNat = 128 - N := by omega
    have hr := back_forth a N (128 - N) ha (by omega)
    have hla : a / 2 ^ (128 - N) < MM := Nat.lt_of_le_of_lt (Nat.div_le_self _ _) ha
    rw [Int.toNat_natCast, hm, show min N 128 = N by omega]
    refine ⟨?_, fun w => ?_, fun w => ?_, fun w => ?_, fun w => ?_, fun w => ?_, fun w => ?_⟩
    · exact IntWalk.i64_in _ (by omega)
    · have h := right_any a ha (128 - (N : Int)) w
      rw [hm] at h; exact h
    · have h := left_any (a / 2 ^ (128 - N)) hla (128 - (N : Int)) w
      rw [hm, hr.1] at h; exact h
    · have h := tp a ha N w
      rw [show min N 128 = N by omega] at h; exact h
    · have h := left_any a ha (N : Int) w
      rw [Int.toNat_natCast] at h; exact h
    · have h := right_any (a * 2 ^ N % MM) (Nat.mod_lt _ hM) (N : Int) w
      rw [Int.toNat_natCast] at h; exact h
    · have h := or_any_w (a &&& maskN N) (a * 2 ^ N % MM / 2 ^ N) (Nat.lt_of_le_of_lt Nat.and_le_left ha) (Nat.lt_of_le_of_lt (Nat.div_le_self _ _) (Nat.mod_lt _ hM)) w
      rw [hr.2] at h; exact h

set_option maxRecDepth 100000 in
theorem wideTops_lifted (os : Os) (started : os.Started) (H : Type) (enc : TypeId × Value → H) :
    ReturnsInHanded {} Try.checked os 8 .any (Rows.wideTopsSpec.pre6 enc Try.prog Try.f8 Rows.wideTopsRow.domain false) (Rows.wideTopsSpec.post enc Try.prog Try.f8 false true false false) := by
  refine law_lifted (C := Try.checked) (T := 4) Try.own started (by kernel_rfl) Try.func8
    (ChangeSpec.witness6 (enc := enc) (C := Try.checked) false ⟨#[], #[.agg #[.int .u64 0, .int .u64 0], .agg #[.int .u64 0, .int .u64 0], .int .i64 0], []⟩ 8 (by kernel_rfl) (by kernel_rfl) (by kernel_rfl) (by kernel_rfl))
    Try.laidOut (of_decide_eq_true (by kernel_rfl)) rfl Try.underlying4 rfl (fun ds h => by match ds, h with | [_, _, _], _ => rfl) ?_
  intro W base args ds p hval0 hA0 hsz0
  have hval : ∀ (j : Nat) t v, Try.f8.params[j]? = some t → args[j]? = some v → Value.okWide Try.prog W .any base t v := hval0
  have hA : DataW.TrodAll enc Try.prog W 0 (fun _ => true) true Try.f8.params.toList args.toList ds p := hA0
  have hsz : (DataW.weightsEach Try.prog Try.f8.params.toList ds).all (· ≤ reachBytes) = true := hsz0
  rw [Try.params8] at hA hval hsz
  obtain ⟨v0, vs0, d0, ds0, p0, q0, hargs, rfl, rfl, h0, r0⟩ := trodAll_cons hA
  obtain ⟨v1, vs1, d1, ds1, p1, q1, rfl, rfl, rfl, h1, r1⟩ := trodAll_cons r0
  obtain ⟨v2, vs2, d2, ds2, p2, q2, rfl, rfl, rfl, h2, r2⟩ := trodAll_cons r1
  obtain ⟨rfl, rfl, rfl⟩ := trodAll_nil r2
  obtain rfl : args = #[v0, v1, v2] := by cases args; simp_all
  obtain ⟨a, ha, rfl, rfl⟩ := open_wide (hval 0 24 v0 rfl rfl) h0
  obtain ⟨b, hb, rfl, rfl⟩ := open_wide (hval 1 24 v1 rfl rfl) h1
  obtain ⟨n, rfl, rfl, rfl, wn⟩ := open_int Try.underlying3 (hval 2 3 v2 rfl rfl) h2
  exact tops_any a b ha hb n (Go.bounds_i64 wn).1 (Go.bounds_i64 wn).2 W

theorem wideTops_holds : Rows.WideTopsSaid :=
  OpenClaim.holds_of_wide 8 Try.f8 rfl rfl rfl rfl rfl rfl rfl ⟨rfl, rfl, rfl, rfl, rfl⟩ rfl rfl rfl rfl rfl (by kernel_rfl) Try.func8 (by kernel_rfl)
    (of_decide_eq_true (by kernel_rfl)) (by unfold Func.isWrapper; rw [if_neg (of_decide_eq_false (by kernel_rfl))]; exact ⟨rfl, rfl⟩)
    (fun os started H enc _ => wideTops_lifted os started H enc)

end Go.Proofs.Ytcaeaepnobbjlaa
