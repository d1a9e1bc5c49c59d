/- For every number n of 64 bits and all numbers p, q, m of 32 bits the law RatioClips returns true: Clip is at most the number, is monotone in both arguments, and is the number if both arguments are equal. No condition. -/
import Derived.Test.YtcaeaepnobbjlaaYb
import Derived.Test.YtcaeaepnobbjlaaO2
namespace Go.Proofs.Ytcaeaepnobbjlaa
set_option linter.unusedVariables false
set_option linter.unusedSimpArgs false
open Go.ChangeShapes Go.WideShapes Go.ChangeAt Go.RowKit

theorem clip_le (n p m : Nat) : clipN n p m ≤ n := by
  unfold clipN; split
  · omega
  · split <;> omega
theorem clip_up (n p q m : Nat) : clipN n p m ≤ clipN n (p + q) m := by
  unfold clipN
  by_cases h1 : m ≤ p
  · rw [if_pos h1, if_pos (by omega)]; omega
  · rw [if_neg h1]
    by_cases h2 : m ≤ p + q
    · rw [if_pos h2]; split <;> omega
    · rw [if_neg h2]
      by_cases h3 : n ≤ m - p
      · rw [if_pos h3]; omega
      · rw [if_neg h3]; split <;> omega
theorem clip_down (n p q m : Nat) : clipN n p (m + q) ≤ clipN n p m := by
  unfold clipN
  by_cases h1 : m ≤ p
  · rw [if_pos h1]
    split
    · omega
    · split <;> omega
  · rw [if_neg h1, if_neg (show ¬ m + q ≤ p by omega)]
    by_cases h3 : n ≤ m - p
    · rw [if_pos h3, if_pos (by omega)]; omega
    · rw [if_neg h3]; split <;> omega
theorem clipsLaw_any (n p q m : Nat) (hn : n < M) (hp : p < 4294967296) (hq : q < 4294967296) (hm : m < 4294967296) (w : World) :
    Calls Try.prog 18 #[.int .u64 n, .int .u32 p, .int .u32 q, .int .u32 m] w fun e w' => e = .returned (.bool true) ∧ Below w.heap.size w w' := by
  have hl : M = 18446744073709551616 := M_eq
  have hMM : M ≤ MM := by decide
  have c8 := fun w => clip_any n m m hn (show m < MM by omega) (by omega) w
  rw [show clipN n m m = n from if_pos (Nat.le_refl _)] at c8
  refine clips_walk n p q m (p + q) (m + q) (clipN n p m) (clipN n (p + q) m) (clipN n p (m + q)) (p / M) (p % M) (m / M) (m % M) ((p + q) / M) ((p + q) % M) ((m + q) / M) ((m + q) % M)
    (fun w => of_any p (by omega) w) (fun w => of_any m (by omega) w) (fun w => of_any (p + q) (by omega) w) (fun w => of_any (m + q) (by omega) w) (fun w => clip_any n p m hn (by omega) (by omega) w) (fun w => clip_any n (p + q) m hn (by omega) (by omega) w)
    (fun w => clip_any n p (m + q) hn (by omega) (by omega) w) c8 ?_ ?_ ?_ ?_ ?_ (decide_eq_true (clip_le n p m)) (decide_eq_true (clip_up n p q m)) (decide_eq_true (clip_down n p q m)) w
  · rw [IntKind.wrap_u64]; omega
  · rw [IntKind.wrap_u64]; omega
  · rw [IntKind.wrap_u64]; omega
  · rw [IntKind.wrap_u64]; omega
  · rw [IntKind.wrap_u64]; omega

set_option maxRecDepth 100000 in
theorem ratioClips_lifted (os : Os) (started : os.Started) (H : Type) (enc : TypeId × Value → H) :
    ReturnsInHanded {} Try.checked os 18 .any (Rows.ratioClipsSpec.pre6 enc Try.prog Try.f18 Rows.ratioClipsRow.domain false) (Rows.ratioClipsSpec.post enc Try.prog Try.f18 false true false false) := by
  refine law_lifted (C := Try.checked) (T := 4) Try.own started (by kernel_rfl) Try.func18
    (ChangeSpec.witness6 (enc := enc) (C := Try.checked) false ⟨#[], #[.int .u64 0, .int .u32 0, .int .u32 0, .int .u32 0], []⟩ 8 (by kernel_rfl) (by kernel_rfl) (by kernel_rfl) (by kernel_rfl))
    Try.laidOut (of_decide_eq_true (by kernel_rfl)) rfl Try.underlying4 rfl (fun ds h => by match ds, h with | [_, _, _, _], _ => rfl) ?_
  intro W base args ds p hval0 hA0 hsz0
  have hval : ∀ (j : Nat) t v, Try.f18.params[j]? = some t → args[j]? = some v → Value.okWide Try.prog W .any base t v := hval0
  have hA : DataW.TrodAll enc Try.prog W 0 (fun _ => true) true Try.f18.params.toList args.toList ds p := hA0
  have hsz : (DataW.weightsEach Try.prog Try.f18.params.toList ds).all (· ≤ reachBytes) = true := hsz0
  rw [Try.params18] at hA hval hsz
  obtain ⟨v0, vs0, d0, ds0, p0, q0, hargs, rfl, rfl, h0, r0⟩ := trodAll_cons hA
  obtain ⟨v1, vs1, d1, ds1, p1, q1, rfl, rfl, rfl, h1, r1⟩ := trodAll_cons r0
  obtain ⟨v2, vs2, d2, ds2, p2, q2, rfl, rfl, rfl, h2, r2⟩ := trodAll_cons r1
  obtain ⟨v3, vs3, d3, ds3, p3, q3, rfl, rfl, rfl, h3, r3⟩ := trodAll_cons r2
  obtain ⟨rfl, rfl, rfl⟩ := trodAll_nil r3
  obtain rfl : args = #[v0, v1, v2, v3] := by cases args; simp_all
  obtain ⟨n, hn0, rfl, rfl⟩ := open_u64 (hval 0 22 v0 rfl rfl) h0
  obtain ⟨p, rfl, rfl, rfl, w1⟩ := open_int Try.underlying40 (hval 1 40 v1 rfl rfl) h1
  have b1 := Go.bounds_u32 w1
  obtain ⟨p, rfl⟩ := Int.eq_ofNat_of_zero_le b1.1
  obtain ⟨q, rfl, rfl, rfl, w2⟩ := open_int Try.underlying40 (hval 2 40 v2 rfl rfl) h2
  have b2 := Go.bounds_u32 w2
  obtain ⟨q, rfl⟩ := Int.eq_ofNat_of_zero_le b2.1
  obtain ⟨m, rfl, rfl, rfl, w3⟩ := open_int Try.underlying40 (hval 3 40 v3 rfl rfl) h3
  have b3 := Go.bounds_u32 w3
  obtain ⟨m, rfl⟩ := Int.eq_ofNat_of_zero_le b3.1
  exact clipsLaw_any n p q m hn0 (by omega) (by omega) (by omega) W

theorem ratioClips_holds : Rows.RatioClipsSaid :=
  OpenClaim.holds_of_wide 18 Try.f18 rfl rfl rfl rfl rfl rfl rfl ⟨rfl, rfl, rfl, rfl, rfl⟩ rfl rfl rfl rfl rfl (by kernel_rfl) Try.func18 (by kernel_rfl)
    (of_decide_eq_true (by kernel_rfl)) (by unfold Func.isWrapper; rw [if_neg (of_decide_eq_false (by kernel_rfl))]; exact ⟨rfl, rfl⟩)
    (fun os started H enc _ => ratioClips_lifted os started H enc)

end Go.Proofs.Ytcaeaepnobbjlaa
