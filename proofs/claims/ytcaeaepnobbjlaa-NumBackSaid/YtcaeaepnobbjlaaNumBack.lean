/- For all numbers a and b of 128 bits and every text s the law NumBack returns true: formatting and parsing are inverse, with exactly one text for each integer; smaller integers have shorter texts, or smaller ones of the same length. No condition. -/
import Derived.Test.YtcaeaepnobbjlaaNh
import Derived.Test.YtcaeaepnobbjlaaNi
import Derived.Test.YtcaeaepnobbjlaaO2
namespace Go.Proofs.Ytcaeaepnobbjlaa
set_option linter.unusedVariables false
set_option linter.unusedSimpArgs false
open Go.ChangeShapes Go.WideShapes Go.ChangeAt Go.RowKit

theorem cmp_lt0 (x y : Nat) : decide (cmpI x y < 0) = decide (x < y) := by
  unfold cmpI
  by_cases h : x < y
  · rw [if_pos h, decide_eq_true h]; rfl
  · rw [if_neg h, decide_eq_false h]
    by_cases h2 : y < x
    · rw [if_pos h2]; rfl
    · rw [if_neg h2]; rfl
theorem text_short (n : Nat) (hn : n < MM) : (textN n).size ≤ 9223372036854775807 := by
  rw [text_size]
  exact Nat.le_trans (revN_len 39 n (by rw [MM_eq] at hn; omega)) (by omega)
theorem numBackLaw_any (a b : Nat) (ha : a < MM) (hb : b < MM) (s : ByteArray) (hs : s.size ≤ 9223372036854775807) (w : World) :
    Calls Try.prog 11 #[W a, W b, .string s] w fun e w' => e = .returned (.bool true) ∧ Below w.heap.size w w' := by
  by_cases hl : 200 < s.size
  · exact back6_long (a / M) (a % M) (b / M) (b % M) s hl w
  · have hM : 0 < M := by rw [M_eq]; omega
    have hMM : M ≤ MM := by decide
    have hlo : a % M < M := Nat.mod_lt _ hM
    have hlo2 : a % M < MM := by omega
    have c3 := fun w => parsewide_any (textN a) (text_short a ha) w
    rw [text_pwN a ha, text_pwE a ha] at c3
    have c5 := fun w => parse_any (textN (a % M)) (a % M) (text_short _ hlo2) hlo w
    have e1 : psN (textN (a % M)) (a % M) = a % M := by
      rw [psN, text_pwE _ hlo2, text_pwN _ hlo2, if_neg (by simp), if_neg (by omega)]
    have e2 : psE (textN (a % M)) (a % M) = 0 := by
      rw [psE, text_pwE _ hlo2, text_pwN _ hlo2, if_neg (by simp), if_neg (by omega)]
    rw [e1, e2] at c5
    refine back6_walk (a / M) (a % M) (b / M) (b % M) (pwN s / M) (pwN s % M) s (textN a) (textN b) s (textN (a % M)) (pwE s) (cmpI a b) (by omega) (fun h => ?_) (fun h => ?_) (fun h => ?_)
      (fun w => numwide_any a ha w) (fun w => numwide_any b hb w) c3 (fun w => numprint_any (a % M) hlo w) c5 (fun w => parsewide_any s hs w) (fun h0 w => ?_) (fun w => cmp_any a b ha hb w) w
    · rw [cmp_lt0]; exact decide_eq_true (text_shorter a b h)
    · rw [cmp_lt0, text_lex a b h]
    · rw [cmp_lt0]; have := text_shorter b a h; exact decide_eq_false (by omega)
    · have hT : IsT s := by
        refine Decidable.byContradiction fun c => ?_
        rw [pwE, if_neg c] at h0; omega
      have hlt : pv s s.size < MM := by
        refine Decidable.byContradiction fun c => ?_
        rw [pwE, if_pos hT, if_neg c] at h0; omega
      have h := numwide_any (pwN s) (pwN_lt s) w
      rw [show textN (pwN s) = s by rw [show pwN s = pv s s.size from if_pos ⟨hT, hlt⟩]; exact text_back s hT] at h
      exact h


set_option maxRecDepth 100000 in
theorem numBack_lifted (os : Os) (started : os.Started) (H : Type) (enc : TypeId × Value → H) :
    ReturnsInHanded {} Try.checked os 11 .any (Rows.numBackSpec.pre6 enc Try.prog Try.f11 Rows.numBackRow.domain false) (Rows.numBackSpec.post enc Try.prog Try.f11 false true false false) := by
  refine law_lifted (C := Try.checked) (T := 4) Try.own started (by kernel_rfl) Try.func11
    (ChangeSpec.witness6 (enc := enc) (C := Try.checked) false ⟨#[], #[.agg #[.int .u64 0, .int .u64 0], .agg #[.int .u64 0, .int .u64 0], .string ⟨#[]⟩], []⟩ 8 (by kernel_rfl) (by kernel_rfl) (by kernel_rfl) (by kernel_rfl))
    Try.laidOut (of_decide_eq_true (by kernel_rfl)) rfl Try.underlying4 rfl (fun ds h => by match ds, h with | [_, _, _], _ => rfl) ?_
  intro W base args ds p hval0 hA0 hsz0
  have hval : ∀ (j : Nat) t v, Try.f11.params[j]? = some t → args[j]? = some v → Value.okWide Try.prog W .any base t v := hval0
  have hA : DataW.TrodAll enc Try.prog W 0 (fun _ => true) true Try.f11.params.toList args.toList ds p := hA0
  have hsz : (DataW.weightsEach Try.prog Try.f11.params.toList ds).all (· ≤ reachBytes) = true := hsz0
  rw [Try.params11] at hA hval hsz
  obtain ⟨v0, vs0, d0, ds0, p0, q0, hargs, rfl, rfl, h0, r0⟩ := trodAll_cons hA
  obtain ⟨v1, vs1, d1, ds1, p1, q1, rfl, rfl, rfl, h1, r1⟩ := trodAll_cons r0
  obtain ⟨v2, vs2, d2, ds2, p2, q2, rfl, rfl, rfl, h2, r2⟩ := trodAll_cons r1
  obtain ⟨rfl, rfl, rfl⟩ := trodAll_nil r2
  obtain rfl : args = #[v0, v1, v2] := by cases args; simp_all
  obtain ⟨a, ha, rfl, rfl⟩ := open_wide (hval 0 24 v0 rfl rfl) h0
  obtain ⟨b, hb, rfl, hp1⟩ := open_wide (hval 1 24 v1 rfl rfl) h1
  obtain ⟨s, rfl, hd2, hp2, hs⟩ := Go.ChangeMaps.open_string Try.underlying9 (hval 2 9 v2 rfl rfl) h2
  exact numBackLaw_any a b ha hb s (Nat.le_trans hs (by decide)) W

theorem numBack_holds : Rows.NumBackSaid :=
  OpenClaim.holds_of_wide 11 Try.f11 rfl rfl rfl rfl rfl rfl rfl ⟨rfl, rfl, rfl, rfl, rfl⟩ rfl rfl rfl rfl rfl (by kernel_rfl) Try.func11 (by kernel_rfl)
    (of_decide_eq_true (by kernel_rfl)) (by unfold Func.isWrapper; rw [if_neg (of_decide_eq_false (by kernel_rfl))]; exact ⟨rfl, rfl⟩)
    (fun os started H enc _ => numBack_lifted os started H enc)

end Go.Proofs.Ytcaeaepnobbjlaa
