/- For every slice l of numbers of 64 bits, every number n of 64 bits and all numbers plus, minus of 128 bits the law RatioSums returns true: Sum and Clip return the results of the reference. No condition. -/
import Derived.Test.YtcaeaepnobbjlaaYc
import Derived.Test.YtcaeaepnobbjlaaO2
namespace Go.Proofs.Ytcaeaepnobbjlaa
set_option linter.unusedVariables false
set_option linter.unusedSimpArgs false
open Go.ChangeShapes Go.WideShapes Go.ChangeAt Go.RowKit

set_option maxRecDepth 100000 in
theorem open_u64s {H : Type} {enc : TypeId × Value → H} {W : World} {base : Nat} {v : Value} {d : DataW H} {p : List MemPlace}
    (hval : Value.okWide Try.prog W .any base 75 v) (h : DataW.Trod enc Try.prog W 0 (fun _ => true) true 75 v d p) :
    ∃ xs : List Nat, U64At W v xs ∧ (∀ x ∈ xs, x < M) ∧ xs.length ≤ 9223372036854775807 := by
  obtain ⟨a0, len0, cap0, rfl⟩ := okWide_slice Try.underlying75 hval
  obtain ⟨fuel, hf⟩ := h
  rcases open_ints Try.underlying75 Try.underlying22 (by kernel_rfl) hf with ⟨hcs, hx⟩ | ⟨a, len, cap, zs, hcs, _, hl, hm, hz, hx, hcell, hwz⟩
  · simp [Value.cells] at hcs
    obtain ⟨rfl, rfl, rfl⟩ := hcs
    exact ⟨[], ⟨⟨none, 0, rfl, fun h => absurd h (by simp)⟩⟩, by simp, by simp⟩
  · simp only [Value.cells, List.cons.injEq, Value.slice.injEq, and_true] at hcs
    obtain ⟨rfl, rfl, rfl⟩ := hcs
    rw [if_pos rfl] at hz
    refine ⟨(zs.take len0).map Int.toNat, ⟨⟨some a, cap0, ?_, ?_⟩⟩, ?_, ?_⟩
    · rw [List.length_map, List.length_take, Nat.min_eq_left (by omega)]
    · intro h0
      rw [List.length_map, List.length_take, Nat.min_eq_left (by omega)] at h0
      have h00 := hcell 0 (by omega)
      have hspot : a.spot = none := by
        cases hsp : a.spot with
        | none => rfl
        | some q =>
          have e : a.add 0 = a := rfl
          rw [e] at h00
          unfold World.cell? at h00
          rw [hsp] at h00
          simp at h00
          split at h00 <;> simp_all
      obtain ⟨b, off, sp⟩ := a
      simp only at hspot
      subst hspot
      refine ⟨b, off, rfl, fun i hi => ?_⟩
      rw [List.length_map, List.length_take, Nat.min_eq_left (by omega)] at hi
      have hci := hcell i (by omega)
      have hadd : (⟨b, off, none⟩ : Addr).add i = ⟨b, off + i, none⟩ := by unfold Addr.add; split <;> simp_all
      rw [hadd] at hci
      rw [hci, List.getElem_map, List.getElem_take, show zs.getD i 0 = zs[i] by rw [List.getD_eq_getElem?_getD, List.getElem?_eq_getElem (by omega)]; rfl]
      have hw := wf_u64 (hwz zs[i] (List.getElem_mem _))
      have e : ((zs[i].toNat : Nat) : Int) = zs[i] := by omega
      rw [e]
    · intro x hx
      obtain ⟨z, hz1, rfl⟩ := List.mem_map.1 hx
      have hw := wf_u64 (hwz z (List.mem_of_mem_take hz1))
      rw [M_eq]; omega
    · rw [List.length_map, List.length_take]
      have : maxLen ≤ 9223372036854775807 := by decide
      omega

theorem W_lo (a : Nat) (ha : a < M) : W a = .agg #[.int .u64 0, .int .u64 (a : Int)] := W_lit a 0 a (Nat.div_eq_of_lt ha) (Nat.mod_eq_of_lt ha)
theorem sumsLaw_any (xs : List Nat) (v : Value) (n p m : Nat) (w : World) (hv : U64At w v xs) (hlen : xs.length ≤ 9223372036854775807) (hx : ∀ x ∈ xs, x < M) (hn : n < M) (hp : p < MM) (hm : m < MM) :
    Calls Try.prog 14 #[v, .int .u64 n, W p, W m] w fun e w' => e = .returned (.bool true) ∧ Below w.heap.size w w' := by
  have hMM : M ≤ MM := by decide
  refine sums_law_walk xs v n (p / M) (p % M) (m / M) (m % M) (clipN n p m) (fun k => sumL (xs.take k) % MM / M) (fun k => sumL (xs.take k) % MM % M) (fun k => decide (MM ≤ sumL (xs.take k) % MM + xs[k]?.getD 0)) w hv hlen (by simp [sumL]) (by simp [sumL])
    (fun k hk w => ?_) (fun w hv => ?_) (fun w => ?_) (fun w => clip_any n p m hn hp hm w) (fun w => refclip_any n p m hn hp hm w) (fun w => as_any p w) (fun w => as_any m w)
  · have hk2 := hx _ (List.getElem_mem hk)
    have h := refadd_any (sumL (xs.take k) % MM) xs[k] (Nat.mod_lt _ (by decide)) (by omega) w
    have e : (sumL (xs.take k) % MM + xs[k]) % MM = sumL (xs.take (k + 1)) % MM := by
      rw [Nat.mod_add_mod]
      unfold sumL
      rw [List.take_succ_eq_append_getElem hk, List.foldl_append]
      rfl
    rw [e, W_lo _ hk2] at h
    rw [List.getElem?_eq_getElem hk, Option.getD_some]
    exact h
  · rw [List.take_length]
    exact sum_any xs v w hv hlen hx
  · rw [List.take_length]
    exact as_any _ w


set_option maxRecDepth 100000 in
theorem ratioSums_lifted (os : Os) (started : os.Started) (H : Type) (enc : TypeId × Value → H) :
    ReturnsInHanded {} Try.checked os 14 .any (Rows.ratioSumsSpec.pre6 enc Try.prog Try.f14 Rows.ratioSumsRow.domain false) (Rows.ratioSumsSpec.post enc Try.prog Try.f14 false true false false) := by
  refine law_lifted (C := Try.checked) (T := 4) Try.own started (by kernel_rfl) Try.func14
    (ChangeSpec.witness6 (enc := enc) (C := Try.checked) false ⟨#[], #[.slice none 0 0, .int .u64 0, .agg #[.int .u64 0, .int .u64 0], .agg #[.int .u64 0, .int .u64 0]], []⟩ 8 (by kernel_rfl) (by kernel_rfl) (by kernel_rfl) (by kernel_rfl))
    Try.laidOut (of_decide_eq_true (by kernel_rfl)) rfl Try.underlying4 rfl (fun ds h => by match ds, h with | [_, _, _, _], _ => rfl) ?_
  intro W base args ds p hval0 hA0 hsz0
  have hval : ∀ (j : Nat) t v, Try.f14.params[j]? = some t → args[j]? = some v → Value.okWide Try.prog W .any base t v := hval0
  have hA : DataW.TrodAll enc Try.prog W 0 (fun _ => true) true Try.f14.params.toList args.toList ds p := hA0
  have hsz : (DataW.weightsEach Try.prog Try.f14.params.toList ds).all (· ≤ reachBytes) = true := hsz0
  rw [Try.params14] at hA hval hsz
  obtain ⟨v0, vs0, d0, ds0, p0, q0, hargs, rfl, rfl, h0, r0⟩ := trodAll_cons hA
  obtain ⟨v1, vs1, d1, ds1, p1, q1, rfl, rfl, rfl, h1, r1⟩ := trodAll_cons r0
  obtain ⟨v2, vs2, d2, ds2, p2, q2, rfl, rfl, rfl, h2, r2⟩ := trodAll_cons r1
  obtain ⟨v3, vs3, d3, ds3, p3, q3, rfl, rfl, rfl, h3, r3⟩ := trodAll_cons r2
  obtain ⟨rfl, rfl, rfl⟩ := trodAll_nil r3
  obtain rfl : args = #[v0, v1, v2, v3] := by cases args; simp_all
  obtain ⟨xs, hv, hx, hlen⟩ := open_u64s (hval 0 75 v0 rfl rfl) h0
  obtain ⟨n, hn, rfl, rfl⟩ := open_u64 (hval 1 22 v1 rfl rfl) h1
  obtain ⟨p, hp, rfl, hp2⟩ := open_wide (hval 2 24 v2 rfl rfl) h2
  obtain ⟨m, hm, rfl, hm2⟩ := open_wide (hval 3 24 v3 rfl rfl) h3
  exact sumsLaw_any xs v0 n p m W hv hlen hx hn hp hm

theorem ratioSums_holds : Rows.RatioSumsSaid :=
  OpenClaim.holds_of_wide 14 Try.f14 rfl rfl rfl rfl rfl rfl rfl ⟨rfl, rfl, rfl, rfl, rfl⟩ rfl rfl rfl rfl rfl (by kernel_rfl) Try.func14 (by kernel_rfl)
    (of_decide_eq_true (by kernel_rfl)) (by unfold Func.isWrapper; rw [if_neg (of_decide_eq_false (by kernel_rfl))]; exact ⟨rfl, rfl⟩)
    (fun os started H enc _ => ratioSums_lifted os started H enc)

end Go.Proofs.Ytcaeaepnobbjlaa
