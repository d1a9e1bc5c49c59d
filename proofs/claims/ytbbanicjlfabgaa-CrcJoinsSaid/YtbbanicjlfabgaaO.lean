import Derived.Test.YtbbanicjlfabgaaM
import Derived.Test.YtbbanicjlfabgaaRows
import Derived.Test.YtbbanicjlfabgaaLaw
namespace Go.Proofs.Ytbbanicjlfabgaa
set_option linter.unusedVariables false
set_option linter.unusedSimpArgs false
open Go.ChangeShapes Go.WideShapes Go.ChangeAt Go.RowKit
section
variable {H : Type} {enc : TypeId × Value → H}

theorem Try.own : ownKnob Try.prog.godebug = none := by kernel_rfl
theorem Try.laidOut : laidOutB Try.prog = true := by kernel_rfl
theorem cells5 : Try.prog.cellsOf 5 = 1 := by kernel_rfl
theorem cells23 : Try.prog.cellsOf 23 = 1 := by kernel_rfl
theorem cells24 : Try.prog.cellsOf 24 = 256 := by kernel_rfl
theorem bytes5 : Try.prog.bytesOf 5 = 1 := by kernel_rfl

/-- A law's step where what it reads is small. -/
theorem law_upto {P : Program} {f : FuncId} {fn : Func} {s : ChangeSpec} {W : World} {args : Array Value} {ds gs : List (DataW H)} {before : List MemPlace} {T : TypeId}
    (hl : laidOutB P = true) (hr : ∀ t ∈ fn.params.toList, P.readableRec t = true ∧ t < P.types.size) (hres : fn.resultTypes = #[T]) (hT : P.underlying T = some .bool)
    (hvars : s.vars = []) (hspec : ∀ ds : List (DataW H), ds.length = fn.params.toList.length → s.fn H ds = { results := [.lit (.bool true)], args := ds })
    (hW : DataW.Whole enc P fn.params.toList s.vars false W args.toList ds gs before) (hk : Rows.uptoSmall H (ds ++ gs) = true)
    (hsz : (DataW.weightsEach P (fn.params.toList ++ s.plain.varTypes P) (ds ++ gs)).all (· ≤ reachBytes) = true)
    (contract : ∀ (ds : List (DataW H)) (p : List MemPlace), DataW.TrodAll enc P W 0 (fun _ => true) true fn.params.toList args.toList ds p → Rows.uptoBulkAll ds ≤ 1048576 →
      (DataW.weightsEach P fn.params.toList ds).all (· ≤ reachBytes) = true → Calls P f args W fun e W' => e = .returned (.bool true) ∧ Below W.heap.size W W') :
    Calls P f args W fun e W' => ∃ v, e = .returned v ∧ s.post enc P fn false true false false W args v W' := by
  have hW' := hW
  obtain ⟨p, q, hA, hV, rfl, hfz, hnd⟩ := hW
  rw [hvars] at hV
  obtain ⟨rfl, rfl⟩ := trodVars_none hV
  have e0 : s.plain.varTypes P = [] := by
    show s.vars.filterMap _ = []
    rw [hvars]; rfl
  rw [e0, List.append_nil, List.append_nil] at hsz
  rw [List.append_nil] at hk
  refine (contract ds p hA (of_decide_eq_true hk) hsz).mono ?_
  rintro e W' ⟨rfl, hb⟩
  exact ⟨_, rfl, law_post hl hr hres hT hvars hspec hW' hb⟩
theorem bulk_one (d : DataW H) : 1 ≤ Rows.uptoBulk d := by
  cases d with
  | lit l => cases l <;> simp [Rows.uptoBulk]
  | nil => simp [Rows.uptoBulk]
  | ptr d => simp [Rows.uptoBulk]
  | slice elems spare => simp [Rows.uptoBulk]
  | agg parts => simp [Rows.uptoBulk]
  | iface t d => simp [Rows.uptoBulk]
  | map entries => simp [Rows.uptoBulk]
  | held h => simp [Rows.uptoBulk]
theorem bulk_len (l : List (DataW H)) : l.length ≤ Rows.uptoBulkAll l := by
  induction l with
  | nil => simp [Rows.uptoBulkAll]
  | cons x r ih => have := bulk_one x; simp only [Rows.uptoBulkAll, List.length_cons]; omega

/-- Bytes that came in. -/
theorem open_bytes {W : World} {base : Nat} {v : Value} {d : DataW H} {p : List MemPlace} {ts : List TypeId} {ds : List (DataW H)} {j : Nat}
    (hval : Value.okWide Try.prog W .any base 28 v) (h : DataW.Trod enc Try.prog W 0 (fun _ => true) true 28 v d p)
    (hsz : (DataW.weightsEach Try.prog ts ds).all (· ≤ reachBytes) = true) (ht : ts[j]? = some 28) (hd : ds[j]? = some d) :
    ∃ bs : List (BitVec 8), SliceAt W v bs ∧ bs.length ≤ 140737488351232 ∧ bs.length ≤ Rows.uptoBulk d := by
  obtain ⟨a0, len0, cap0, rfl⟩ := okWide_slice Try.underlying28 hval
  obtain ⟨fuel, hf⟩ := h
  rcases open_ints Try.underlying28 Try.underlying5 cells5 hf with ⟨hcs, hx⟩ | ⟨a, len, cap, zs, hcs, _, hl, hm, hz, hx, hcell, hwz⟩
  · simp [Value.cells] at hcs
    obtain ⟨rfl, rfl, rfl⟩ := hcs
    exact ⟨[], ⟨⟨none, 0, rfl, fun h => absurd h (by simp)⟩, fun a n c h => by simp only [Value.slice.injEq] at h; omega⟩, by simp, by simp⟩
  · simp only [Value.cells, List.cons.injEq, Value.slice.injEq, and_true] at hcs
    obtain ⟨rfl, rfl, rfl⟩ := hcs
    rw [if_pos rfl] at hz
    simp only [Prod.mk.injEq] at hx
    obtain ⟨rfl, rfl⟩ := hx
    have hs := sized_slice hsz ht hd Try.underlying28
    rw [bytes5] at hs
    simp only [lits, List.length_map, List.length_take, List.length_drop, reachBytes] at hs
    refine ⟨(zs.take len0).map fun z => BitVec.ofInt 8 z, ⟨⟨some a, cap0, ?_, ?_⟩, fun a n c h => by simp only [Value.slice.injEq] at h; omega⟩, ?_, ?_⟩
    · rw [List.length_map, List.length_take, Nat.min_eq_left (by omega)]
    · intro h0
      rw [List.length_map, List.length_take, Nat.min_eq_left (by omega)] at h0
      have h00 := hcell 0 (by omega)
      have hspot : a.spot = none := by
        cases hsp : a.spot with
        | none => rfl
        | some q =>
          have e : a.add 0 = a := rfl
          rw [e] at h00
          unfold World.cell? at h00
          rw [hsp] at h00
          simp at h00
          split at h00 <;> simp_all
      obtain ⟨b, off, sp⟩ := a
      simp only at hspot
      subst hspot
      refine ⟨b, off, rfl, fun i hi => ?_⟩
      rw [List.length_map, List.length_take, Nat.min_eq_left (by omega)] at hi
      have hci := hcell i (by omega)
      have hadd : (⟨b, off, none⟩ : Addr).add i = ⟨b, off + i, none⟩ := by unfold Addr.add; split <;> simp_all
      rw [hadd] at hci
      rw [hci, List.getElem_map, List.getElem_take, show zs.getD i 0 = zs[i] by rw [List.getD_eq_getElem?_getD, List.getElem?_eq_getElem (by omega)]; rfl]
      have hw := wf_u8 (hwz zs[i] (List.getElem_mem _))
      have e : ((BitVec.ofInt 8 zs[i]).toNat : Int) = zs[i] := by rw [BitVec.toNat_ofInt]; omega
      rw [u8, e]
    · rw [List.length_map, List.length_take]; omega
    · have h := bulk_len (H := H) (lits .u8 (zs.take len0))
      simp only [Rows.uptoBulk]
      simp only [lits, List.length_map] at h ⊢
      omega

/-- A table that came in. -/
theorem open_words {W : World} {base : Nat} {v : Value} {d : DataW H} {p : List MemPlace}
    (hval : Value.okWide Try.prog W .any base 24 v) (h : DataW.Trod enc Try.prog W 0 (fun _ => true) true 24 v d p) :
    ∃ t : Nat → BitVec 32, v = .agg (tabOf t) := by
  unfold Value.okWide at hval
  rw [Try.underlying24] at hval
  obtain ⟨cs, rfl, hsize, _⟩ := hval
  obtain ⟨fuel, hf⟩ := h
  obtain ⟨xs, m, _, _, hlen, hxs, hel⟩ := DataW.trod_array Try.underlying24 hf
  rw [cells24] at hsize
  have each : ∀ i, (hi : i < 256) → ∃ r : BitVec 32, cs[i]? = some (u32 r) := by
    intro i hi
    have h1 := hel i hi
    rw [cells23, List.getElem?_eq_getElem (by omega)] at h1
    obtain ⟨n, hn, _, hw⟩ := DataW.trod_int Try.underlying23 h1
    have hb := wf_u32 hw
    refine ⟨BitVec.ofInt 32 n, ?_⟩
    have e : ((BitVec.ofInt 32 n).toNat : Int) = n := by rw [BitVec.toNat_ofInt]; omega
    rw [u32, e]
    simp only [Value.cells, Nat.mul_one] at hn
    have h2 : cs.toList[i]? = some (.int .u32 n) := by
      have h3 : ((cs.toList.drop i).take 1)[0]? = some (.int .u32 n) := by rw [hn]; rfl
      simpa using h3
    simpa using h2
  have each2 : ∀ i, ∃ r : BitVec 32, ∀ hi : i < 256, cs[i]? = some (u32 r) := fun i => by
    by_cases hi : i < 256
    · obtain ⟨r, hr⟩ := each i hi
      exact ⟨r, fun _ => hr⟩
    · exact ⟨0#32, fun h => absurd h hi⟩
  obtain ⟨t, ht⟩ := Classical.axiomOfChoice each2
  refine ⟨t, ?_⟩
  congr 1
  apply Array.ext
  · rw [hsize, tabOf_size]
  · intro i h1 h2
    have hi : i < 256 := by omega
    have hc := ht i hi
    rw [Array.getElem?_eq_getElem h1] at hc
    rw [tabOf_get]
    exact Option.some.inj hc
theorem open_u32 {W : World} {base : Nat} {v : Value} {d : DataW H} {p : List MemPlace}
    (hval : Value.okWide Try.prog W .any base 23 v) (h : DataW.Trod enc Try.prog W 0 (fun _ => true) true 23 v d p) : ∃ r : BitVec 32, v = u32 r := by
  obtain ⟨x, rfl, rfl, rfl, wx⟩ := open_int Try.underlying23 hval h
  have hb := wf_u32 wx
  refine ⟨BitVec.ofInt 32 x, ?_⟩
  have e : ((BitVec.ofInt 32 x).toNat : Int) = x := by rw [BitVec.toNat_ofInt]; omega
  rw [u32, e]
theorem open_i64 {W : World} {base : Nat} {v : Value} {d : DataW H} {p : List MemPlace}
    (hval : Value.okWide Try.prog W .any base 3 v) (h : DataW.Trod enc Try.prog W 0 (fun _ => true) true 3 v d p) : ∃ x : Int, v = .int .i64 x ∧ -9223372036854775808 ≤ x ∧ x < 9223372036854775808 := by
  obtain ⟨x, rfl, rfl, rfl, wx⟩ := open_int Try.underlying3 hval h
  exact ⟨x, rfl, wf_i64 wx⟩
end
end Go.Proofs.Ytbbanicjlfabgaa
