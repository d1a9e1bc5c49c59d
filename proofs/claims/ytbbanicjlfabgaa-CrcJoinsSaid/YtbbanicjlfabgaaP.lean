import Derived.Test.YtbbanicjlfabgaaM
import Derived.Test.YtbbanicjlfabgaaRows
import Derived.Test.YtbbanicjlfabgaaQ
import Derived.Laws.AppendOwn
import Derived.Laws.OwnMore
import Derived.Laws.BytesArg
namespace Go.Proofs.Ytbbanicjlfabgaa
set_option linter.unusedVariables false
set_option linter.unusedSimpArgs false
open Go.RowKit

/-! Bytes that the call itself puts together. -/
/-- The bytes 'cs' lie in slice v, a row of the call's own (from block 'base' on), or there are none. -/
structure OwnB (base : Nat) (w : World) (v : Value) (cs : List (BitVec 8)) : Prop where
  form : ∃ a cap, v = .slice a cs.length cap ∧ cs.length ≤ cap ∧
    (0 < cs.length → ∃ g cur, a = some ⟨g, 0, none⟩ ∧ base ≤ g ∧ w.heap[g]? = some (.cells cur 5 (0, 0)) ∧ cs.length ≤ cur.size ∧ cur.toList.take cs.length = cs.map u8)
theorem OwnB.sliceAt {base : Nat} {w : World} {v : Value} {cs : List (BitVec 8)} (h : OwnB base w v cs) : SliceAt w v cs := by
  obtain ⟨a, cap, rfl, hcap, hf⟩ := h.form
  refine ⟨⟨a, cap, rfl, fun h0 => ?_⟩, fun a' n c e => by simp only [Value.slice.injEq] at e; omega⟩
  obtain ⟨g, cur, rfl, _, hrow, hsz, htake⟩ := hf h0
  refine ⟨g, 0, rfl, fun i hi => ?_⟩
  rw [cell_of_row _ _ _ _ _ _ hrow, Nat.zero_add]
  have h1 : (cur.toList.take cs.length)[i]? = some (u8 cs[i]) := by rw [htake]; simp [hi]
  rw [List.getElem?_take_of_lt hi] at h1
  simpa using h1
theorem OwnB.of_row {base : Nat} {w : World} {v : Value} {cs : List (BitVec 8)} (h : w.ownsRow base 5 1 v cs.length (cs.map u8)) : OwnB base w v cs := by
  obtain ⟨_, h2⟩ := h
  rcases h2 with ⟨rfl, h0⟩ | ⟨g, cap, cur, rfl, hb, hrow, hn, _, hsz, htake⟩
  · exact ⟨none, 0, by rw [h0], by omega, fun h => by omega⟩
  · rw [Nat.mul_one] at hsz htake
    exact ⟨_, cap, rfl, hn, fun _ => ⟨g, cur, rfl, hb, hrow, by omega, htake⟩⟩
theorem OwnB.below {base : Nat} {w w' : World} {v : Value} {cs : List (BitVec 8)} (h : OwnB base w v cs) (hb : Below w.heap.size w w') : OwnB base w' v cs := by
  obtain ⟨a, cap, rfl, hcap, hf⟩ := h.form
  refine ⟨a, cap, rfl, hcap, fun h0 => ?_⟩
  obtain ⟨g, cur, rfl, hg, hrow, r⟩ := hf h0
  exact ⟨g, cur, rfl, hg, by rw [hb.block _ (Array.getElem?_eq_some_iff.1 hrow).1]; exact hrow, r⟩
/-- One byte stored. -/
theorem take_set {α : Type} (l : List α) (n j : Nat) (x : α) (h : j < n) : (l.set j x).take n = (l.take n).set j x := by
  rw [List.take_set]
theorem own_store {base : Nat} {w : World} {g cap : Nat} {cs : List (BitVec 8)} {cur : Array Value} (j : Nat) (x : BitVec 8) (hj : j < cs.length) (hrow : w.heap[g]? = some (.cells cur 5 (0, 0)))
    (hb : base ≤ g) (hsz : cs.length ≤ cur.size) (hcap : cs.length ≤ cap) (htake : cur.toList.take cs.length = cs.map u8) :
    OwnB base (w.setCell ⟨g, j, none⟩ (u8 x)) (.slice (some ⟨g, 0, none⟩) cs.length cap) (cs.set j x) := by
  refine ⟨_, cap, by rw [List.length_set], by rw [List.length_set]; exact hcap, fun _ => ⟨g, cur.setIfInBounds j (u8 x), rfl, hb, heap_setCell_same _ _ _ _ _ _ hrow, by simpa using hsz, ?_⟩⟩
  rw [List.length_set, Array.toList_setIfInBounds, List.take_set, htake, List.map_set]

theorem bytes5' : ∃ i0, Try.prog.info? 5 = some i0 ∧ i0.zero = some (.int .u8 0) ∧ i0.size = 1 ∧ i0.bytes = 1 := by
  obtain ⟨i0, hi, hz0, hz1, hz2⟩ := info_parts info5
  exact ⟨i0, hi, hz0, hz1, hz2⟩

/-- 'append(v, vs...)' of bytes, v the call's own. -/
theorem run_append_bytes (base ty : Nat) (w : World) (v : Value) (xs : List (BitVec 8)) (hown : w.ownsRow base 5 1 v xs.length (xs.map u8)) (vs : Value) (bs : List (BitVec 8)) (hs : SliceAt w vs bs)
    (hn : xs.length + bs.length ≤ 140737488355328) (hbase : base ≤ w.heap.size) :
    ∃ v' w', (Builtin.append_ #[28, 28] ty #[v, vs]).run Try.prog w = .ok v' w' ∧ w'.ownsRow base 5 1 v' (xs ++ bs).length ((xs ++ bs).map u8) ∧ w.grownBy w' v.ownBlock := by
  obtain ⟨i0, hi, hz0, hz1, hz2⟩ := bytes5'
  have hroom := hs.room
  obtain ⟨a, cap, rfl, hc⟩ := hs.form
  cases a with
  | none =>
    have h0 : bs = [] := by
      cases bs with
      | nil => rfl
      | cons c bs => obtain ⟨b, off, h, _⟩ := hc (by simp); simp at h
    subst h0
    have hr : (Builtin.append_ #[28, 28] ty #[v, .slice none 0 cap]).run Try.prog w = .ok v w := by
      rcases hown.2 with ⟨rfl, hz⟩ | ⟨g, cap', cur, rfl, _, _, hnc, _⟩
      · simp [Builtin.append_, run_underlying Try.underlying28, sizeOf, typeInfo, hi, Builtin.lenOf, Builtin.firstCells]
      · simp [Builtin.append_, run_underlying Try.underlying28, sizeOf, typeInfo, hi, Builtin.lenOf, Builtin.firstCells, hnc, storeCells]
    exact ⟨v, w, hr, by simpa using hown, ⟨rfl, rfl, rfl, Nat.le_refl _, fun _ _ _ => rfl⟩⟩
  | some ad =>
    have hnews : ∀ j u, (bs.map u8)[j]? = some u → w.cell? (ad.add j) = some u := by
      intro j u hj
      have hlt : j < bs.length := by
        have := (List.getElem?_eq_some_iff.1 hj).1; simpa using this
      obtain ⟨b, off, hab, hcell⟩ := hc (by omega)
      simp only [Option.some.injEq] at hab
      subst hab
      have hadd : (⟨b, off, none⟩ : Addr).add j = ⟨b, off + j, none⟩ := by unfold Addr.add; split <;> simp_all
      rw [hadd, hcell j hlt]
      simpa [hlt] using hj
    obtain ⟨v', w', h1, h2, h3, h4⟩ := run_append_own (P := Try.prog) w base 28 ty 5 i0 _ 1 1 Try.underlying28 hi hz0 hz1 hz2 rfl (by decide) v xs.length (xs.map u8) hown ad bs.length cap (bs.map u8)
      (by simp) hnews (fun u hu => by obtain ⟨c, _, rfl⟩ := List.mem_map.1 hu; rfl) (by unfold maxLen; omega) (by omega) hbase
    exact ⟨v', w', h1, by rw [List.length_append, List.map_append]; exact h2, h3⟩

/-- As the walk meets it. -/
theorem wp_append_bytes {o : Oper} {a : Act} {K : Act → World → Prop} {Q : Exit → Act → World → Prop} (s x : Operand)
    (ho : o.op = .call { callee := .builtin .append, args := #[s, x], argTypes := #[28, 28] }) (base : Nat) (w : World) (v vs : Value) (hv : a.eval s = v) (hvs : a.eval x = vs) (xs bs : List (BitVec 8))
    (hown : w.ownsRow base 5 1 v xs.length (xs.map u8)) (hs : SliceAt w vs bs) (hn : xs.length + bs.length ≤ 140737488355328) (hbase : base ≤ w.heap.size)
    (h : ∀ v' w', w'.ownsRow base 5 1 v' (xs ++ bs).length ((xs ++ bs).map u8) → w.grownBy w' v.ownBlock → K (a.put o.dst v') w') : o.wp Try.prog a w K Q := by
  obtain ⟨v', w', hr, h2, h3⟩ := run_append_bytes base o.type w v xs hown vs bs hs hn hbase
  unfold Oper.wp execOp
  simp only [ho, resolve, invoke, builtin, Sem.run_bind, Sem.run_pure, Result.andThen_ok, List.map_toArray, List.map_cons, List.map_nil, hv, hvs, hr]
  exact h v' w' h2 h3
theorem wpList_append_bytes {ops : Array Oper} {rest : List Oper} {o : Oper} {a : Act} {Q : Exit → Act → World → Prop} (hgd : o.guard = none) (s x : Operand)
    (ho : o.op = .call { callee := .builtin .append, args := #[s, x], argTypes := #[28, 28] }) (base : Nat) (w : World) (v vs : Value) (hv : a.eval s = v) (hvs : a.eval x = vs) (xs bs : List (BitVec 8))
    (hown : w.ownsRow base 5 1 v xs.length (xs.map u8)) (hs : SliceAt w vs bs) (hn : xs.length + bs.length ≤ 140737488355328) (hbase : base ≤ w.heap.size)
    (h : ∀ v' w', w'.ownsRow base 5 1 v' (xs ++ bs).length ((xs ++ bs).map u8) → w.grownBy w' v.ownBlock → wpList Try.prog ops Q rest (a.put o.dst v') w') : wpList Try.prog ops Q (o :: rest) a w :=
  wpList_plain hgd fun _ hK => wp_append_bytes s x ho base w v vs hv hvs xs bs hown hs hn hbase fun v' w' h2 h3 => hK _ _ (h v' w' h2 h3)
/-- The row of '[]byte{}'. -/
theorem own_empty (w : World) (base : Nat) (fr : Nat × Nat) (hfr : fr = (0, 0)) (hb : base ≤ w.heap.size) : (w.alloc (.cells #[] 5 fr)).ownsRow base 5 1 (.slice (some ⟨w.heap.size, 0, none⟩) 0 0) 0 [] := by
  subst hfr
  exact ⟨rfl, .inr ⟨w.heap.size, 0, #[], rfl, hb, Go.heap_alloc_new _ _, Nat.le_refl _, by unfold maxLen; omega, rfl, rfl⟩⟩
/-- What an append on a row of its own leaves below it. -/
theorem grown_below {w0 w w' : World} {v : Value} (h : Below w0.heap.size w0 w) (hg : w.grownBy w' v.ownBlock) (hv : ∀ k, v.ownBlock = some k → w0.heap.size ≤ k) : Below w0.heap.size w0 w' := h.grown hg h.size hv

/-! A text out of bytes. -/
def strB (bs : List (BitVec 8)) : ByteArray := ⟨(bs.map fun c => UInt8.ofNat c.toNat).toArray⟩
theorem strB_inj (a b : List (BitVec 8)) : strB a = strB b ↔ a = b := by
  constructor
  · intro h
    unfold strB at h
    simp only [ByteArray.mk.injEq] at h
    have h2 : a.map (fun c => UInt8.ofNat c.toNat) = b.map (fun c => UInt8.ofNat c.toNat) := by simpa using h
    refine List.map_inj_right ?_ |>.1 h2
    intro x y e
    have e2 : (UInt8.ofNat x.toNat).toNat = (UInt8.ofNat y.toNat).toNat := by rw [e]
    simp only [UInt8.toNat_ofNat'] at e2
    apply BitVec.eq_of_toNat_eq
    have := x.isLt
    have := y.isLt
    omega
  · intro h; rw [h]
theorem strB_eq (a b : List (BitVec 8)) : ((strB a).toList == (strB b).toList) = true ↔ a = b := by
  rw [beq_iff_eq, ByteArray.toList_eq, ByteArray.toList_eq]
  constructor
  · intro h
    refine (strB_inj a b).1 ?_
    unfold strB at *
    simp only [ByteArray.mk.injEq]
    exact Array.toList_inj.1 h
  · intro h; rw [h]
theorem conv28 {w : World} {v : Value} {bs : List (BitVec 8)} (h : SliceAt w v bs) : (convert 28 9 v).run Try.prog w = .ok (.string (strB bs)) w := by
  obtain ⟨a, cap, rfl, hc⟩ := h.form
  cases bs with
  | nil =>
    cases a with
    | none => exact run_convert_bytes_nil w 28 5 Try.underlying28 Try.underlying5 _ _ 9 Try.underlying9
    | some ad =>
      rw [run_convert_bytes_string w 28 9 5 (some ad) _ cap Try.underlying28 Try.underlying5 Try.underlying9]
      have hl : (loadCells ad 0).run Try.prog w = .ok (([] : List Int).map (Value.int .u8)).toArray w := by
        have := run_loadCells_list (P := Try.prog) w ad [] (fun j v hj => by simp at hj)
        simpa using this
      exact run_bytesToString w ad 0 cap [] hl
  | cons c cs =>
    obtain ⟨b, off, rfl, hcell⟩ := hc (by simp)
    have h := run_convert_bytes_arg (P := Try.prog) w 28 5 Try.underlying28 Try.underlying5 b off (c :: cs).length cap ((c :: cs).map fun x => (x.toNat : Int)) (by simp) (fun i hi => by
      rw [hcell i hi, List.getD_eq_getElem?_getD, List.getElem?_map, List.getElem?_eq_getElem hi]; rfl) 9 Try.underlying9
    rw [h]
    congr 2
    unfold strOfNums strB
    rw [List.map_map]; rfl

end Go.Proofs.Ytbbanicjlfabgaa
