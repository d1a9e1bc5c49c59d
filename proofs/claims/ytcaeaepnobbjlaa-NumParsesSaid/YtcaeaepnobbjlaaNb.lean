import Derived.Test.YtcaeaepnobbjlaaNa
import Derived.Laws.AppendOwn
import Derived.Laws.OwnMore
import Derived.Laws.BytesArg
namespace Go.Proofs.Ytcaeaepnobbjlaa
set_option linter.unusedVariables false
set_option linter.unusedSimpArgs false
open Go.RowKit

abbrev b8v (c : BitVec 8) : Value := .int .u8 (c.toNat : Int)
/-- A slice of bytes, nil or not. -/
structure SliceAt (w : World) (v : Value) (bs : List (BitVec 8)) : Prop where
  form : ∃ a cap, v = .slice a bs.length cap ∧ (0 < bs.length → ∃ b off, a = some ⟨b, off, none⟩ ∧ ∀ i, (h : i < bs.length) → w.cell? ⟨b, off + i, none⟩ = some (b8v bs[i]))
  room : ∀ a n cap, v = .slice a n cap → n ≤ cap

theorem SliceAt.below {w w' : World} {v : Value} {bs : List (BitVec 8)} (h : SliceAt w v bs) (hb : Below w.heap.size w w') : SliceAt w' v bs := by
  have hroom := h.room
  obtain ⟨a, cap, rfl, hc⟩ := h.form
  refine ⟨⟨a, cap, rfl, fun h0 => ?_⟩, hroom⟩
  obtain ⟨b, off, ha, hcell⟩ := hc h0
  refine ⟨b, off, ha, fun i hi => ?_⟩
  rw [hb.cell (World.block_lt_of_cell? w _ (hcell i hi))]
  exact hcell i hi
theorem sliceAt_row {w : World} {g t : Nat} {fr : Nat × Nat} (bs : List (BitVec 8)) (cap : Nat) (h : w.heap[g]? = some (.cells (bs.map b8v).toArray t fr)) (hcap : bs.length ≤ cap) : SliceAt w (.slice (some ⟨g, 0, none⟩) bs.length cap) bs :=
  ⟨⟨_, cap, rfl, fun _ => ⟨g, 0, rfl, fun i hi => by rw [cell_of_row _ _ _ _ _ _ h]; simp [hi]⟩⟩, fun a n c e => by
    simp only [Value.slice.injEq] at e; omega⟩
set_option maxRecDepth 100000 in
theorem info5 : (Try.prog.info? 5).map (fun i => (i.zero, i.size, i.bytes)) = some (some (.int .u8 0), 1, 1) := by kernel_rfl
/-! Bytes that the call itself puts together. -/
/-- The bytes 'cs' lie in slice v, a row of the call's own (from block 'base' on), or there are none. -/
structure OwnB (base : Nat) (w : World) (v : Value) (cs : List (BitVec 8)) : Prop where
  form : ∃ a cap, v = .slice a cs.length cap ∧ cs.length ≤ cap ∧
    (0 < cs.length → ∃ g cur, a = some ⟨g, 0, none⟩ ∧ base ≤ g ∧ w.heap[g]? = some (.cells cur 5 (0, 0)) ∧ cs.length ≤ cur.size ∧ cur.toList.take cs.length = cs.map b8v)
theorem OwnB.sliceAt {base : Nat} {w : World} {v : Value} {cs : List (BitVec 8)} (h : OwnB base w v cs) : SliceAt w v cs := by
  obtain ⟨a, cap, rfl, hcap, hf⟩ := h.form
  refine ⟨⟨a, cap, rfl, fun h0 => ?_⟩, fun a' n c e => by simp only [Value.slice.injEq] at e; omega⟩
  obtain ⟨g, cur, rfl, _, hrow, hsz, htake⟩ := hf h0
  refine ⟨g, 0, rfl, fun i hi => ?_⟩
  rw [cell_of_row _ _ _ _ _ _ hrow, Nat.zero_add]
  have h1 : (cur.toList.take cs.length)[i]? = some (b8v cs[i]) := by rw [htake]; simp [hi]
  rw [List.getElem?_take_of_lt hi] at h1
  simpa using h1
theorem OwnB.of_row {base : Nat} {w : World} {v : Value} {cs : List (BitVec 8)} (h : w.ownsRow base 5 1 v cs.length (cs.map b8v)) : OwnB base w v cs := by
  obtain ⟨_, h2⟩ := h
  rcases h2 with ⟨rfl, h0⟩ | ⟨g, cap, cur, rfl, hb, hrow, hn, _, hsz, htake⟩
  · exact ⟨none, 0, by rw [h0], by omega, fun h => by omega⟩
  · rw [Nat.mul_one] at hsz htake
    exact ⟨_, cap, rfl, hn, fun _ => ⟨g, cur, rfl, hb, hrow, by omega, htake⟩⟩
theorem OwnB.below {base : Nat} {w w' : World} {v : Value} {cs : List (BitVec 8)} (h : OwnB base w v cs) (hb : Below w.heap.size w w') : OwnB base w' v cs := by
  obtain ⟨a, cap, rfl, hcap, hf⟩ := h.form
  refine ⟨a, cap, rfl, hcap, fun h0 => ?_⟩
  obtain ⟨g, cur, rfl, hg, hrow, r⟩ := hf h0
  exact ⟨g, cur, rfl, hg, by rw [hb.block _ (Array.getElem?_eq_some_iff.1 hrow).1]; exact hrow, r⟩
/-- One byte stored. -/
theorem take_set {α : Type} (l : List α) (n j : Nat) (x : α) (h : j < n) : (l.set j x).take n = (l.take n).set j x := by
  rw [List.take_set]
theorem own_store {base : Nat} {w : World} {g cap : Nat} {cs : List (BitVec 8)} {cur : Array Value} (j : Nat) (x : BitVec 8) (hj : j < cs.length) (hrow : w.heap[g]? = some (.cells cur 5 (0, 0)))
    (hb : base ≤ g) (hsz : cs.length ≤ cur.size) (hcap : cs.length ≤ cap) (htake : cur.toList.take cs.length = cs.map b8v) :
    OwnB base (w.setCell ⟨g, j, none⟩ (b8v x)) (.slice (some ⟨g, 0, none⟩) cs.length cap) (cs.set j x) := by
  refine ⟨_, cap, by rw [List.length_set], by rw [List.length_set]; exact hcap, fun _ => ⟨g, cur.setIfInBounds j (b8v x), rfl, hb, heap_setCell_same _ _ _ _ _ _ hrow, by simpa using hsz, ?_⟩⟩
  rw [List.length_set, Array.toList_setIfInBounds, List.take_set, htake, List.map_set]

theorem bytes5' : ∃ i0, Try.prog.info? 5 = some i0 ∧ i0.zero = some (.int .u8 0) ∧ i0.size = 1 ∧ i0.bytes = 1 := by
  obtain ⟨i0, hi, hz0, hz1, hz2⟩ := info_parts info5
  exact ⟨i0, hi, hz0, hz1, hz2⟩

/-- 'append(v, vs...)' of bytes, v the call's own. -/
theorem run_append_bytes (base ty : Nat) (w : World) (v : Value) (xs : List (BitVec 8)) (hown : w.ownsRow base 5 1 v xs.length (xs.map b8v)) (vs : Value) (bs : List (BitVec 8)) (hs : SliceAt w vs bs)
    (hn : xs.length + bs.length ≤ 140737488355328) (hbase : base ≤ w.heap.size) :
    ∃ v' w', (Builtin.append_ #[91, 91] ty #[v, vs]).run Try.prog w = .ok v' w' ∧ w'.ownsRow base 5 1 v' (xs ++ bs).length ((xs ++ bs).map b8v) ∧ w.grownBy w' v.ownBlock := by
  obtain ⟨i0, hi, hz0, hz1, hz2⟩ := bytes5'
  have hroom := hs.room
  obtain ⟨a, cap, rfl, hc⟩ := hs.form
  cases a with
  | none =>
    have h0 : bs = [] := by
      cases bs with
      | nil => rfl
      | cons c bs => obtain ⟨b, off, h, _⟩ := hc (by simp); simp at h
    subst h0
    have hr : (Builtin.append_ #[91, 91] ty #[v, .slice none 0 cap]).run Try.prog w = .ok v w := by
      rcases hown.2 with ⟨rfl, hz⟩ | ⟨g, cap', cur, rfl, _, _, hnc, _⟩
      · simp [Builtin.append_, run_underlying Try.underlying91, sizeOf, typeInfo, hi, Builtin.lenOf, Builtin.firstCells]
      · simp [Builtin.append_, run_underlying Try.underlying91, sizeOf, typeInfo, hi, Builtin.lenOf, Builtin.firstCells, hnc, storeCells]
    exact ⟨v, w, hr, by simpa using hown, ⟨rfl, rfl, rfl, Nat.le_refl _, fun _ _ _ => rfl⟩⟩
  | some ad =>
    have hnews : ∀ j u, (bs.map b8v)[j]? = some u → w.cell? (ad.add j) = some u := by
      intro j u hj
      have hlt : j < bs.length := by
        have := (List.getElem?_eq_some_iff.1 hj).1; simpa using this
      obtain ⟨b, off, hab, hcell⟩ := hc (by omega)
      simp only [Option.some.injEq] at hab
      subst hab
      have hadd : (⟨b, off, none⟩ : Addr).add j = ⟨b, off + j, none⟩ := by unfold Addr.add; split <;> simp_all
      rw [hadd, hcell j hlt]
      simpa [hlt] using hj
    obtain ⟨v', w', h1, h2, h3, h4⟩ := run_append_own (P := Try.prog) w base 91 ty 5 i0 _ 1 1 Try.underlying91 hi hz0 hz1 hz2 rfl (by decide) v xs.length (xs.map b8v) hown ad bs.length cap (bs.map b8v)
      (by simp) hnews (fun u hu => by obtain ⟨c, _, rfl⟩ := List.mem_map.1 hu; rfl) (by unfold maxLen; omega) (by omega) hbase
    exact ⟨v', w', h1, by rw [List.length_append, List.map_append]; exact h2, h3⟩

/-- As the walk meets it. -/
theorem wp_append_bytes {o : Oper} {a : Act} {K : Act → World → Prop} {Q : Exit → Act → World → Prop} (s x : Operand)
    (ho : o.op = .call { callee := .builtin .append, args := #[s, x], argTypes := #[91, 91] }) (base : Nat) (w : World) (v vs : Value) (hv : a.eval s = v) (hvs : a.eval x = vs) (xs bs : List (BitVec 8))
    (hown : w.ownsRow base 5 1 v xs.length (xs.map b8v)) (hs : SliceAt w vs bs) (hn : xs.length + bs.length ≤ 140737488355328) (hbase : base ≤ w.heap.size)
    (h : ∀ v' w', w'.ownsRow base 5 1 v' (xs ++ bs).length ((xs ++ bs).map b8v) → w.grownBy w' v.ownBlock → K (a.put o.dst v') w') : o.wp Try.prog a w K Q := by
  obtain ⟨v', w', hr, h2, h3⟩ := run_append_bytes base o.type w v xs hown vs bs hs hn hbase
  unfold Oper.wp execOp
  simp only [ho, resolve, invoke, builtin, Sem.run_bind, Sem.run_pure, Result.andThen_ok, List.map_toArray, List.map_cons, List.map_nil, hv, hvs, hr]
  exact h v' w' h2 h3
theorem wpList_append_bytes {ops : Array Oper} {rest : List Oper} {o : Oper} {a : Act} {Q : Exit → Act → World → Prop} (hgd : o.guard = none) (s x : Operand)
    (ho : o.op = .call { callee := .builtin .append, args := #[s, x], argTypes := #[91, 91] }) (base : Nat) (w : World) (v vs : Value) (hv : a.eval s = v) (hvs : a.eval x = vs) (xs bs : List (BitVec 8))
    (hown : w.ownsRow base 5 1 v xs.length (xs.map b8v)) (hs : SliceAt w vs bs) (hn : xs.length + bs.length ≤ 140737488355328) (hbase : base ≤ w.heap.size)
    (h : ∀ v' w', w'.ownsRow base 5 1 v' (xs ++ bs).length ((xs ++ bs).map b8v) → w.grownBy w' v.ownBlock → wpList Try.prog ops Q rest (a.put o.dst v') w') : wpList Try.prog ops Q (o :: rest) a w :=
  wpList_plain hgd fun _ hK => wp_append_bytes s x ho base w v vs hv hvs xs bs hown hs hn hbase fun v' w' h2 h3 => hK _ _ (h v' w' h2 h3)
/-- The row of '[]byte{}'. -/
theorem own_empty (w : World) (base : Nat) (fr : Nat × Nat) (hfr : fr = (0, 0)) (hb : base ≤ w.heap.size) : (w.alloc (.cells #[] 5 fr)).ownsRow base 5 1 (.slice (some ⟨w.heap.size, 0, none⟩) 0 0) 0 [] := by
  subst hfr
  exact ⟨rfl, .inr ⟨w.heap.size, 0, #[], rfl, hb, Go.heap_alloc_new _ _, Nat.le_refl _, by unfold maxLen; omega, rfl, rfl⟩⟩
/-- What an append on a row of its own leaves below it. -/
theorem grown_below {w0 w w' : World} {v : Value} (h : Below w0.heap.size w0 w) (hg : w.grownBy w' v.ownBlock) (hv : ∀ k, v.ownBlock = some k → w0.heap.size ≤ k) : Below w0.heap.size w0 w' := h.grown hg h.size hv

/-! A text out of bytes. -/
def strB (bs : List (BitVec 8)) : ByteArray := ⟨(bs.map fun c => UInt8.ofNat c.toNat).toArray⟩
theorem strB_inj (a b : List (BitVec 8)) : strB a = strB b ↔ a = b := by
  constructor
  · intro h
    unfold strB at h
    simp only [ByteArray.mk.injEq] at h
    have h2 : a.map (fun c => UInt8.ofNat c.toNat) = b.map (fun c => UInt8.ofNat c.toNat) := by simpa using h
    refine List.map_inj_right ?_ |>.1 h2
    intro x y e
    have e2 : (UInt8.ofNat x.toNat).toNat = (UInt8.ofNat y.toNat).toNat := by rw [e]
    simp only [UInt8.toNat_ofNat'] at e2
    apply BitVec.eq_of_toNat_eq
    have := x.isLt
    have := y.isLt
    omega
  · intro h; rw [h]
theorem strB_eq (a b : List (BitVec 8)) : ((strB a).toList == (strB b).toList) = true ↔ a = b := by
  rw [beq_iff_eq, ByteArray.toList_eq, ByteArray.toList_eq]
  constructor
  · intro h
    refine (strB_inj a b).1 ?_
    unfold strB at *
    simp only [ByteArray.mk.injEq]
    exact Array.toList_inj.1 h
  · intro h; rw [h]
set_option maxRecDepth 100000 in
theorem conv91 {w : World} {v : Value} {bs : List (BitVec 8)} (h : SliceAt w v bs) : (convert 91 9 v).run Try.prog w = .ok (.string (strB bs)) w := by
  obtain ⟨a, cap, rfl, hc⟩ := h.form
  cases bs with
  | nil =>
    cases a with
    | none => exact run_convert_bytes_nil w 91 5 Try.underlying91 Try.underlying5 _ _ 9 Try.underlying9
    | some ad =>
      rw [run_convert_bytes_string w 91 9 5 (some ad) _ cap Try.underlying91 Try.underlying5 Try.underlying9]
      have hl : (loadCells ad 0).run Try.prog w = .ok (([] : List Int).map (Value.int .u8)).toArray w := by
        have := run_loadCells_list (P := Try.prog) w ad [] (fun j v hj => by simp at hj)
        simpa using this
      exact run_bytesToString w ad 0 cap [] hl
  | cons c cs =>
    obtain ⟨b, off, rfl, hcell⟩ := hc (by simp)
    have h := run_convert_bytes_arg (P := Try.prog) w 91 5 Try.underlying91 Try.underlying5 b off (c :: cs).length cap ((c :: cs).map fun x => (x.toNat : Int)) (by simp) (fun i hi => by
      rw [hcell i hi, List.getD_eq_getElem?_getD, List.getElem?_map, List.getElem?_eq_getElem hi]; rfl) 9 Try.underlying9
    rw [h]
    congr 2
    unfold strOfNums strB
    rw [List.map_map]; rfl


/-! slices.Reverse. -/
/-- n bytes of which the first k and the last k have changed places. -/
def revB (f : Nat → BitVec 8) (n k : Nat) : List (BitVec 8) := (List.range n).map fun i => if i < k ∨ n - k ≤ i then f (n - 1 - i) else f i
theorem revB_length (f : Nat → BitVec 8) (n k : Nat) : (revB f n k).length = n := by simp [revB]
theorem revB_get (f : Nat → BitVec 8) (n k i : Nat) (h : i < (revB f n k).length) : (revB f n k)[i] = if i < k ∨ n - k ≤ i then f (n - 1 - i) else f i := by simp [revB]
theorem revB_step (f : Nat → BitVec 8) (n k : Nat) (hk : k < n - 1 - k) : ((revB f n k).set k (f (n - 1 - k))).set (n - 1 - k) (f k) = revB f n (k + 1) := by
  apply List.ext_getElem
  · simp [revB_length]
  · intro i h1 h2
    rw [List.getElem_set, List.getElem_set, revB_get, revB_get]
    rw [revB_length] at h2
    by_cases e1 : n - 1 - k = i
    · rw [if_pos e1, if_pos (by omega)]; congr 1; omega
    · rw [if_neg e1]
      by_cases e2 : k = i
      · rw [if_pos e2, if_pos (by omega), e2]
      · rw [if_neg e2]
        by_cases c : i < k ∨ n - k ≤ i
        · rw [if_pos c, if_pos (by omega)]
        · rw [if_neg c, if_neg (by omega)]
theorem revB_done (cs : List (BitVec 8)) (k : Nat) (hk : ¬ k < cs.length - 1 - k) : revB (fun i => cs.getD i 0#8) cs.length k = cs.reverse := by
  apply List.ext_getElem
  · simp [revB_length]
  · intro i h1 h2
    rw [revB_get, List.getElem_reverse]
    rw [revB_length] at h1
    by_cases c : i < k ∨ cs.length - k ≤ i
    · rw [if_pos c, List.getD_eq_getElem?_getD, List.getElem?_eq_getElem (by omega)]; rfl
    · rw [if_neg c]
      have e : i = cs.length - 1 - i := by omega
      rw [List.getD_eq_getElem?_getD, List.getElem?_eq_getElem (by omega), Option.getD_some]
      congr 1
theorem revB_zero (cs : List (BitVec 8)) : revB (fun i => cs.getD i 0#8) cs.length 0 = cs := by
  apply List.ext_getElem
  · simp [revB_length]
  · intro i h1 h2
    rw [revB_get, if_neg (by omega), List.getD_eq_getElem?_getD, List.getElem?_eq_getElem h2]; rfl
/-- A row of the call's own: its block, and what lies in it. -/
structure RowO (base : Nat) (w : World) (g : Nat) (cs : List (BitVec 8)) : Prop where
  low : base ≤ g
  row : ∃ cur, w.heap[g]? = some (.cells cur 5 (0, 0)) ∧ cs.length ≤ cur.size ∧ cur.toList.take cs.length = cs.map b8v
theorem RowO.cell {base : Nat} {w : World} {g : Nat} {cs : List (BitVec 8)} (h : RowO base w g cs) (i : Nat) (hi : i < cs.length) : w.cell? ⟨g, i, none⟩ = some (b8v cs[i]) ∧ w.frozen? ⟨g, i, none⟩ = false := by
  obtain ⟨cur, hrow, hsz, htake⟩ := h.row
  refine ⟨?_, frozen_of_row _ _ _ _ _ hrow⟩
  rw [cell_of_row _ _ _ _ _ _ hrow]
  have h1 : (cur.toList.take cs.length)[i]? = some (b8v cs[i]) := by rw [htake]; simp [hi]
  rw [List.getElem?_take_of_lt hi] at h1
  simpa using h1
theorem RowO.store {base : Nat} {w : World} {g : Nat} {cs : List (BitVec 8)} (h : RowO base w g cs) (j : Nat) (x : BitVec 8) : RowO base (w.setCell ⟨g, j, none⟩ (b8v x)) g (cs.set j x) := by
  obtain ⟨cur, hrow, hsz, htake⟩ := h.row
  refine ⟨h.low, cur.setIfInBounds j (b8v x), heap_setCell_same _ _ _ _ _ _ hrow, by simpa using hsz, ?_⟩
  rw [List.length_set, Array.toList_setIfInBounds, List.take_set, htake, List.map_set]

set_option maxRecDepth 100000 in
set_option maxHeartbeats 4000000 in
theorem reverse_walk (base g n cap : Nat) (f : Nat → BitVec 8) (w : World) (hn : 1 ≤ n) (hn1 : n ≤ 140737488355328) (hb : base ≤ w.heap.size) (hrow : RowO base w g (revB f n 0)) :
    Calls Try.prog 77 #[.slice (some ⟨g, 0, none⟩) n cap] w fun e w' => e = .returned (.tuple #[]) ∧ Below base w w' ∧ ∃ k, ¬ k < n - 1 - k ∧ RowO base w' g (revB f n k) := by
  have HR0 := Lib.hid hrow
  have HB0 : Hid (Below base w w) := Below.refl _ _
  have HN : Hid (1 ≤ n ∧ n ≤ 140737488355328) := ⟨hn, hn1⟩
  have e0 : IntKind.i64.wrap ((n : Int) - 1) = ((n - 1 : Nat) : Int) := by rw [IntWalk.i64_in _ (by omega)]; omega
  clear hrow hn hn1 hb
  go_enter Try.func77, Try.ntmps77
  go_wp2_with fail
  go_loopw [2, 3] (fun i j wr => ∃ k : Nat, k ≤ n - 1 ∧ i = .int .i64 k ∧ j = .int .i64 (((n - 1 : Nat) : Int) - k) ∧ Below base w wr ∧ RowO base wr g (revB f n k)) (fun i _ _ => (n - intOf i).toNat)
  case atStart => exact ⟨0, Nat.zero_le _, rfl, by simp, HB0.out, HR0.out⟩
  case round =>
    obtain ⟨k, hk, rfl, rfl, hB, hR⟩ := hrel
    have hn := HN.out
    have ej : (((n - 1 : Nat) : Int) - k) = ((n - 1 - k : Nat) : Int) := by omega
    by_cases hlt : k < n - 1 - k
    · have ej2 : Hid ((((n - 1 : Nat) : Int) - ((k + 1 : Nat) : Int)) = ((n - 1 - k - 1 : Nat) : Int)) := by show _ = _; omega
      rw [ej]
      have d1 : decide (k < n - 1 - k) = true := decide_eq_true hlt
      have e1 : IntKind.i64.wrap ((k : Int) + 1) = ((k + 1 : Nat) : Int) := by rw [IntWalk.i64_in _ (by omega)]; omega
      have e2 : IntKind.i64.wrap (((n - 1 - k : Nat) : Int) - 1) = ((n - 1 - k - 1 : Nat) : Int) := by rw [IntWalk.i64_in _ (by omega)]; omega
      have k0 : (0 : Int) ≤ (k : Int) := by omega
      have k1 : (k : Int) < n := by omega
      have k2 : (0 : Int) ≤ ((n - 1 - k : Nat) : Int) := by omega
      have k3 : ((n - 1 - k : Nat) : Int) < n := by omega
      obtain ⟨c1, z1⟩ := hR.cell k (by rw [revB_length]; omega)
      obtain ⟨c2, z2⟩ := hR.cell (n - 1 - k) (by rw [revB_length]; omega)
      rw [revB_get, if_neg (by omega)] at c1 c2
      obtain ⟨c3, z3⟩ := (hR.store k (f (n - 1 - k))).cell (n - 1 - k) (by rw [List.length_set, revB_length]; omega)
      rw [List.getElem_set_ne (by omega), revB_get, if_neg (by omega)] at c3
      have HL : Hid (k + 1 ≤ n - 1) := by show _ ≤ _; omega
      have HS : Hid (RowO base ((wr.setCell ⟨g, k, none⟩ (b8v (f (n - 1 - k)))).setCell ⟨g, n - 1 - k, none⟩ (b8v (f k))) g (revB f n (k + 1))) := by
        show RowO _ _ _ _
        rw [← revB_step f n k hlt]
        exact (hR.store k _).store _ _
      have HB : Hid (Below base w ((wr.setCell ⟨g, k, none⟩ (b8v (f (n - 1 - k)))).setCell ⟨g, n - 1 - k, none⟩ (b8v (f k)))) := (hB.setCell hR.low _).setCell hR.low _
      clear hR hB hlt hk ej hn
      generalize hj1 : n - 1 - k - 1 = j1 at *
      generalize hj : n - 1 - k = j at *
      generalize hx : f j = x at *
      generalize hy : f k = y at *
      have HJ := Lib.hid hj
      clear hj hx hy hj1
      go_wp2_with fail
      go_region
      go_wp2_with fail
      go_roundw
      case rel => exact ⟨k + 1, HL.out, rfl, by rw [ej2.out], HB.out.drew, ⟨HS.out.low, HS.out.row⟩⟩
      case measure => have := HL.out; simp [intOf]; omega
    · rw [ej]
      have d1 : decide (k < n - 1 - k) = false := decide_eq_false hlt
      have HE : Hid (∃ k, ¬ k < n - 1 - k ∧ RowO base wr g (revB f n k)) := ⟨k, hlt, hR⟩
      have HB := Lib.hid hB
      clear hR hB hlt hk ej hn
      generalize n - 1 - k = j at *
      go_wp2_with fail
      exact bodyPost_end (v := .tuple #[]) (by simp [results, Try.results77, go_sem]) rfl ⟨rfl, HB.out, HE.out⟩

theorem reverse_any (base : Nat) (v : Value) (cs : List (BitVec 8)) (w : World) (hb : base ≤ w.heap.size) (h0 : 0 < cs.length) (hn : cs.length ≤ 140737488355328) (hv : OwnB base w v cs) :
    Calls Try.prog 77 #[v] w fun e w' => e = .returned (.tuple #[]) ∧ Below base w w' ∧ OwnB base w' v cs.reverse := by
  obtain ⟨a, cap, rfl, hcap, hf⟩ := hv.form
  obtain ⟨g, cur, rfl, hg, hrow, hsz, htake⟩ := hf h0
  refine (reverse_walk base g cs.length cap (fun i => cs.getD i 0#8) w h0 hn hb ⟨hg, cur, hrow, by rw [revB_zero]; exact hsz, by rw [revB_zero]; exact htake⟩).mono ?_
  rintro e w' ⟨rfl, hB, k, hk, hR⟩
  rw [revB_done cs k hk] at hR
  refine ⟨rfl, hB, ⟨_, cap, by rw [List.length_reverse], by rw [List.length_reverse]; exact hcap, fun _ => ?_⟩⟩
  obtain ⟨cur', h1, h2, h3⟩ := hR.row
  exact ⟨g, cur', rfl, hg, h1, h2, h3⟩

end Go.Proofs.Ytcaeaepnobbjlaa

