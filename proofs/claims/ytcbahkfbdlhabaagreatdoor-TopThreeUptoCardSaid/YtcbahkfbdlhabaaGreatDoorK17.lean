/- A part of the proof that the law TopThree returns true for all arguments of bulk at most 1048576 (no other condition). Here: Labels joined and split again. Keys cut. Prefixes: over, up, cuts. The document's Over of two prefixes: by definition the program's. -/
import Derived.Test.YtcbahkfbdlhabaaGreatDoorK15
import Derived.Test.YtcbahkfbdlhabaaGreatDoorK10
import Derived.Test.YtcbahkfbdlhabaaGreatDoorK06
import Derived.Test.YtcbahkfbdlhabaaGreatDoorK05
namespace Go.Proofs.YtcbahkfbdlhabaaGreatDoor
set_option linter.unusedVariables false
set_option linter.unusedSimpArgs false
open Go.RowKit

theorem bytes_inj {a b : ByteArray} (h : a.data.toList = b.data.toList) : a = b := ByteArray.ext (Array.ext' h)
theorem ext_list (p : ByteArray) (a b : Nat) : (p.extract a b).data.toList = (p.data.toList.drop a).take (b - a) := by
  rw [ByteArray.data_extract, Array.toList_extract, List.extract_eq_take_drop]
theorem gb_list (p : ByteArray) (k : Nat) (hk : k < p.size) (h : gb p k = 46) : p.data.toList[k]? = some 46 := by
  have h2 := (gb_46 p k hk).1 h
  have hs : k < p.data.size := hk
  rw [Array.getElem?_toList, Array.getElem?_eq_getElem hs]
  exact congrArg some h2
theorem list_gb (p : ByteArray) (k : Nat) (h : p.data.toList[k]? = some 46) : k < p.size ∧ gb p k = 46 := by
  have hk : k < p.data.size := by
    rcases Nat.lt_or_ge k p.data.size with h1 | h1
    · exact h1
    · rw [List.getElem?_eq_none (by simpa using h1)] at h
      cases h
  refine ⟨hk, (gb_46 p k hk).2 ?_⟩
  rw [Array.getElem?_toList, Array.getElem?_eq_getElem hk] at h
  exact Option.some.inj h
theorem join_two (x y : List UInt8) (r : List (List UInt8)) : Lib.join (x :: y :: r) [46] = x ++ 46 :: Lib.join (y :: r) [46] := by
  rw [Lib.join_cons, Lib.join_cons]
  simp [Lib.joinTail]
theorem rest_join : ∀ (ls : List ByteArray), ls ≠ [] → (∀ x ∈ ls, (46 : UInt8) ∉ x.data.toList) → ∀ (p : ByteArray) (o : Nat), o ≤ p.size → p.data.toList.drop o = Lib.join (ls.map (·.data.toList)) [46] → restP p o o = ls
  | [], h, _, _, _, _, _ => absurd rfl h
  | [x], _, hn, p, o, ho, hB => by
    have h46 := hn x (by simp)
    simp only [List.map_cons, List.map_nil, Lib.join_one] at hB
    have hl : p.data.toList.length = p.size := by simp
    rw [restP_none]
    · congr 1
      refine bytes_inj ?_
      rw [ext_list, hB, List.take_of_length_le]
      rw [← hB, List.length_drop, hl]
      exact Nat.le_refl _
    · intro j h1 h2 h3
      have h4 := gb_list p j h2 h3
      have h5 : (p.data.toList.drop o)[j - o]? = some 46 := by
        rw [List.getElem?_drop, show o + (j - o) = j by omega]
        exact h4
      rw [hB] at h5
      exact h46 (List.mem_of_getElem? h5)
  | x :: y :: r, _, hn, p, o, ho, hB => by
    have h46 := hn x (by simp)
    have hl : p.data.toList.length = p.size := by simp
    simp only [List.map_cons] at hB
    rw [join_two] at hB
    have hat : ∀ k, (p.data.toList.drop o)[k]? = p.data.toList[o + k]? := fun k => List.getElem?_drop ..
    have hd := list_gb p (o + x.data.toList.length) (by
      rw [← hat, hB, List.getElem?_append_right (Nat.le_refl _), Nat.sub_self]
      rfl)
    rw [restP_first p o o (o + x.data.toList.length) (by omega) hd.1 hd.2]
    · congr 1
      · refine bytes_inj ?_
        rw [ext_list, hB, Nat.add_sub_cancel_left, List.take_left]
      · refine rest_join (y :: r) (by simp) (fun z hz => hn z (by simp [hz])) p _ (by omega) ?_
        rw [List.map_cons, show o + x.data.toList.length + 1 = o + (x.data.toList.length + 1) by omega, ← List.drop_drop, hB]
        have e : ∀ (X J : List UInt8), (X ++ 46 :: J).drop (X.length + 1) = J := fun X J => by
          rw [show X ++ 46 :: J = (X ++ [46]) ++ J by simp, List.drop_left' (by simp)]
        exact e _ _
    · intro j h1 h2 h3
      have h4 := gb_list p j (by omega) h3
      have h5 : (p.data.toList.drop o)[j - o]? = some 46 := by
        rw [hat, show o + (j - o) = j by omega]
        exact h4
      rw [hB, List.getElem?_append_left (by omega)] at h5
      exact h46 (List.mem_of_getElem? h5)
theorem partsD_join {ls : List ByteArray} (h : ls ≠ []) (hn : ∀ x ∈ ls, (46 : UInt8) ∉ x.data.toList) : partsD (joinB ls) = ls := by
  rw [partsD_rest]
  refine rest_join ls h hn _ 0 (Nat.zero_le _) ?_
  rw [zI]
  show (Lib.join (ls.map (·.data.toList)) [46]).toArray.toList = _
  simp

theorem lab_nodot {x : ByteArray} (h : labB x = true) : (46 : UInt8) ∉ x.data.toList ∧ 0 < x.size := by
  unfold labB at h
  simp only [Bool.and_eq_true, decide_eq_true_eq] at h
  refine ⟨fun h46 => ?_, h.2.1⟩
  obtain ⟨k, hk⟩ := List.mem_iff_getElem?.1 h46
  obtain ⟨h1, h2⟩ := list_gb x k hk
  have := h.1 k h1
  rw [h2] at this
  revert this
  decide
theorem gs_mem {ls : List ByteArray} (h : ∀ k, k < ls.length → labB (gs ls k) = true) : ∀ x ∈ ls, labB x = true := fun x hx => by
  obtain ⟨k, hk, rfl⟩ := List.getElem_of_mem hx
  have := h k hk
  unfold gs at this
  rwa [List.getD_eq_getElem?_getD, List.getElem?_eq_getElem hk, zL] at this
theorem mem_gs {ls : List ByteArray} (h : ∀ x ∈ ls, labB x = true) : ∀ k, k < ls.length → labB (gs ls k) = true := fun k hk => by
  unfold gs
  rw [List.getD_eq_getElem?_getD, List.getElem?_eq_getElem hk, zL]
  exact h _ (List.getElem_mem hk)
/-- A path of labels: none, or its parts are labels, at most eight. -/
theorem okL_iff {p : ByteArray} : okL p = true ↔ p.size = 0 ∨ ((partsD p).length ≤ 8 ∧ ∀ x ∈ partsD p, labB x = true) := by
  unfold okL
  simp only [Bool.or_eq_true, Bool.and_eq_true, decide_eq_true_eq]
  constructor
  · rintro (h | ⟨h1, h2⟩)
    · exact .inl h
    · exact .inr ⟨h1, gs_mem h2⟩
  · rintro (h | ⟨h1, h2⟩)
    · exact .inl h
    · exact .inr ⟨h1, mem_gs h2⟩
theorem size0 {p : ByteArray} (h : p.size = 0) : p = ⟨#[]⟩ := ByteArray.ext (Array.eq_empty_of_size_eq_zero h)
theorem join_pos {x : ByteArray} {r : List ByteArray} (h : 0 < x.size) : 0 < (joinB (x :: r)).size := by
  show 0 < (Lib.join ((x :: r).map (·.data.toList)) [46]).toArray.size
  rw [List.size_toArray, List.map_cons, Lib.join_cons, List.length_append]
  have : x.data.toList.length = x.size := by simp
  omega
/-- The first m labels of a path. -/
def cutL (p : ByteArray) (m : Nat) : List ByteArray := (labsD p).take m
theorem labsD_ok {p : ByteArray} (h : okL p = true) : (labsD p).length ≤ 8 ∧ ∀ x ∈ labsD p, labB x = true := by
  unfold labsD
  rcases okL_iff.1 h with h | h
  · rw [if_pos h]
    simp
  · split
    · simp
    · exact h
theorem labs_join {ls : List ByteArray} (h8 : ls.length ≤ 8) (h : ∀ x ∈ ls, labB x = true) : labsD (joinB ls) = ls ∧ okL (joinB ls) = true := by
  cases ls with
  | nil => exact ⟨rfl, rfl⟩
  | cons x r =>
    have h1 := join_pos (r := r) (lab_nodot (h x (by simp))).2
    have h2 := partsD_join (ls := x :: r) (by simp) fun y hy => (lab_nodot (h y hy)).1
    unfold labsD
    rw [if_neg (by omega), h2]
    exact ⟨rfl, okL_iff.2 (.inr (by rw [h2]; exact ⟨h8, h⟩))⟩
theorem topT_eq {p : ByteArray} (h : okL p = true) (n : Int) : topT p n = joinB ((labsD p).take n.toNat) := by
  unfold topT labsD
  split
  · simp [joinB_nil]
  · congr 1
    rcases Int.le_total n (partsD p).length with h1 | h1
    · congr 1
      omega
    · rw [List.take_of_length_le (by omega), List.take_of_length_le (by omega)]
theorem lenL_eq {p : ByteArray} (h : okL p = true) : lenL p = ((labsD p).length : Int) := by
  unfold lenL labsD
  split
  · rfl
  · rfl
theorem take_lab {ls : List ByteArray} (h8 : ls.length ≤ 8) (h : ∀ x ∈ ls, labB x = true) (m : Nat) : (ls.take m).length ≤ 8 ∧ ∀ x ∈ ls.take m, labB x = true :=
  ⟨by rw [List.length_take]; omega, fun x hx => h x (List.mem_of_mem_take hx)⟩
theorem top_labs {p : ByteArray} (h : okL p = true) (n : Int) : labsD (topT p n) = (labsD p).take n.toNat ∧ okL (topT p n) = true := by
  rw [topT_eq h]
  have h1 := labsD_ok h
  have h2 := take_lab h1.1 h1.2 n.toNat
  exact labs_join h2.1 h2.2
theorem top_len {p : ByteArray} (h : okL p = true) (n : Int) : lenL (topT p n) = min (max n 0) (lenL p) := by
  rw [lenL_eq (top_labs h n).2, (top_labs h n).1, lenL_eq h, List.length_take]
  omega
theorem top_top {p : ByteArray} (h : okL p = true) (a b : Int) : topT (topT p a) b = topT p (min a b) := by
  rw [topT_eq (top_labs h a).2, (top_labs h a).1, topT_eq h, List.take_take]
  congr 2
  omega
theorem restP_ne (p : ByteArray) (f i : Nat) : restP p f i ≠ [] := by
  rw [restP]
  split
  · simp
  · split
    · simp
    · exact restP_ne p f (i + 1)
termination_by p.size - i
theorem join_ne (x : List UInt8) {r : List (List UInt8)} (h : r ≠ []) : Lib.join (x :: r) [46] = x ++ 46 :: Lib.join r [46] := by
  cases r with
  | nil => exact absurd rfl h
  | cons y r => exact join_two x y r
theorem join_rest (p : ByteArray) (f i : Nat) (h : f ≤ i) : Lib.join ((restP p f i).map (·.data.toList)) [46] = p.data.toList.drop f := by
  have hl : p.data.toList.length = p.size := by simp
  rw [restP]
  split
  · rw [List.map_cons, List.map_nil, Lib.join_one, ext_list, List.take_of_length_le]
    rw [List.length_drop, hl]
    exact Nat.le_refl _
  · split
    · rename_i h1 h2
      have h3 := gb_list p i (by omega) h2
      rw [List.map_cons, join_ne _ (by simpa using restP_ne p (i + 1) (i + 1)), join_rest p (i + 1) (i + 1) (Nat.le_refl _), ext_list]
      have h4 : p.data.toList.drop i = 46 :: p.data.toList.drop (i + 1) := by
        have h5 : i < p.data.toList.length := by omega
        rw [List.drop_eq_getElem_cons h5]
        congr 1
        rw [List.getElem?_eq_getElem h5] at h3
        exact Option.some.inj h3
      rw [← h4]
      have h6 : (p.data.toList.drop f).drop (i - f) = p.data.toList.drop i := by rw [List.drop_drop]; congr 1; omega
      rw [← h6, List.take_append_drop]
    · exact join_rest p f (i + 1) (by omega)
termination_by p.size - i
theorem join_parts (p : ByteArray) : joinB (partsD p) = p := by
  refine bytes_inj ?_
  show (Lib.join ((partsD p).map (·.data.toList)) [46]).toArray.toList = _
  rw [partsD_rest, join_rest p 0 0 (Nat.le_refl _)]
  simp
theorem top_self {p : ByteArray} (h : okL p = true) {n : Int} (hn : lenL p ≤ n) : topT p n = p := by
  rw [topT_eq h]
  rw [lenL_eq h] at hn
  rw [List.take_of_length_le (by omega)]
  unfold labsD
  split
  · rename_i h0
    rw [size0 h0]
    rfl
  · rename_i h0
    exact join_parts p

end Go.Proofs.YtcbahkfbdlhabaaGreatDoor
namespace Go.Proofs.YtcbahkfbdlhabaaGreatDoor
set_option linter.unusedVariables false
set_option linter.unusedSimpArgs false
open Go.RowKit

theorem empty_list : (⟨#[]⟩ : ByteArray).toList = [] := by simp [ByteArray.toList, ByteArray.toList.loop, ByteArray.size]
/-- A right key. -/
abbrev KR (x : Ky) : Bool := keyR okL lenL x.k x.l x.hi x.lo x.p
abbrev KC (x : Ky) (n : Int) : Ky := cutK lenL topT x n
theorem kr_bits {x : Ky} (h : KR x = true) (hk : x.k ≠ 3) : (x.k = 1 ∨ x.k = 2) ∧ 0 ≤ x.l ∧ x.l ≤ widthI x.k ∧ x.hi = topH x.hi x.lo x.l ∧ x.lo = topL x.hi x.lo x.l ∧ x.p = ⟨#[]⟩ := by
  unfold KR keyR at h
  split at h
  · rename_i h1
    simp only [Bool.and_eq_true, decide_eq_true_eq] at h
    exact ⟨h1, h.1, h.2.1, by exact_mod_cast h.2.2.1, by exact_mod_cast h.2.2.2.1, bytes_toList_inj (h.2.2.2.2.trans empty_list.symm)⟩
  · first | cases h | (rw [if_neg hk] at h; cases h)
theorem kr_lab {x : Ky} (h : KR x = true) (hk : x.k = 3) : okL x.p = true ∧ x.l = lenL x.p ∧ x.hi = 0 ∧ x.lo = 0 := by
  unfold KR keyR at h
  rw [if_neg (by omega), if_pos hk] at h
  simp only [Bool.and_eq_true, decide_eq_true_eq] at h
  exact ⟨h.1, h.2.1, h.2.2.1, h.2.2.2⟩
theorem kr_l {x : Ky} (h : KR x = true) : 0 ≤ x.l := by
  by_cases hk : x.k = 3
  · have := kr_lab h hk
    rw [this.2.1, lenL_eq this.1]
    omega
  · exact (kr_bits h hk).2.1
theorem top_nest {hi lo : Nat} (h1 : hi < M) (h2 : lo < M) (a b : Int) : topH (topH hi lo a) (topL hi lo a) b = topH hi lo (min a b) ∧ topL (topH hi lo a) (topL hi lo a) b = topL hi lo (min a b) := by
  have hn : hi * M + lo < MM := by
    have e : MM = M * M := MM_MM.symm
    have : (hi + 1) * M ≤ M * M := Nat.mul_le_mul_right _ h1
    rw [Nat.add_mul] at this
    omega
  have e : topH hi lo a * M + topL hi lo a = topN (hi * M + lo) a := halves
  unfold topH topL at e ⊢
  rw [e, topN_top _ _ _ hn]
  exact ⟨rfl, rfl⟩
theorem kc_k (x : Ky) (n : Int) : (KC x n).k = x.k := by
  unfold KC cutK
  dsimp only
  split
  · rename_i h
    rw [h]
  · rfl
theorem kc_l {x : Ky} (h : KR x = true) (n : Int) : (KC x n).l = min (max n 0) x.l := by
  unfold KC cutK
  dsimp only
  split
  · rename_i hk
    have h1 := kr_lab h hk
    show lenL (topT x.p (min (max n 0) x.l)) = _
    rw [top_len h1.1, ← h1.2.1]
    have := kr_l h
    omega
  · rfl
theorem kc_cut {x : Ky} (ho : x.ok) (h : KR x = true) (a b : Int) : KC (KC x a) b = KC x (min (max a 0) (max b 0)) := by
  have h0 := kr_l h
  have hl := kc_l h a
  have hk := kc_k x a
  by_cases h3 : x.k = 3
  · have h1 := kr_lab h h3
    have e : ∀ n, KC x n = ⟨3, lenL (topT x.p (min (max n 0) x.l)), 0, 0, topT x.p (min (max n 0) x.l)⟩ := fun n => by
      unfold KC cutK
      dsimp only
      rw [if_pos h3]
    rw [e a] at hl hk ⊢
    unfold KC cutK
    dsimp only at hl ⊢
    rw [if_pos rfl, if_pos h3, hl, top_top h1.1]
    have e2 : min (min (max a 0) x.l) (min (max b 0) (min (max a 0) x.l)) = min (max (min (max a 0) (max b 0)) 0) x.l := by omega
    rw [e2]
  · have e : ∀ n, KC x n = ⟨x.k, min (max n 0) x.l, topH x.hi x.lo (min (max n 0) x.l), topL x.hi x.lo (min (max n 0) x.l), ⟨#[]⟩⟩ := fun n => by
      unfold KC cutK
      dsimp only
      rw [if_neg h3]
    rw [e a, e (min (max a 0) (max b 0))]
    unfold KC cutK
    dsimp only
    rw [if_neg h3]
    have h5 := top_nest ho.1 ho.2.1 (min (max a 0) x.l) (min (max b 0) (min (max a 0) x.l))
    rw [h5.1, h5.2]
    have e2 : min (min (max a 0) x.l) (min (max b 0) (min (max a 0) x.l)) = min (max (min (max a 0) (max b 0)) 0) x.l := by omega
    have e3 : min (max b 0) (min (max a 0) x.l) = min (max (min (max a 0) (max b 0)) 0) x.l := by omega
    rw [e2, e3]
theorem kc_self {x : Ky} (h : KR x = true) {n : Int} (hn : x.l ≤ n) : KC x n = x := by
  have h0 := kr_l h
  have hm : min (max n 0) x.l = x.l := by omega
  obtain ⟨k, l, hi, lo, p⟩ := x
  unfold KC cutK
  dsimp only at hm ⊢
  rw [hm]
  split
  · rename_i hk
    have h1 := kr_lab h hk
    dsimp only at h1 hk
    obtain ⟨h1, h2, h3, h4⟩ := h1
    subst h3 h4 hk
    rw [top_self h1 (by omega), ← h2]
  · rename_i hk
    have h1 := kr_bits h hk
    dsimp only at h1
    rw [← h1.2.2.2.1, ← h1.2.2.2.2.1, h1.2.2.2.2.2]
theorem kc_right {x : Ky} (ho : x.ok) (h : KR x = true) (n : Int) : KR (KC x n) = true := by
  have h0 := kr_l h
  unfold KC cutK
  dsimp only
  generalize hm : min (max n 0) x.l = m
  have hm0 : 0 ≤ m := by omega
  have hm1 : m ≤ x.l := by omega
  split
  · rename_i hk
    have h1 := kr_lab h hk
    unfold KR keyR
    dsimp only
    rw [if_neg (by decide), if_pos rfl]
    simp [(top_labs h1.1 m).2]
  · rename_i hk
    have h1 := kr_bits h hk
    unfold KR keyR
    rw [if_pos h1.1]
    have h5 := top_nest ho.1 ho.2.1 m m
    rw [show min m m = m by omega] at h5
    simp only [Bool.and_eq_true, decide_eq_true_eq]
    exact ⟨hm0, by omega, by rw [h5.1], by rw [h5.2], empty_list⟩

end Go.Proofs.YtcbahkfbdlhabaaGreatDoor
namespace Go.Proofs.YtcbahkfbdlhabaaGreatDoor
set_option linter.unusedVariables false
set_option linter.unusedSimpArgs false
open Go.RowKit

abbrev OnD (d : Dm) (n : Int) (x : Ky) : Bool := onB okL lenL d n x
abbrev DC (d : Dm) (n : Int) (x : Ky) : Ky := dimCutK okL lenL topT d n x
/-- A level of a dimension. -/
def LevD (d : Dm) (n : Int) : Prop := dimR d.k d.s d.t = true ∧ 0 ≤ n ∧ n ≤ d.depth
theorem lev_len {d : Dm} {n : Int} (h : LevD d n) : d.len n = max 0 (widthI d.k - n * d.t) := by
  unfold Dm.len lenI
  rw [if_neg]
  rintro (h1 | h1 | h1)
  · rw [h.1] at h1
    cases h1
  · exact absurd h1 (by have := h.2.1; omega)
  · exact absurd h1 (by have := h.2.2; unfold Dm.depth at this; omega)
theorem lev_of {d : Dm} {n : Int} (h : ¬ d.len n < 0) : LevD d n := by
  unfold Dm.len lenI at h
  split at h
  · exact absurd (by omega : (-1 : Int) < 0) h
  · rename_i h1
    have h2 : dimR d.k d.s d.t ≠ false := fun e => h1 (.inl e)
    exact ⟨by simpa using h2, by omega, by unfold Dm.depth; omega⟩
theorem len_nn {d : Dm} {n : Int} (h : LevD d n) : 0 ≤ d.len n := by
  rw [lev_len h]
  omega
theorem len_anti {d : Dm} {a b : Int} (ha : LevD d a) (hb : LevD d b) (h : a ≤ b) : d.len b ≤ d.len a := by
  rw [lev_len ha, lev_len hb]
  have h1 : a * d.t ≤ b * d.t := by
    have ht : 0 ≤ d.t := by
      have := ha.1
      unfold dimR at this
      simp only [Bool.and_eq_true, decide_eq_true_eq] at this
      omega
    exact Int.mul_le_mul_of_nonneg_right h ht
  omega
/-- What a key on a level is. -/
theorem on_iff {d : Dm} {n : Int} {x : Ky} : OnD d n x = true ↔ LevD d n ∧ x.k = d.k ∧ KR x = true ∧ x.l ≤ d.len n ∧ (x.k ≠ 3 → x.l = d.len n) := by
  unfold OnD onB
  simp only [Bool.and_eq_true, Bool.not_eq_true', decide_eq_false_iff_not, beq_iff_eq, Bool.or_eq_true, decide_eq_true_eq]
  constructor
  · rintro ⟨⟨⟨h1, h2⟩, h3⟩, h4⟩
    exact ⟨lev_of h1, h2, h3, by omega, fun h5 => by rcases h4 with h4 | h4; exact h4; exact absurd h4.1 h5⟩
  · rintro ⟨h1, h2, h3, h4, h5⟩
    refine ⟨⟨⟨by have := len_nn h1; omega, h2⟩, h3⟩, ?_⟩
    by_cases h6 : x.k = 3
    · rcases Int.lt_or_eq_of_le h4 with h7 | h7
      · exact .inr ⟨h6, h7⟩
      · exact .inl h7
    · exact .inl (h5 h6)
theorem dc_eq {d : Dm} {a : Int} {x : Ky} (ha : LevD d a) (hk : x.k = d.k) (hr : KR x = true) : DC d a x = KC x (d.len a) := by
  unfold DC dimCutK
  rw [if_neg (by have := len_nn ha; omega)]
  unfold CutK
  rw [if_pos hr]
theorem dc_on {d : Dm} {a b : Int} {x : Ky} (ho : x.ok) (h : OnD d b x = true) (ha : LevD d a) (hab : b ≤ a) : OnD d a (DC d a x) = true := by
  obtain ⟨h1, h2, h3, h4, h5⟩ := on_iff.1 h
  rw [dc_eq ha h2 h3]
  have hl := kc_l h3 (d.len a)
  have hk := kc_k x (d.len a)
  have hn := len_nn ha
  have hm := len_anti h1 ha hab
  refine on_iff.2 ⟨ha, hk.trans h2, kc_right ho h3 _, by omega, fun h6 => ?_⟩
  rw [hk] at h6
  have := h5 h6
  omega
theorem dc_self {d : Dm} {b : Int} {x : Ky} (h : OnD d b x = true) : DC d b x = x := by
  obtain ⟨h1, h2, h3, h4, h5⟩ := on_iff.1 h
  rw [dc_eq h1 h2 h3, kc_self h3 h4]
theorem dc_dc {d : Dm} {a b c : Int} {x : Ky} (ho : x.ok) (h : OnD d b x = true) (ha : LevD d a) (hc : LevD d c) (hab : b ≤ a) (hac : a ≤ c) : DC d c (DC d a x) = DC d c x := by
  obtain ⟨h1, h2, h3, h4, h5⟩ := on_iff.1 h
  have h6 := on_iff.1 (dc_on ho h ha hab)
  rw [dc_eq hc h6.2.1 h6.2.2.1, dc_eq ha h2 h3, dc_eq hc h2 h3, kc_cut ho h3]
  have hn := len_nn ha
  have hn2 := len_nn hc
  have hm := len_anti ha hc hac
  congr 1
  omega

theorem same_iff {p q : Px} : p.same q = true ↔ p = q := Px.same_iff
/-- Right, by its parts. -/
theorem right_iff {s : Sp} {p : Px} : RB s p = true ↔ soundB s = true ∧ OnD s.d0 p.a0 p.k0 = true ∧ (s.n = 1 → p.a1 = 0 ∧ p.k1 = ky0) ∧ (s.n ≠ 1 → OnD s.d1 p.a1 p.k1 = true) := by
  unfold RB rightB
  simp only [Bool.and_eq_true]
  by_cases h1 : s.n = 1
  · rw [if_pos h1]
    simp only [Bool.and_eq_true, beq_iff_eq, decide_eq_true_eq]
    constructor
    · rintro ⟨h2, h3, h4, h5, h6, h7, h8, h9⟩
      refine ⟨h2, h3, fun _ => ⟨h4, ?_⟩, fun h => absurd h1 h⟩
      obtain ⟨a0, a1, k0, ⟨k, l, hi, lo, q⟩⟩ := p
      dsimp only at h5 h6 h7 h8 h9
      subst h5 h6
      have e7 : hi = 0 := by omega
      have e8 : lo = 0 := by omega
      have e9 : q = ⟨#[]⟩ := bytes_toList_inj (h9.trans empty_list.symm)
      subst e7 e8 e9
      rfl
    · rintro ⟨h2, h3, h4, _⟩
      obtain ⟨h5, h6⟩ := h4 h1
      refine ⟨h2, h3, h5, ?_⟩
      rw [h6]
      exact ⟨rfl, rfl, rfl, rfl, empty_list⟩
  · rw [if_neg h1]
    constructor
    · rintro ⟨h2, h3, h4⟩
      exact ⟨h2, h3, fun h => absurd h h1, fun _ => h4⟩
    · rintro ⟨h2, h3, _, h4⟩
      exact ⟨h2, h3, h4 h1⟩
theorem sound_d1 {s : Sp} (h : soundB s = true) (hn : s.n = 1) : s.d1 = ⟨0, 0, 0⟩ := by
  unfold soundB at h
  rw [if_pos hn] at h
  simp only [Bool.and_eq_true, decide_eq_true_eq] at h
  obtain ⟨n, d0, ⟨k, s1, t⟩⟩ := s
  obtain ⟨_, h1, h2, h3⟩ := h
  dsimp only at h1 h2 h3
  subst h1 h2 h3
  rfl
theorem dc_zero (n : Int) (x : Ky) : DC ⟨0, 0, 0⟩ n x = ky0 := by
  unfold DC dimCutK
  rw [if_pos]
  left
  unfold Dm.len lenI
  rw [if_pos (.inl (by decide))]
  decide
/-- Levels of a space. -/
def LevS (s : Sp) (b0 b1 : Int) : Prop := LevD s.d0 b0 ∧ (s.n = 1 → b1 = 0) ∧ (s.n ≠ 1 → LevD s.d1 b1)
/-- A prefix cut to a node above it. -/
def atP (s : Sp) (q : Px) (b0 b1 : Int) : Px := ⟨b0, b1, DC s.d0 b0 q.k0, DC s.d1 b1 q.k1⟩
theorem at_right {s : Sp} {q : Px} {b0 b1 : Int} (ho : q.ok) (h : RB s q = true) (hb : LevS s b0 b1) (h0 : q.a0 ≤ b0) (h1 : q.a1 ≤ b1) : RB s (atP s q b0 b1) = true := by
  obtain ⟨h2, h3, h4, h5⟩ := right_iff.1 h
  refine right_iff.2 ⟨h2, dc_on ho.1 h3 hb.1 h0, fun hn => ⟨hb.2.1 hn, ?_⟩, fun hn => dc_on ho.2 (h5 hn) (hb.2.2 hn) h1⟩
  show DC s.d1 b1 q.k1 = ky0
  rw [sound_d1 h2 hn, dc_zero]
theorem right_levS {s : Sp} {q : Px} (h : RB s q = true) : LevS s q.a0 q.a1 := by
  obtain ⟨h2, h3, h4, h5⟩ := right_iff.1 h
  exact ⟨(on_iff.1 h3).1, fun hn => (h4 hn).1, fun hn => (on_iff.1 (h5 hn)).1⟩
theorem at_self {s : Sp} {q : Px} (h : RB s q = true) : atP s q q.a0 q.a1 = q := by
  obtain ⟨h2, h3, h4, h5⟩ := right_iff.1 h
  unfold atP
  rw [dc_self h3]
  by_cases hn : s.n = 1
  · rw [sound_d1 h2 hn, dc_zero, ← (h4 hn).2]
  · rw [dc_self (h5 hn)]
theorem at_at {s : Sp} {q : Px} {b0 b1 c0 c1 : Int} (ho : q.ok) (h : RB s q = true) (hb : LevS s b0 b1) (hc : LevS s c0 c1) (h0 : q.a0 ≤ b0) (h1 : q.a1 ≤ b1) (h2 : b0 ≤ c0) (h3 : b1 ≤ c1) : atP s (atP s q b0 b1) c0 c1 = atP s q c0 c1 := by
  obtain ⟨h4, h5, h6, h7⟩ := right_iff.1 h
  unfold atP
  dsimp only
  rw [dc_dc ho.1 h5 hb.1 hc.1 h0 h2]
  by_cases hn : s.n = 1
  · rw [sound_d1 h4 hn, dc_zero, dc_zero]
  · rw [dc_dc ho.2 (h7 hn) (hb.2.2 hn) (hc.2.2 hn) h1 h3]
theorem up_at {s : Sp} {q : Px} {b0 b1 : Int} (ho : q.ok) (h : RB s q = true) (hb : LevS s b0 b1) (h0 : q.a0 ≤ b0) (h1 : q.a1 ≤ b1) : upX okL lenL topT s q b0 b1 = atP s q b0 b1 := by
  unfold upX
  have h9 : rightB okL lenL s q = true := h
  rw [if_pos (by simp [h9]; omega)]
  unfold orX
  rw [if_pos]
  · rfl
  · exact at_right ho h hb h0 h1
/-- Over, by its parts. -/
theorem over_iff {s : Sp} {p q : Px} (ho : q.ok) : OB s p q = true ↔ RB s p = true ∧ RB s q = true ∧ q.a0 ≤ p.a0 ∧ q.a1 ≤ p.a1 ∧ p = atP s q p.a0 p.a1 := by
  unfold OB overB
  simp only [Bool.and_eq_true, decide_eq_true_eq, ge_iff_le]
  constructor
  · rintro ⟨h1, h2, h3, h4, h5⟩
    rw [up_at ho h2 (right_levS h1) h3 h4] at h5
    exact ⟨h1, h2, h3, h4, same_iff.1 h5⟩
  · rintro ⟨h1, h2, h3, h4, h5⟩
    refine ⟨h1, h2, h3, h4, ?_⟩
    rw [up_at ho h2 (right_levS h1) h3 h4]
    exact same_iff.2 h5
theorem over_self {s : Sp} {q : Px} (ho : q.ok) (h : RB s q = true) : OB s q q = true := (over_iff ho).2 ⟨h, h, Int.le_refl _, Int.le_refl _, (at_self h).symm⟩

end Go.Proofs.YtcbahkfbdlhabaaGreatDoor
namespace Go.Proofs.YtcbahkfbdlhabaaGreatDoor
set_option linter.unusedVariables false
set_option linter.unusedSimpArgs false
open Go.RowKit

theorem kr_mk {k l : Int} {hi lo : Nat} {p : ByteArray} (hk : k ≠ 3) : KR ⟨k, l, hi, lo, p⟩ = true ↔ (widthI k ≠ 0 ∧ 0 ≤ l ∧ l ≤ widthI k ∧ p.toList = []) ∧ hi = topH hi lo l ∧ lo = topL hi lo l := by
  show keyR okL lenL k l hi lo p = true ↔ _
  unfold keyR
  by_cases h : k = 1 ∨ k = 2
  · rw [if_pos h]
    have hw : widthI k ≠ 0 := by rcases h with rfl | rfl <;> decide
    simp only [Bool.and_eq_true, decide_eq_true_eq]
    constructor
    · rintro ⟨a, b, c, d, e⟩
      exact ⟨⟨hw, a, b, e⟩, by exact_mod_cast c, by exact_mod_cast d⟩
    · rintro ⟨⟨_, a, b, e⟩, c, d⟩
      exact ⟨a, b, by exact_mod_cast c, by exact_mod_cast d, e⟩
  · rw [if_neg h, if_neg hk]
    constructor
    · intro h; cases h
    · rintro ⟨⟨h1, _⟩, _⟩
      refine absurd ?_ h1
      unfold widthI
      rw [if_neg (fun e => h (.inl e)), if_neg (fun e => h (.inr e)), if_neg hk]
theorem kr_mk3 {l : Int} {hi lo : Nat} {p : ByteArray} : KR ⟨3, l, hi, lo, p⟩ = true ↔ okL p = true ∧ l = lenL p ∧ hi = 0 ∧ lo = 0 := by
  show keyR okL lenL 3 l hi lo p = true ↔ _
  unfold keyR
  rw [if_neg (by decide), if_pos rfl]
  simp only [Bool.and_eq_true, decide_eq_true_eq]
/-- The letters of a key. -/
structure LetK (x : Ky) (n : Nat) (ls : List ByteArray) : Prop where
  l : x.l = (n : Int)
  go : ∀ w, Calls Tryz.prog 54 #[x.v] w fun e w' => ∃ v r, e = .returned (.tuple #[v, .bool true]) ∧ SlR 9 1 true v n (srow ls) r ∧ Hp w w' r
  of : ∀ m : Nat, m ≤ n → OfC x.k ls m (KC x (m : Int)).v
theorem letK_bad {x : Ky} (ho : x.ok) (h : KR x = false) : Gives 54 #[x.v] (.tuple #[.slice none 0 0, .bool false]) := by
  obtain ⟨k, l, hi, lo, p⟩ := x
  obtain ⟨o1, o2, o3⟩ := ho
  dsimp only at o1 o2 o3
  by_cases hk : k = 3
  · subst hk
    cases hok : okL p with
    | false => exact fun w => refLetters3_bad l hi lo p (refSplit_bad p (by omega) hok) w
    | true =>
      refine fun w => refLetters3_no l hi lo p _ _ (refSplit_good p (by omega) hok) ?_ w
      rintro ⟨a, b, c⟩
      have h1 : KR ⟨3, l, hi, lo, p⟩ = true := kr_mk3.2 ⟨hok, by rw [lenL_eq hok]; exact a, b, c⟩
      rw [h1] at h
      cases h
  · by_cases hb : widthI k ≠ 0 ∧ 0 ≤ l ∧ l ≤ widthI k ∧ p.toList = []
    · intro w
      obtain ⟨L, hL⟩ := Int.eq_ofNat_of_zero_le hb.2.1
      refine (refLetters_bits k l hi lo p (widthI k) L o1 o2 hk (refWidth_gives k) hb.1 (widthI_le k).2 hL hb.2.2.1 hb.2.2.2 w).mono ?_
      rintro e w' (⟨h1, _⟩ | ⟨_, h2, h3⟩)
      · have h4 := (topHL_same l o2).1 h1
        rw [(kr_mk (p := p) hk).2 ⟨hb, h4⟩] at h
        cases h
      · exact ⟨h2, h3⟩
    · exact fun w => refLetters_bad k l hi lo p (widthI k) hk (refWidth_gives k) hb w
theorem gs_take {ls : List ByteArray} {m k : Nat} (h : k < m) : gs (ls.take m) k = gs ls k := by
  unfold gs
  simp [List.getD_eq_getElem?_getD, List.getElem?_take, h]
theorem kc3 {l : Int} {p : ByteArray} (h : okL p = true) (hl : l = lenL p) (m : Nat) (hm : m ≤ (labsD p).length) : KC ⟨3, l, 0, 0, p⟩ (m : Int) = ⟨3, (m : Int), 0, 0, joinB ((labsD p).take m)⟩ := by
  have h1 := lenL_eq h
  show cutK lenL topT ⟨3, l, 0, 0, p⟩ (m : Int) = _
  unfold cutK
  dsimp only
  rw [if_pos rfl]
  have e : min (max (m : Int) 0) l = (m : Int) := by omega
  rw [e, top_len h, topT_eq h, h1]
  congr 1
  · omega
theorem kcb {k l : Int} {hi lo : Nat} {p : ByteArray} (hk : k ≠ 3) (m : Nat) (hm : (m : Int) ≤ l) : KC ⟨k, l, hi, lo, p⟩ (m : Int) = ⟨k, (m : Int), topH hi lo (m : Int), topL hi lo (m : Int), ⟨#[]⟩⟩ := by
  show cutK lenL topT ⟨k, l, hi, lo, p⟩ (m : Int) = _
  unfold cutK
  dsimp only
  rw [if_neg hk]
  have e : min (max (m : Int) 0) l = (m : Int) := by omega
  rw [e]
theorem of3 {p : ByteArray} (h : okL p = true) (m : Nat) (hm : m ≤ (labsD p).length) : OfC 3 (labsD p) m (.agg #[.int .i64 3, .int .i64 (m : Int), .int .u64 ((0 : Nat) : Int), .int .u64 ((0 : Nat) : Int), .string (joinB ((labsD p).take m))]) := by
  obtain ⟨h8, hl⟩ := labsD_ok h
  have ht : ((labsD p).take m).length = m := by
    rw [List.length_take]
    omega
  refine ⟨fun e a c w => ?_, fun g cap row w hv HH => ?_⟩
  · subst e
    exact refOf3_nil a c w
  · have h2 := refOf3_row ((labsD p).take m) row g cap (fun w2 H2 => ?_) w HH
    · rw [ht] at h2
      exact h2
    · have hz : ∀ x ∈ (labsD p).take m, x.size ≤ 16 := fun x hx => labB_size (hl x (List.mem_of_mem_take hx))
      refine refJoin_walk ((labsD p).take m) row g cap (by omega) (fun k hk => ?_) (fun k hk => ?_) (fun k hk => ?_) w2 H2
      · have := joinB_size (((labsD p).take m).take k) fun x hx => hz x (List.mem_of_mem_take hx)
        rw [List.length_take] at this
        omega
      · have : gs ((labsD p).take m) k ∈ (labsD p).take m := by
          unfold gs
          rw [List.getD_eq_getElem?_getD, List.getElem?_eq_getElem hk]
          exact List.getElem_mem hk
        have := hz _ this
        omega
      · rw [gs_take (by omega)]
        exact hv k (by omega)
theorem ofB (k : Int) (hk : k ≠ 3) (m : Nat) (hm : m ≤ 128) (A B : Nat → Nat) (f : Nat → Bool) (hA : A 0 = 0) (hB : B 0 = 0) (hlo : ∀ i, i < 64 → A (i + 1) = A i + (if f i then 2 ^ (63 - i) else 0) ∧ B (i + 1) = B i) (hhi : ∀ i, 64 ≤ i → i < 128 → A (i + 1) = A i ∧ B (i + 1) = B i + (if f i then 2 ^ (127 - i) else 0)) (hM : ∀ i, A i < M ∧ B i < M) (ls : List ByteArray) (hls : ∀ j, j < m → gs ls j = if f j then ⟨#[49]⟩ else ⟨#[48]⟩) : OfC k ls m (.agg #[.int .i64 k, .int .i64 (m : Int), .int .u64 (A m : Int), .int .u64 (B m : Int), .string ⟨#[]⟩]) :=
  ⟨fun e a c w => by
    have h := refOf_nil k a c hk w
    rw [e, hA, hB]
    exact h, fun g cap row w hv HH => refOf_bits k m row g cap hk hm A B f hA hB hlo hhi hM (fun j hj => by rw [hv j hj, hls j hj]) w HH⟩
theorem gs_map (g : Nat → ByteArray) {L j : Nat} (h : j < L) : gs ((List.range L).map g) j = g j := by
  unfold gs
  rw [List.getD_eq_getElem?_getD, List.getElem?_eq_getElem (by simp <;> omega)]
  simp
theorem letB {k : Int} {hi lo : Nat} {p : ByteArray} {L : Nat} (hk : k ≠ 3) (o1 : hi < M) (o2 : lo < M) (hL : (L : Int) ≤ 128) : ∀ m : Nat, m ≤ L → OfC k ((List.range L).map (bitL hi lo)) m (KC ⟨k, (L : Int), hi, lo, p⟩ (m : Int)).v := by
  intro m hm
  rw [kcb hk m (by omega)]
  obtain ⟨A, hA⟩ : ∃ A : Nat → Nat, ∀ i : Nat, A i = topH hi lo (i : Int) := ⟨fun i => topH hi lo (i : Int), fun _ => rfl⟩
  obtain ⟨B, hB⟩ : ∃ B : Nat → Nat, ∀ i : Nat, B i = topL hi lo (i : Int) := ⟨fun i => topL hi lo (i : Int), fun _ => rfl⟩
  obtain ⟨f, hf⟩ : ∃ f : Nat → Bool, ∀ i : Nat, f i = bitV hi lo i := ⟨fun i => bitV hi lo i, fun _ => rfl⟩
  have hlo : ∀ i, i < 64 → A (i + 1) = A i + (if f i then 2 ^ (63 - i) else 0) ∧ B (i + 1) = B i := fun i h => by
    rw [hA, hA, hB, hB, hf]
    exact topHL_lo hi lo i o1 o2 h
  have hhi : ∀ i, 64 ≤ i → i < 128 → A (i + 1) = A i ∧ B (i + 1) = B i + (if f i then 2 ^ (127 - i) else 0) := fun i h h2 => by
    rw [hA, hA, hB, hB, hf]
    exact topHL_hi hi lo i o1 o2 h h2
  have hM : ∀ i, A i < M ∧ B i < M := fun i => by
    rw [hA, hB]
    exact top_halves hi lo i
  have hA0 : A 0 = 0 := (hA 0).trans (topH_zero hi lo)
  have hB0 : B 0 = 0 := (hB 0).trans (topL_zero hi lo)
  have hls : ∀ j, j < m → gs ((List.range L).map (bitL hi lo)) j = if f j then ⟨#[49]⟩ else ⟨#[48]⟩ := fun j hj => by
    rw [gs_map (bitL hi lo) (by omega), hf]
    rfl
  rw [← hA, ← hB]
  generalize (List.range L).map (bitL hi lo) = ls at *
  clear hA hB hf
  exact ofB k hk m (by omega) A B f hA0 hB0 hlo hhi hM ls hls
theorem letK_ok {x : Ky} (ho : x.ok) (h : KR x = true) : ∃ n ls, LetK x n ls := by
  obtain ⟨k, l, hi, lo, p⟩ := x
  obtain ⟨o1, o2, o3⟩ := ho
  dsimp only at o1 o2 o3
  by_cases hk : k = 3
  · subst hk
    obtain ⟨h1, h2, h3, h4⟩ := kr_mk3.1 h
    subst h3 h4
    have h5 := lenL_eq h1
    have hl : l = ((labsD p).length : Int) := h2.trans h5
    refine ⟨(labsD p).length, labsD p, hl, ?_, fun m hm => ?_⟩
    · subst hl
      exact fun w => refLetters3_yes p _ _ (refSplit_good p (by omega) h1) w
    · rw [kc3 h1 h2 m hm]
      exact of3 h1 m hm
  · obtain ⟨hb, h1, h2⟩ := (kr_mk hk).1 h
    have hwd := (widthI_le k).2
    obtain ⟨L, hL⟩ := Int.eq_ofNat_of_zero_le hb.2.1
    have hw3 := hb.2.2.1
    refine ⟨L, (List.range L).map (bitL hi lo), hL, fun w => ?_, ?_⟩
    · refine (refLetters_bits k l hi lo p (widthI k) L o1 o2 hk (refWidth_gives k) hb.1 hwd hL hb.2.2.1 hb.2.2.2 w).mono ?_
      rintro e w' (⟨_, h3⟩ | ⟨h3, _⟩)
      · exact h3
      · exact absurd ((topHL_same l o2).2 ⟨h1, h2⟩) h3
    · subst hL
      exact letB hk o1 o2 (by omega)

theorem rright_gives {x : Ky} (ho : x.ok) : Gives 40 #[x.v] (.bool (KR x)) := by
  cases h : KR x with
  | false => exact fun w => refRight_no x.k x.l x.hi x.lo x.p (letK_bad ho h) w
  | true =>
    obtain ⟨n, ls, hl⟩ := letK_ok ho h
    exact fun w => refRight_yes x.k x.l x.hi x.lo x.p n ls hl.go w
theorem kc_at {x : Ky} {a b : Int} (h : min (max a 0) x.l = min (max b 0) x.l) : KC x a = KC x b := by
  show cutK lenL topT x a = cutK lenL topT x b
  unfold cutK
  dsimp only
  rw [h]
theorem rcut_gives {x : Ky} (ho : x.ok) (n : Int) : Gives 41 #[x.v, .int .i64 n] (CutK okL lenL topT x n).v := by
  unfold CutK
  cases h : KR x with
  | false =>
    rw [if_neg (by simp [h])]
    exact fun w => refCut_no x.k x.l x.hi x.lo x.p n (letK_bad ho h) w
  | true =>
    rw [if_pos (by simp [h])]
    obtain ⟨N, ls, hl⟩ := letK_ok ho h
    have e := hl.l
    by_cases h1 : n < 0
    · rw [show cutK lenL topT x n = KC x ((0 : Nat) : Int) from kc_at (by omega)]
      exact fun w => refCut_neg x.k x.l x.hi x.lo x.p n N ls hl.go _ _ _ _ _ h1 (hl.of 0 (Nat.zero_le _)) w
    · by_cases h2 : (N : Int) < n
      · rw [show cutK lenL topT x n = KC x (N : Int) from kc_at (by omega)]
        exact fun w => refCut_big x.k x.l x.hi x.lo x.p n N ls hl.go _ _ _ _ _ h2 (hl.of N (Nat.le_refl _)) w
      · obtain ⟨m, rfl⟩ := Int.eq_ofNat_of_zero_le (show 0 ≤ n by omega)
        exact fun w => refCut_mid x.k x.l x.hi x.lo x.p m N ls hl.go _ _ _ _ _ (by omega) (hl.of m (by omega)) w

theorem ron_gives (d : Dm) (a : Int) {x : Ky} (ho : x.ok) : Gives 38 #[d.v, .int .i64 a, x.v] (.bool (OnD d a x)) := fun w => by
  refine (refOn8 d.k d.s d.t a x.k x.l x.hi x.lo x.p _ (refLen8_gives d.k d.s d.t a) _ (rright_gives ho) w).mono ?_
  rintro e w' ⟨rfl, h⟩
  refine ⟨?_, h⟩
  congr 2
  show _ = onB okL lenL d a x
  unfold onB Dm.len
  rw [Bool.eq_iff_iff]
  by_cases h3 : x.k = 3
  · rw [if_pos h3]
    simp only [Bool.and_eq_true, Bool.or_eq_true, Bool.not_eq_true', decide_eq_false_iff_not, decide_eq_true_eq, beq_iff_eq]
    constructor
    · rintro ⟨⟨a1, a2, a3⟩, a4⟩
      exact ⟨⟨⟨a1, a3⟩, a2⟩, by omega⟩
    · rintro ⟨⟨⟨a1, a3⟩, a2⟩, a4⟩
      exact ⟨⟨a1, a2, a3⟩, by omega⟩
  · rw [if_neg h3]
    simp only [Bool.and_eq_true, Bool.or_eq_true, Bool.not_eq_true', decide_eq_false_iff_not, decide_eq_true_eq, beq_iff_eq]
    constructor
    · rintro ⟨⟨a1, a2, a3⟩, a4⟩
      exact ⟨⟨⟨a1, a3⟩, a2⟩, .inl a4⟩
    · rintro ⟨⟨⟨a1, a3⟩, a2⟩, a4⟩
      exact ⟨⟨a1, a2, a3⟩, by omega⟩
theorem rdc_gives (d : Dm) (a : Int) {x : Ky} (ho : x.ok) : Gives 29 #[d.v, .int .i64 a, x.v] (DC d a x).v := fun w => by
  refine (refCut8 d.k d.s d.t a x.k x.l x.hi x.lo x.p _ (refLen8_gives d.k d.s d.t a) _ (rright_gives ho) _ _ _ _ _ (rcut_gives ho _) w).mono ?_
  rintro e w' ⟨rfl, h⟩
  refine ⟨?_, h⟩
  congr 1
  show _ = (dimCutK okL lenL topT d a x).v
  unfold dimCutK
  by_cases h1 : d.len a < 0 ∨ x.k ≠ d.k
  · rw [if_pos h1, if_neg]
    simp only [Bool.and_eq_true, Bool.not_eq_true', decide_eq_false_iff_not, beq_iff_eq]
    rintro ⟨a1, a2, a3⟩
    rcases h1 with h1 | h1
    · exact a1 h1
    · exact h1 a3
  · rw [if_neg h1]
    have h2 : ¬ d.len a < 0 := fun e => h1 (.inl e)
    have h3 : x.k = d.k := Classical.byContradiction fun e => h1 (.inr e)
    cases hr : KR x with
    | true =>
      rw [if_pos]
      · rfl
      · simp only [Bool.and_eq_true, Bool.not_eq_true', decide_eq_false_iff_not, beq_iff_eq]
        exact ⟨h2, trivial, h3⟩
    | false =>
      rw [if_neg (by simp)]
      unfold CutK
      rw [if_neg (by simp [hr])]
theorem rsound_gives (s : Sp) : Gives 37 #[s.v] (.bool (soundB s)) := fun w => by
  refine (refSound_walk s.n s.d0.k s.d0.s s.d0.t s.d1.k s.d1.s s.d1.t _ (refRight8_gives s.d0.k s.d0.s s.d0.t) _ (refRight8_gives s.d1.k s.d1.s s.d1.t) w).mono ?_
  rintro e w' ⟨rfl, h⟩
  refine ⟨?_, h⟩
  congr 2
  unfold soundB
  by_cases h1 : s.n = 1
  · rw [if_pos h1, if_pos h1]
    rfl
  · rw [if_neg h1, if_neg h1]
    by_cases h2 : s.n = 2
    · rw [if_pos h2, decide_eq_true h2]
      rfl
    · rw [if_neg h2, decide_eq_false h2]
      rfl
theorem rrb_gives (s : Sp) {p : Px} (ho : p.ok) : Gives 28 #[s.v, p.v] (.bool (RB s p)) := fun w => by
  have h0 := rsound_gives s
  have h1 := ron_gives s.d0 p.a0 ho.1
  have h2 := ron_gives s.d1 p.a1 ho.2
  show Calls _ _ _ _ fun e w' => e = .returned (.bool (rightB okL lenL s p)) ∧ _
  unfold rightB
  obtain ⟨n, ⟨k0, s0, t0⟩, ⟨k1, s1, t1⟩⟩ := s
  by_cases n1 : n = 1
  · subst n1
    refine (refRight1 k0 s0 t0 k1 s1 t1 p.a0 p.a1 _ _ _ _ _ _ _ _ _ _ _ h0 _ h1 _ h2 w).mono ?_
    rintro e w' ⟨rfl, h⟩
    exact ⟨rfl, h⟩
  · by_cases n2 : n = 2
    · subst n2
      refine (refRight2 k0 s0 t0 k1 s1 t1 p.a0 p.a1 _ _ _ _ _ _ _ _ _ _ _ h0 _ h1 _ h2 w).mono ?_
      rintro e w' ⟨rfl, h⟩
      exact ⟨rfl, h⟩
    · have e : soundB ⟨n, ⟨k0, s0, t0⟩, ⟨k1, s1, t1⟩⟩ = false := by
        unfold soundB
        rw [if_neg n1, if_neg n2]
      rw [e] at h0 ⊢
      exact refRight0 n k0 s0 t0 k1 s1 t1 p.a0 p.a1 _ _ _ _ _ _ _ _ _ _ h0 w
theorem sameK_iff {x y : Ky} : sameK x.k x.l (x.hi : Int) (x.lo : Int) x.p y.k y.l (y.hi : Int) (y.lo : Int) y.p = true ↔ x = y := by
  unfold sameK
  simp only [Bool.and_eq_true, beq_iff_eq]
  constructor
  · rintro ⟨a, b, c, d, e⟩
    obtain ⟨k, l, hi, lo, p⟩ := x
    obtain ⟨k', l', hi', lo', p'⟩ := y
    dsimp only at a b c d e
    have c : hi = hi' := by omega
    have d : lo = lo' := by omega
    have e := bytes_toList_inj e
    subst a b c d e
    rfl
  · rintro rfl
    exact ⟨rfl, rfl, rfl, rfl, rfl⟩
/-- The document's Over is the program's. -/
theorem rob_gives (s : Sp) {p q : Px} (hp : p.ok) (hq : q.ok) : Gives 20 #[s.v, p.v, q.v] (.bool (OB s p q)) := fun w => by
  have h0 := rrb_gives s hp
  have h1 := rrb_gives s hq
  have hov := over_iff (s := s) (p := p) hq
  by_cases hb : (RB s p && RB s q) = false
  · have e : OB s p q = false := by
      cases ho : OB s p q with
      | false => rfl
      | true =>
        have := hov.1 ho
        rw [this.1, this.2.1] at hb
        cases hb
    rw [e]
    exact refOver0 s.n s.d0.k s.d0.s s.d0.t s.d1.k s.d1.s s.d1.t p.a0 p.a1 _ _ _ _ _ _ _ _ _ _ q.a0 q.a1 _ _ _ _ _ _ _ _ _ _ _ _ hb h0 h1 w
  · simp only [Bool.not_eq_false, Bool.and_eq_true] at hb
    obtain ⟨b0, b1⟩ := hb
    rw [b0] at h0
    rw [b1] at h1
    have hc0 := rdc_gives s.d0 p.a0 hq.1
    have hc1 := rdc_gives s.d1 p.a1 hq.2
    have r0 := right_iff.1 b0
    have r1 := right_iff.1 b1
    have hn : s.n = 1 ∨ s.n = 2 := by
      have h2 := r0.1
      unfold soundB at h2
      split at h2
      · exact .inl (by assumption)
      · split at h2
        · exact .inr (by assumption)
        · cases h2
    rcases hn with hn | hn
    · have h3 := r0.2.2.1 hn
      have h4 := r1.2.2.1 hn
      have h5 : OB s p q = ((!decide (p.a0 < q.a0)) && sameK p.k0.k p.k0.l (p.k0.hi : Int) (p.k0.lo : Int) p.k0.p (DC s.d0 p.a0 q.k0).k (DC s.d0 p.a0 q.k0).l ((DC s.d0 p.a0 q.k0).hi : Int) ((DC s.d0 p.a0 q.k0).lo : Int) (DC s.d0 p.a0 q.k0).p) := by
        rw [Bool.eq_iff_iff, hov, Bool.and_eq_true, sameK_iff, Bool.not_eq_true', decide_eq_false_iff_not]
        constructor
        · rintro ⟨_, _, a1, a2, a3⟩
          refine ⟨by omega, ?_⟩
          rw [a3]
          rfl
        · rintro ⟨a1, a2⟩
          refine ⟨b0, b1, by omega, by omega, ?_⟩
          unfold atP
          rw [← a2, sound_d1 r0.1 hn, dc_zero]
          obtain ⟨a0, a1', k0, k1⟩ := p
          dsimp only at h3
          rw [h3.2]
      rw [h5]
      obtain ⟨n, ⟨k0, s0, t0⟩, ⟨k1, s1, t1⟩⟩ := s
      dsimp only at hn
      subst hn
      exact refOver1 k0 s0 t0 k1 s1 t1 p.a0 p.a1 _ _ _ _ _ _ _ _ _ _ q.a0 q.a1 _ _ _ _ _ _ _ _ _ _ h0 h1 _ _ _ _ _ hc0 w
    · have hn1 : s.n ≠ 1 := by omega
      have h5 : OB s p q = (((!decide (p.a0 < q.a0)) && sameK p.k0.k p.k0.l (p.k0.hi : Int) (p.k0.lo : Int) p.k0.p (DC s.d0 p.a0 q.k0).k (DC s.d0 p.a0 q.k0).l ((DC s.d0 p.a0 q.k0).hi : Int) ((DC s.d0 p.a0 q.k0).lo : Int) (DC s.d0 p.a0 q.k0).p) && ((!decide (p.a1 < q.a1)) && sameK p.k1.k p.k1.l (p.k1.hi : Int) (p.k1.lo : Int) p.k1.p (DC s.d1 p.a1 q.k1).k (DC s.d1 p.a1 q.k1).l ((DC s.d1 p.a1 q.k1).hi : Int) ((DC s.d1 p.a1 q.k1).lo : Int) (DC s.d1 p.a1 q.k1).p)) := by
        rw [Bool.eq_iff_iff, hov, Bool.and_eq_true, Bool.and_eq_true, Bool.and_eq_true, sameK_iff, sameK_iff, Bool.not_eq_true', decide_eq_false_iff_not, Bool.not_eq_true', decide_eq_false_iff_not]
        constructor
        · rintro ⟨_, _, a1, a2, a3⟩
          refine ⟨⟨by omega, ?_⟩, by omega, ?_⟩
          · rw [a3]
            rfl
          · rw [a3]
            rfl
        · rintro ⟨⟨a1, a2⟩, a3, a4⟩
          refine ⟨b0, b1, by omega, by omega, ?_⟩
          unfold atP
          rw [← a2, ← a4]
      rw [h5]
      obtain ⟨n, ⟨k0, s0, t0⟩, ⟨k1, s1, t1⟩⟩ := s
      dsimp only at hn
      subst hn
      exact refOver2 k0 s0 t0 k1 s1 t1 p.a0 p.a1 _ _ _ _ _ _ _ _ _ _ q.a0 q.a1 _ _ _ _ _ _ _ _ _ _ h0 h1 _ _ _ _ _ hc0 _ _ _ _ _ hc1 w

end Go.Proofs.YtcbahkfbdlhabaaGreatDoor
