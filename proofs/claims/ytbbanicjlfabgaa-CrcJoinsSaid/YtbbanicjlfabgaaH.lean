import Derived.Test.YtbbanicjlfabgaaG
namespace Go.Proofs.Ytbbanicjlfabgaa
set_option linter.unusedVariables false
set_option linter.unusedSimpArgs false
open Go.RowKit

theorem sumW_any (v : Value) (bs : List (BitVec 8)) (w : World) (hv : SliceAt w v bs) (hm : bs.length ≤ 140737488351232) :
    Calls Try.prog 13 #[.agg (tabOf word), v] w fun e w' => e = .returned (u32 (refSum bs)) ∧ Below w.heap.size w w' := sum_eq bs ▸ sum_any word v bs w hv hm
theorem moreW_any (a : List (BitVec 8)) (v : Value) (bs : List (BitVec 8)) (w : World) (hv : SliceAt w v bs) (hm : bs.length ≤ 140737488351232) :
    Calls Try.prog 15 #[.agg (tabOf word), u32 (refSum a), v] w fun e w' => e = .returned (u32 (refSum (a ++ bs))) ∧ Below w.heap.size w w' := more_append a bs ▸ more_any word (refSum a) v bs w hv hm
theorem sliceAt_nil (w : World) : SliceAt w (.slice none 0 0) [] := ⟨⟨none, 0, rfl, fun h => absurd h (by simp)⟩, fun a n c h => by simp only [Value.slice.injEq] at h; omega⟩

theorem more_nil (t : Nat → BitVec 32) : more t 0#32 [] = 0#32 := by simp [more, moreR]
/-- The world of CrcOther: its own copy of the table in block g, the bytes where they lay. -/
structure OI (t : Nat → BitVec 32) (v : Value) (bs : List (BitVec 8)) (w wr : World) (g : Nat) : Prop where
  below : Below w.heap.size w wr
  row : wr.heap[g]? = some (.cells (tabOf t) 24 (0, 0))
  sl : SliceAt wr v bs
theorem OI.next {t : Nat → BitVec 32} {v : Value} {bs : List (BitVec 8)} {w wr w1 : World} {g : Nat} (h : OI t v bs w wr g) (hb : Below wr.heap.size wr w1) : OI t v bs w w1 g :=
  ⟨h.below.trans (hb.mono h.below.size), by rw [hb.block _ (Array.getElem?_eq_some_iff.1 h.row).1]; exact h.row, h.sl.below hb⟩

set_option maxRecDepth 100000 in
set_option maxHeartbeats 800000 in
theorem other_any (t : Nat → BitVec 32) (s : BitVec 32) (v : Value) (bs : List (BitVec 8)) (w : World) (hv : SliceAt w v bs) (hm : bs.length ≤ 140737488351232) :
    Calls Try.prog 5 #[.agg (tabOf t), u32 s, v] w fun e w' => e = .returned (.bool true) ∧ Below w.heap.size w w' := by
  have hb0 : Below w.heap.size w (w.alloc (.cells (tabOf t) 24)) := (Below.refl _ _).alloc (Nat.le_refl _) _
  have HO : Hid (OI t v bs w (w.alloc (.cells (tabOf t) 24)) w.heap.size) := ⟨hb0, Go.heap_alloc_new _ _, hv.below hb0⟩
  obtain ⟨a, cap, rfl, hcells⟩ := hv.form
  obtain ⟨q, hq⟩ : ∃ q, q = ~~~ s := ⟨_, rfl⟩
  have hn := not_u32' s
  rw [← hq] at hn
  have HM : Hid (more t s bs = ~~~ (moreR t q bs)) := by show _ = _; rw [hq]; rfl
  clear hv hq hb0
  go_enter Try.func5, Try.ntmps5
  go_wp2
  go_loop [7, 8] (fun v i => ∃ k : Nat, k ≤ bs.length ∧ i = .int .i64 k ∧ v = u32 (moreR t q (bs.take k))) (fun _ i => (bs.length - intOf i).toNat)
  case atStart => exact ⟨0, by omega, rfl, rfl⟩
  case round =>
    obtain ⟨k, hk, rfl, rfl⟩ := hrel
    by_cases hlt : k < bs.length
    · obtain ⟨b, off, rfl, hc⟩ := hcells (by omega)
      have hck := hc k hlt
      have hb : b < w.heap.size := World.block_lt_of_cell? w _ hck
      have HT := Lib.hid (moreR_take t q bs k hlt)
      generalize moreR t q (bs.take k) = r at *
      generalize bs[k] = c at *
      obtain ⟨x, hx, hxx, hres⟩ := more1_parts t r c
      have HR := Lib.hid hres
      have hg := tabOf_get? t x hx
      have hw8 : IntKind.u8.wrap ((r.toNat : Int) % 256) = (r.toNat : Int) % 256 := by rw [IntKind.wrap_u8]; omega
      have hc256 : (r.toNat : Int).tmod 256 = (r.toNat : Int) % 256 := Int.tmod_eq_emod_of_nonneg (by omega)
      clear hn hcells hc hres
      go_wp2
      go_round
      case rel => exact ⟨k + 1, by omega, by go_num, by rw [HT.out, HR.out]⟩
      case measure => simp [intOf]; omega
    · obtain rfl : k = bs.length := by omega
      rw [List.take_length]
      have hq2 := not_u32' (moreR t q bs)
      rw [← HM.out] at hq2
      obtain ⟨z, hz⟩ : ∃ z, z = more t s bs := ⟨_, rfl⟩
      rw [← hz] at hq2
      have hmo := fun w' hv' => more_any t s (.slice a bs.length cap) bs w' hv' hm
      rw [← hz] at hmo
      have HMO := Lib.hid hmo
      generalize moreR t q bs = y at *
      clear hn hcells HM hz hmo
      go_wp2_with (first
        | (go_at_call 10; refine (alive_any _).mono ?_; rintro e w1 ⟨rfl, hb1⟩
           have HO1 := Lib.hid (HO.out.next hb1)
           clear hb1 HO)
        | (refine wpList_load_row_g rfl 24 _ rfl w.heap.size rfl 24 (tabOf t) (0, 0) _ HO1.out.row Try.underlying24 rfl (size24.trans (by rw [tabOf_size])) ?_)
        | (go_at_call 15; refine (HMO.out _ HO1.out.sl).mono ?_; rintro e w2 ⟨rfl, hb2⟩
           have HO2 := Lib.hid (HO1.out.next hb2)
           clear hb2 HO1)
        | (refine wpList_load_row_g rfl 24 _ rfl w.heap.size rfl 24 (tabOf t) (0, 0) _ HO2.out.row Try.underlying24 rfl (size24.trans (by rw [tabOf_size])) ?_)
        | (go_at_call 13; refine (sum_any t _ [] _ (sliceAt_nil _) (by simp)).mono ?_; rintro e w3 ⟨rfl, hb3⟩
           have HO3 := Lib.hid (HO2.out.next hb3)
           clear hb3 HO2))
      go_ret
      exact ⟨by simp [more_nil], HO3.out.below⟩

end Go.Proofs.Ytbbanicjlfabgaa
