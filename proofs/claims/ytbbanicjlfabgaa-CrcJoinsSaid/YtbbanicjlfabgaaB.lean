import Derived.Test.YtbbanicjlfabgaaA
namespace Go.Proofs.Ytbbanicjlfabgaa
set_option linter.unusedVariables false
set_option linter.unusedSimpArgs false
open Go.RowKit

set_option maxRecDepth 100000 in
set_option maxHeartbeats 400000 in
theorem sum_any (t : Nat → BitVec 32) (v : Value) (bs : List (BitVec 8)) (w : World) (hv : SliceAt w v bs) (hm : bs.length ≤ 140737488351232) :
    Calls Try.prog 13 #[.agg (tabOf t), v] w fun e w' => e = .returned (u32 (more t 0#32 bs)) ∧ Below w.heap.size w w' := by
  have hb : Below w.heap.size w (w.alloc (.cells (tabOf t) 24)) := (Below.refl _ _).alloc (Nat.le_refl _) _
  have hv1 : SliceAt (w.alloc (.cells (tabOf t) 24)) v bs := hv.below hb
  go_enter Try.func13, Try.ntmps13
  go_wp2_with (first
    | (refine wpList_load_row rfl 24 _ rfl w.heap.size rfl 24 (tabOf t) (0, 0) _ (heap_alloc_new w _) Try.underlying24 rfl (size24.trans (by rw [tabOf_size])) ?_)
    | (go_at_call 15; refine (more_any t 0#32 v bs _ hv1 hm).mono ?_; rintro e w' ⟨rfl, hb1⟩))
  go_ret
  exact ⟨rfl, hb.trans (hb1.mono (by simp))⟩

set_option maxHeartbeats 400000 in
theorem bit_any (r : BitVec 32) (o : Bool) (w : World) :
    Calls Try.prog 18 #[u32 r, .bool o] w fun e w' => e = .returned (u32 (bitR r o)) ∧ w = w' := by
  obtain ⟨p1, p2⟩ := half_parts r
  by_cases h : (r.toNat % 2 = 1) ≠ (o = true)
  · have HS : Hid (u32 (bitR r o) = .int .u32 (bits .xor .u32 ((r.toNat : Int) / 2) 3988292384)) := by
      show u32 (bitR r o) = _
      rw [← p2, bitR, if_pos h]
    have h1 : (((r.toNat : Int) % 2 == 1) == o) = false := by
      cases o
      · simp at h; simp; omega
      · simp at h; simp; omega
    clear h p1 p2
    go_enter Try.func18, Try.ntmps18
    go_wp2
    go_ret
    exact ⟨by rw [HS.out]; rfl, rfl⟩
  · have HS : Hid (u32 (bitR r o) = .int .u32 ((r.toNat : Int) / 2)) := by
      show u32 (bitR r o) = _
      rw [← p1, bitR, if_neg h]
    have h1 : (((r.toNat : Int) % 2 == 1) == o) = true := by
      cases o
      · simp at h; simp; omega
      · simp at h; simp; omega
    clear h p1 p2
    go_enter Try.func18, Try.ntmps18
    go_wp2
    go_ret
    exact ⟨by rw [HS.out]; rfl, rfl⟩

set_option maxRecDepth 100000 in
set_option maxHeartbeats 800000 in
theorem run_any (r0 : BitVec 32) (v : Value) (bs : List (BitVec 8)) (w : World) (hv : SliceAt w v bs) (hm : bs.length ≤ 140737488351232) :
    Calls Try.prog 19 #[u32 r0, v] w fun e w' => e = .returned (u32 (runR r0 bs)) ∧ w = w' := by
  obtain ⟨a, cap, rfl, hcells⟩ := hv.form
  clear hv
  go_enter Try.func19, Try.ntmps19
  go_wp2
  go_loop [0, 5] (fun v i => ∃ k : Nat, k ≤ bs.length ∧ i = .int .i64 k ∧ v = u32 (runR r0 (bs.take k))) (fun _ i => (bs.length - intOf i).toNat)
  case atStart => exact ⟨0, by omega, rfl, rfl⟩
  case round =>
    obtain ⟨k, hk, rfl, rfl⟩ := hrel
    by_cases hlt : k < bs.length
    · obtain ⟨b, off, rfl, hc⟩ := hcells (by omega)
      have hck := hc k hlt
      have HT := Lib.hid (runR_take r0 bs k hlt)
      generalize runR r0 (bs.take k) = r at *
      generalize bs[k] = c at *
      have hd : decide ((k : Int) < (bs.length : Int)) = true := by simp; omega
      clear hcells hc
      go_wp2
      go_loop [0, 6] (fun v i => ∃ j : Nat, j ≤ 8 ∧ i = .int .i64 j ∧ v = u32 (runN r c j)) (fun _ i => (8 - intOf i).toNat)
      case atStart => exact ⟨0, by omega, rfl, rfl⟩
      case round =>
        obtain ⟨j, hj, rfl, rfl⟩ := hrel
        by_cases hj8 : j < 8
        · have hbit := bit8t c j
          go_wp2_with (go_at_call 18; refine (bit_any _ _ _).mono ?_; rintro e w' ⟨rfl, rfl⟩)
          go_round
          case rel => exact ⟨j + 1, by omega, by go_num, rfl⟩
          case measure => simp [intOf]; omega
        · obtain rfl : j = 8 := by omega
          go_wp2_with fail
          go_round
          case rel => exact ⟨k + 1, by omega, by go_num, by rw [HT.out]; rfl⟩
          case measure => simp [intOf]; omega
    · obtain rfl : k = bs.length := by omega
      rw [List.take_length]
      go_wp2
      go_ret
      exact ⟨rfl, rfl⟩

end Go.Proofs.Ytbbanicjlfabgaa
