import Derived.Test.YtbbanicjlfabgaaRows
import Derived.Test.YtbbanicjlfabgaaM
import Derived.WalkSpells
import Derived.WalkLawsBesides
namespace Go.Proofs.Ytbbanicjlfabgaa
set_option linter.unusedVariables false
set_option linter.unusedSimpArgs false
open Go.RowKit

set_option maxHeartbeats 400000 in
theorem step_any (r : BitVec 32) (w : World) :
    Calls Try.prog 17 #[u32 r] w fun e w' => e = .returned (u32 (stp r)) ∧ w = w' := by
  have e2 : bits .xor .u32 ((r.toNat : Int) / 2) 3988292384 = (((r >>> 1) ^^^ poly).toNat : Int) := by
    have h1 := shr_u32 r 1
    have h := bits_xor32 (r >>> 1) poly
    rw [← h1] at h; exact h
  have E2 := Lib.hid e2
  have E3 := Lib.hid (shr_u32 r 1)
  have e1 := and1_u32 r
  clear e2
  unfold u32
  by_cases h : r.toNat % 2 = 1
  · have HS : Hid (stp r = (r >>> 1) ^^^ poly) := if_pos h
    have h1 : (bits .and .u32 (r.toNat : Int) 1 == 1) = true := by rw [e1, h]; rfl
    clear h e1
    go_enter Try.func17, Try.ntmps17
    go_wp2
    go_ret
    refine ⟨?_, rfl⟩
    rw [HS.out, ← E2.out]; rfl
  · have HS : Hid (stp r = (r >>> 1)) := if_neg h
    have h1 : (bits .and .u32 (r.toNat : Int) 1 == 1) = false := by rw [e1, show r.toNat % 2 = 0 by omega]; rfl
    clear h e1
    go_enter Try.func17, Try.ntmps17
    go_wp2
    go_ret
    refine ⟨?_, rfl⟩
    rw [HS.out, ← E3.out]; rfl

theorem zero24 (w : World) : (zeroValue 24).run Try.prog w = .ok (.agg (zs 256)) w := by kernel_rfl
theorem size24 : (Try.prog.info? 24).map (·.size) = some 256 := by kernel_rfl

set_option maxRecDepth 100000 in
set_option maxHeartbeats 400000 in
theorem table_any (w : World) :
    Calls Try.prog 11 #[] w fun e w' => e = .returned (.agg (tabN 256)) ∧ Below w.heap.size w w' := by
  have hz := zero24
  go_enter Try.func11, Try.ntmps11
  go_wp2
  go_loopw [4] (fun i wr => ∃ k : Nat, k ≤ 256 ∧ i = .int .i64 k ∧ wr = (w.alloc (.cells (zs 256) 24)).alloc (.cells (tabN k) 24)) (fun i _ => (256 - intOf i).toNat)
  case atStart => exact ⟨0, by omega, rfl, by rw [tabN_zero]⟩
  case round =>
    obtain ⟨k, hk, rfl, rfl⟩ := hrel
    have h256 : (k : Int) ≤ 256 := by omega
    by_cases hlt : k < 256
    · have ek : (BitVec.ofNat 32 k).toNat = k := by rw [BitVec.toNat_ofNat]; omega
      have EK := Lib.hid ek
      clear ek
      have hd : decide ((k : Int) < 256) = true := by simp; omega
      go_wp2
      go_loop [3, 9] (fun v i => ∃ (j : Nat) (r : BitVec 32), j ≤ 8 ∧ i = .int .i64 j ∧ v = u32 r ∧ stpN (8 - j) r = stpN 8 (BitVec.ofNat 32 k)) (fun _ i => (8 - intOf i).toNat)
      case atStart => exact ⟨0, BitVec.ofNat 32 k, by omega, rfl, by rw [u32, EK.out], rfl⟩
      case round =>
        obtain ⟨j, r, hj, rfl, rfl, hr⟩ := hrel
        have HR := Lib.hid hr
        clear hr
        by_cases hj8 : j < 8
        · go_wp2_with (go_at_call 17; refine (step_any _ _).mono ?_; rintro e w' ⟨rfl, rfl⟩)
          go_round
          case rel => exact ⟨j + 1, stp r, by omega, by go_num, rfl, by rw [← HR.out, ← stpN_succ]; congr 1; omega⟩
          case measure => simp [intOf]; omega
        · obtain rfl : r = stpN 8 (BitVec.ofNat 32 k) := by have := HR.out; rw [show 8 - j = 0 by omega] at this; exact this
          have hcell := tabN_get? k k hlt
          go_wp2
          go_roundw
          case rel => exact ⟨k + 1, by omega, by go_num, by rw [← tabN_set k hlt]⟩
          case measure => simp [intOf]; omega
    · have e256 : k = 256 := by omega
      subst e256
      go_wp2_with (first
        | (refine wpList_load_row rfl 24 _ rfl (w.heap.size + 1) rfl 24 (tabN 256) (0, 0) _ (heap_alloc2_new w _ _) Try.underlying24 rfl (size24.trans (by rw [tabN_size])) ?_)
        | (refine wpList_store_row rfl 24 _ _ rfl w.heap.size (tabN 256) rfl rfl 24 (zs 256) (heap_alloc2_old w _ _) (size24.trans (by rw [tabN_size])) (by simp [zs, tabN_size]) (tabN_one _) ?_))
      refine bodyPost_ret (results_cell_row rfl _ _ w.heap.size 24 (tabN 256) (0, 0) _ rfl (setRow_heap _ _ _ _ 24 _ (heap_alloc2_old w _ _)) Try.underlying24 rfl (size24.trans (by rw [tabN_size]))) rfl ⟨rfl, ?_⟩
      exact below_setRow (((Below.refl _ _).alloc (Nat.le_refl _) _).alloc (by simp) _) _ _ (Nat.le_refl _)

set_option maxRecDepth 100000 in
set_option maxHeartbeats 400000 in
theorem more_any (t : Nat → BitVec 32) (s : BitVec 32) (v : Value) (bs : List (BitVec 8)) (w : World) (hv : SliceAt w v bs) (hm : bs.length ≤ 140737488351232) :
    Calls Try.prog 15 #[.agg (tabOf t), u32 s, v] w fun e w' => e = .returned (u32 (more t s bs)) ∧ Below w.heap.size w w' := by
  obtain ⟨a, cap, rfl, hcells⟩ := hv.form
  obtain ⟨q, hq⟩ : ∃ q, q = ~~~ s := ⟨_, rfl⟩
  have hn := not_u32 s
  rw [← hq] at hn
  have hmore : more t s bs = ~~~ (moreR t q bs) := by rw [hq]; rfl
  have HM := Lib.hid hmore
  clear hv hq hmore
  go_enter Try.func15, Try.ntmps15
  go_wp2
  go_loop [7, 14] (fun v i => ∃ k : Nat, k ≤ bs.length ∧ i = .int .i64 k ∧ v = u32 (moreR t q (bs.take k))) (fun _ i => (bs.length - intOf i).toNat)
  case atStart => exact ⟨0, by omega, rfl, rfl⟩
  case round =>
    obtain ⟨k, hk, rfl, rfl⟩ := hrel
    by_cases hlt : k < bs.length
    · obtain ⟨b, off, rfl, hc⟩ := hcells (by omega)
      have hck := hc k hlt
      have hb : b < w.heap.size := World.block_lt_of_cell? w _ hck
      have HT := Lib.hid (moreR_take t q bs k hlt)
      generalize moreR t q (bs.take k) = r at *
      generalize bs[k] = c at *
      obtain ⟨x, hx, hxx, hres⟩ := more1_parts t r c
      have HR := Lib.hid hres
      have hg := tabOf_get? t x hx
      clear hn hcells hc hres
      go_wp2
      go_round
      case rel => exact ⟨k + 1, by omega, by go_num, by rw [HT.out, HR.out]⟩
      case measure => simp [intOf]; omega
    · obtain rfl : k = bs.length := by omega
      have hq2 := not_u32 (moreR t q bs)
      obtain ⟨q2, hq2'⟩ : ∃ q2, q2 = ~~~ (moreR t q bs) := ⟨_, rfl⟩
      rw [← hq2'] at hq2
      rw [← hq2'] at HM
      clear hq2'
      rw [List.take_length]
      generalize moreR t q bs = y at *
      clear hn hcells
      go_wp2
      go_ret
      exact ⟨by rw [HM.out]; rfl, (Below.refl _ _).alloc (Nat.le_refl _) _⟩

end Go.Proofs.Ytbbanicjlfabgaa
