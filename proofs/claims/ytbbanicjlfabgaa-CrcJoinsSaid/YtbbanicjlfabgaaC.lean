import Derived.Test.YtbbanicjlfabgaaB
namespace Go.Proofs.Ytbbanicjlfabgaa
set_option linter.unusedVariables false
set_option linter.unusedSimpArgs false
open Go.RowKit

set_option maxHeartbeats 400000 in
theorem refsum_any (v : Value) (bs : List (BitVec 8)) (w : World) (hv : SliceAt w v bs) (hm : bs.length ≤ 140737488351232) :
    Calls Try.prog 14 #[v] w fun e w' => e = .returned (u32 (refSum bs)) ∧ w = w' := by
  have hx : ∃ q, q = runR (~~~ 0#32) bs ∧ u32 (refSum bs) = .int .u32 (bits .xor .u32 (q.toNat : Int) 4294967295) :=
    ⟨_, rfl, by rw [not_u32']; rfl⟩
  obtain ⟨q, hq, hr⟩ := hx
  have HR := Lib.hid hr
  have hc := run_any (~~~ 0#32) v bs w hv hm
  rw [← hq] at hc
  have HC := Lib.hid hc
  clear hq hr hc
  go_enter Try.func14, Try.ntmps14
  go_wp2_with (go_at_call 19; refine HC.out.mono ?_; rintro e w' ⟨rfl, rfl⟩)
  go_ret
  exact ⟨by rw [HR.out]; rfl, rfl⟩

set_option maxHeartbeats 400000 in
theorem word_any (i : Nat) (hi : i < 256) (w : World) :
    Calls Try.prog 12 #[.int .i64 i] w fun e w' => e = .returned (u32 (word i)) ∧ w = w' := by
  have EK : Hid ((BitVec.ofNat 32 i).toNat = i) := by show _ = _; rw [BitVec.toNat_ofNat]; omega
  go_enter Try.func12, Try.ntmps12
  go_wp2
  go_loop [3, 4] (fun v j => ∃ (n : Nat) (r : BitVec 32), n ≤ 8 ∧ j = .int .i64 n ∧ v = u32 r ∧ stpN (8 - n) r = word i) (fun _ j => (8 - intOf j).toNat)
  case atStart => exact ⟨0, BitVec.ofNat 32 i, by omega, rfl, by rw [u32, EK.out], rfl⟩
  case round =>
    obtain ⟨j, r, hj, rfl, rfl, hr⟩ := hrel
    have HR := Lib.hid hr
    clear hr
    by_cases hj8 : j < 8
    · have HB := Lib.hid (bitR_false r)
      go_wp2_with (go_at_call 18; refine (bit_any _ _ _).mono ?_; rintro e w' ⟨rfl, rfl⟩)
      go_round
      case rel => exact ⟨j + 1, stp r, by omega, by go_num, by rw [HB.out], by rw [← HR.out, ← stpN_succ]; congr 1; omega⟩
      case measure => simp [intOf]; omega
    · obtain rfl : r = word i := by have := HR.out; rw [show 8 - j = 0 by omega] at this; exact this
      go_wp2
      go_ret
      exact ⟨rfl, rfl⟩

theorem zero43 (w : World) : (zeroValue 43).run Try.prog w = .ok (.agg (zs 32)) w := by kernel_rfl
theorem size43 : (Try.prog.info? 43).map (·.size) = some 32 := by kernel_rfl

set_option maxRecDepth 100000 in
set_option maxHeartbeats 400000 in
theorem of_any (m : Nat → BitVec 32) (r : BitVec 32) (w : World) :
    Calls Try.prog 21 #[.agg (matOf m), u32 r] w fun e w' => e = .returned (u32 (ofN m r 32)) ∧ Below w.heap.size w w' := by
  go_enter Try.func21, Try.ntmps21
  go_wp2
  go_loop [5, 7] (fun v i => ∃ k : Nat, k ≤ 32 ∧ i = .int .i64 k ∧ v = u32 (ofN m r k)) (fun _ i => (32 - intOf i).toNat)
  case atStart => exact ⟨0, by omega, rfl, rfl⟩
  case round =>
    obtain ⟨k, hk, rfl, rfl⟩ := hrel
    by_cases hlt : k < 32
    · have hb := bit32 r k
      have hg := matOf_get? m k hlt
      have hx := bits_xor32 (ofN m r k) (m k)
      by_cases h : r.getLsbD k = true
      · have HS : Hid (ofN m r (k + 1) = ofN m r k ^^^ m k) := if_pos h
        rw [if_pos h] at hb
        obtain ⟨q, hq⟩ : ∃ q, q = ofN m r k ^^^ m k := ⟨_, rfl⟩
        rw [← hq] at hx HS
        clear h hq
        go_wp2
        go_round
        case rel => exact ⟨k + 1, by omega, by go_num, by rw [HS.out]⟩
        case measure => simp [intOf]; omega
      · have HS : Hid (ofN m r (k + 1) = ofN m r k) := if_neg h
        rw [if_neg h] at hb
        clear h hx
        go_wp2
        go_round
        case rel => exact ⟨k + 1, by omega, by go_num, by rw [HS.out]⟩
        case measure => simp [intOf]; omega
    · obtain rfl : k = 32 := by omega
      go_wp2
      go_ret
      exact ⟨rfl, (Below.refl _ _).alloc (Nat.le_refl _) _⟩

set_option maxRecDepth 100000 in
set_option maxHeartbeats 400000 in
theorem byteZero_any (w : World) :
    Calls Try.prog 20 #[] w fun e w' => e = .returned (.agg (matOf byte0)) ∧ Below w.heap.size w w' := by
  have hz := zero43
  go_enter Try.func20, Try.ntmps20
  go_wp2
  go_loopw [4] (fun i wr => ∃ k : Nat, k ≤ 32 ∧ i = .int .i64 k ∧ wr = (w.alloc (.cells (zs 32) 43)).alloc (.cells (matOf (upto byte0 k)) 43)) (fun i _ => (32 - intOf i).toNat)
  case atStart => exact ⟨0, by omega, rfl, by rw [matOf_upto_zero]⟩
  case round =>
    obtain ⟨k, hk, rfl, rfl⟩ := hrel
    by_cases hlt : k < 32
    · have hd : decide ((k : Int) < 32) = true := by simp; omega
      have hs := one_shl k hlt
      obtain ⟨q, hq⟩ : ∃ q, q = BitVec.ofNat 32 (2 ^ k) := ⟨_, rfl⟩
      rw [← hq] at hs
      have HQ : Hid (byte0 k = stpN 8 q) := by show _ = _; rw [hq]; rfl
      clear hq
      go_wp2
      go_loop [3, 9] (fun v i => ∃ (j : Nat) (r : BitVec 32), j ≤ 8 ∧ i = .int .i64 j ∧ v = u32 r ∧ stpN (8 - j) r = stpN 8 q) (fun _ i => (8 - intOf i).toNat)
      case atStart => exact ⟨0, q, by omega, rfl, rfl, rfl⟩
      case round =>
        obtain ⟨j, r, hj, rfl, rfl, hr⟩ := hrel
        have HR := Lib.hid hr
        clear hr
        by_cases hj8 : j < 8
        · go_wp2_with (go_at_call 17; refine (step_any _ _).mono ?_; rintro e w' ⟨rfl, rfl⟩)
          go_round
          case rel => exact ⟨j + 1, stp r, by omega, by go_num, rfl, by rw [← HR.out, ← stpN_succ]; congr 1; omega⟩
          case measure => simp [intOf]; omega
        · obtain rfl : r = stpN 8 q := by have := HR.out; rw [show 8 - j = 0 by omega] at this; exact this
          have hcell := matOf_get? (upto byte0 k) k hlt
          go_wp2
          go_roundw
          case rel => exact ⟨k + 1, by omega, by go_num, by rw [← matOf_upto_set, HQ.out]⟩
          case measure => simp [intOf]; omega
    · obtain rfl : k = 32 := by omega
      rw [matOf_upto_all]
      go_wp2_with (first
        | (refine wpList_load_row rfl 43 _ rfl (w.heap.size + 1) rfl 43 (matOf byte0) (0, 0) _ (heap_alloc2_new w _ _) Try.underlying43 rfl (size43.trans (by rw [matOf_size])) ?_)
        | (refine wpList_store_row rfl 43 _ _ rfl w.heap.size (matOf byte0) rfl rfl 43 (zs 32) (heap_alloc2_old w _ _) (size43.trans (by rw [matOf_size])) (by simp [zs, matOf_size]) (matOf_one _) ?_))
      refine bodyPost_ret (results_cell_row rfl _ _ w.heap.size 43 (matOf byte0) (0, 0) _ rfl (setRow_heap _ _ _ _ 43 _ (heap_alloc2_old w _ _)) Try.underlying43 rfl (size43.trans (by rw [matOf_size]))) rfl ⟨rfl, ?_⟩
      exact below_setRow (((Below.refl _ _).alloc (Nat.le_refl _) _).alloc (by simp) _) _ _ (Nat.le_refl _)

end Go.Proofs.Ytbbanicjlfabgaa
