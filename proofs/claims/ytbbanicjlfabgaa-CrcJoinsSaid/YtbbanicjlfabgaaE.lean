import Derived.Test.YtbbanicjlfabgaaD
namespace Go.Proofs.Ytbbanicjlfabgaa
set_option linter.unusedVariables false
set_option linter.unusedSimpArgs false
open Go.RowKit

structure JI (w wr : World) (g : Nat) (m : Nat → BitVec 32) : Prop where
  below : Below w.heap.size w wr
  ge : w.heap.size ≤ g
  row : wr.heap[g]? = some (.cells (matOf m) 43 (0, 0))
theorem JI.lt {w wr : World} {g : Nat} {m : Nat → BitVec 32} (h : JI w wr g m) : g < wr.heap.size := (Array.getElem?_eq_some_iff.1 h.row).1
theorem JI.below' {w wr w1 : World} {g : Nat} {m : Nat → BitVec 32} (h : JI w wr g m) (hb : Below wr.heap.size wr w1) : JI w w1 g m := by
  have hl := h.lt
  exact ⟨h.below.trans (hb.mono h.below.size), h.ge, by rw [hb.block _ hl]; exact h.row⟩
theorem JI.setRow {w wr : World} {g : Nat} {m : Nat → BitVec 32} (h : JI w wr g m) (m' : Nat → BitVec 32) : JI w (wr.setRow g (matOf m')) g m' :=
  ⟨below_setRow h.below _ _ h.ge, h.ge, setRow_heap _ _ _ _ _ _ h.row⟩
theorem JI.start {w w1 : World} (h : Below w.heap.size w w1) (m : Nat → BitVec 32) : JI w ((w1.alloc (.cells (zs 32) 43)).setRow w1.heap.size (matOf m)) w1.heap.size m :=
  ⟨below_setRow (h.alloc h.size _) _ _ h.size, h.size, setRow_heap _ _ _ _ _ _ (Go.heap_alloc_new _ _)⟩

theorem twice_anyF (m : Nat → BitVec 32) (w : World) :
    Calls Try.prog 22 #[.agg (matOf m)] w fun e w' => e = .returned (.agg (matOf (twiceF m))) ∧ Below w.heap.size w w' := twice_any m w

set_option maxHeartbeats 400000 in
theorem join_out (a b : BitVec 32) (n : Int) (hn : n < 0 ∨ 65535 < n) (w : World) :
    Calls Try.prog 16 #[u32 a, u32 b, .int .i64 n] w fun e w' => e = .returned (u32 0#32) ∧ Below w.heap.size w w' := by
  by_cases h : n < 0
  · go_enter Try.func16, Try.ntmps16
    go_wp2
    go_ret
    exact ⟨rfl, Below.refl _ _⟩
  · have h2 : 65535 < n := by omega
    go_enter Try.func16, Try.ntmps16
    go_wp2
    go_ret
    exact ⟨rfl, Below.refl _ _⟩

set_option maxRecDepth 100000 in
set_option maxHeartbeats 800000 in
theorem join_any (a b : BitVec 32) (n : Nat) (hn : n ≤ 65535) (w : World) :
    Calls Try.prog 16 #[u32 a, u32 b, .int .i64 n] w fun e w' => e = .returned (u32 (joinM byte0 a n ^^^ b)) ∧ Below w.heap.size w w' := by
  have hz := zero43
  go_enter Try.func16, Try.ntmps16
  go_wp2_with (first
    | (go_at_call 20; refine (byteZero_any _).mono ?_; rintro e w1 ⟨rfl, hb1⟩
       have HB1 := Lib.hid hb1
       clear hb1)
    | (refine wpList_store_row rfl 43 _ _ rfl w1.heap.size (matOf byte0) rfl rfl 43 (zs 32) (Go.heap_alloc_new _ _) (size43.trans (by rw [matOf_size])) (by simp [zs, matOf_size]) (matOf_one _) ?_))
  go_frame
  go_loopw [0, 2] (fun v i wr => ∃ (x : BitVec 32) (k : Nat) (m : Nat → BitVec 32), k ≤ 65535 ∧ v = u32 x ∧ i = .int .i64 k ∧ joinM m x k = joinM byte0 a n ∧ JI w wr w1.heap.size m) (fun _ i _ => (intOf i).toNat)
  case atStart => exact ⟨a, n, byte0, hn, rfl, rfl, rfl, JI.start HB1.out byte0⟩
  case round =>
    obtain ⟨x, k, m, hk, rfl, rfl, hj, hJ⟩ := hrel
    have HJ := Lib.hid hj
    have HI := Lib.hid hJ
    clear hj hJ
    by_cases hk0 : 0 < k
    · by_cases hodd : k % 2 = 1
      · have h1 : (bits .and .i64 (k : Int) 1 == 1) = true := by rw [and1_i64 k (by omega), hodd]; rfl
        have HO := Lib.hid hodd
        clear hodd
        go_wp2_with (first
          | (refine wpList_load_row rfl 43 _ rfl w1.heap.size rfl 43 (matOf m) (0, 0) _ HI.out.row Try.underlying43 rfl (size43.trans (by rw [matOf_size])) ?_)
          | (go_at_call 21; refine (of_any m x _).mono ?_; rintro e w2 ⟨rfl, hb2⟩
             have HI2 := Lib.hid (HI.out.below' hb2)
             clear hb2)
          | (refine wpList_load_row rfl 43 _ rfl w1.heap.size rfl 43 (matOf m) (0, 0) _ HI2.out.row Try.underlying43 rfl (size43.trans (by rw [matOf_size])) ?_)
          | (go_at_call 22; refine (twice_anyF m _).mono ?_; rintro e w3 ⟨rfl, hb3⟩
             have HI3 := Lib.hid (HI2.out.below' hb3)
             clear hb3)
          | (refine wpList_store_row rfl 43 _ _ rfl w1.heap.size (matOf (twiceF m)) rfl rfl 43 (matOf m) HI3.out.row (size43.trans (by rw [matOf_size])) (by rw [matOf_size, matOf_size]) (matOf_one _) ?_))
        go_roundw
        case rel => exact ⟨ofN m x 32, k / 2, twiceF m, by omega, rfl, by go_num, by rw [← joinM_odd m x k hk0 HO.out]; exact HJ.out, HI3.out.setRow _⟩
        case measure => simp [intOf]; omega
      · have h1 : (bits .and .i64 (k : Int) 1 == 1) = false := by rw [and1_i64 k (by omega), show k % 2 = 0 by omega]; rfl
        have HO := Lib.hid hodd
        clear hodd
        go_wp2_with (first
          | (refine wpList_load_row rfl 43 _ rfl w1.heap.size rfl 43 (matOf m) (0, 0) _ HI.out.row Try.underlying43 rfl (size43.trans (by rw [matOf_size])) ?_)
          | (go_at_call 22; refine (twice_anyF m _).mono ?_; rintro e w3 ⟨rfl, hb3⟩
             have HI3 := Lib.hid (HI.out.below' hb3)
             clear hb3)
          | (refine wpList_store_row rfl 43 _ _ rfl w1.heap.size (matOf (twiceF m)) rfl rfl 43 (matOf m) HI3.out.row (size43.trans (by rw [matOf_size])) (by rw [matOf_size, matOf_size]) (matOf_one _) ?_))
        go_roundw
        case rel => exact ⟨x, k / 2, twiceF m, by omega, rfl, by go_num, by rw [← joinM_even m x k hk0 HO.out]; exact HJ.out, HI3.out.setRow _⟩
        case measure => simp [intOf]; omega
    · obtain rfl : k = 0 := by omega
      have hx : x = joinM byte0 a n := by have := HJ.out; rw [joinM_zero] at this; exact this
      have hxx := bits_xor32 x b
      have HX : Hid (Value.int .u32 (bits .xor .u32 (x.toNat : Int) (b.toNat : Int)) = u32 (joinM byte0 a n ^^^ b)) := by
        show _ = _
        rw [hxx, hx]
      clear hx hxx
      go_wp2
      go_ret
      exact ⟨congrArg Ending.returned HX.out, HI.out.below⟩

end Go.Proofs.Ytbbanicjlfabgaa
