import Derived.Test.YtbbanicjlfabgaaC
import Derived.Deep.RegionHeld3
namespace Go.Proofs.Ytbbanicjlfabgaa
set_option linter.unusedVariables false
set_option linter.unusedSimpArgs false
open Go.RowKit

def matL (m : Nat → BitVec 32) : List Value := (List.range 32).map fun i => u32 (m i)
theorem matL_eq (m : Nat → BitVec 32) : (matL m).toArray = matOf m := rfl
theorem matL_length (m : Nat → BitVec 32) : (matL m).length = 32 := by simp [matL]

theorem of_anyL (m : Nat → BitVec 32) (r : BitVec 32) (w : World) :
    Calls Try.prog 21 #[.agg (matL m).toArray, u32 r] w fun e w' => e = .returned (u32 (ofN m r 32)) ∧ Below w.heap.size w w' := of_any m r w

structure TwI (w wr : World) (m t : Nat → BitVec 32) (k : Nat) : Prop where
  below : Below w.heap.size w wr
  size : w.heap.size + 3 ≤ wr.heap.size
  g0 : wr.heap[w.heap.size]? = some (.cells (matOf m) 43 (0, 0))
  g1 : wr.heap[w.heap.size + 1]? = some (.cells (zs 32) 43 (0, 0))
  g2 : wr.heap[w.heap.size + 2]? = some (.cells (matOf (upto t k)) 43 (0, 0))

theorem below_undrew {w w1 : World} (h : Below w.drew.heap.size w.drew w1) : Below w.heap.size w w1 := ⟨h.os, h.tape, h.output, h.size, h.block⟩
theorem TwI.below' {w wr w1 : World} {m t : Nat → BitVec 32} {k : Nat} (h : TwI w wr m t k) (hb : Below wr.heap.size wr w1) : TwI w w1 m t k := by
  have hs := h.size
  have hs1 := hb.size
  exact ⟨h.below.trans (hb.mono (by omega)), by omega, by rw [hb.block _ (by omega)]; exact h.g0, by rw [hb.block _ (by omega)]; exact h.g1, by rw [hb.block _ (by omega)]; exact h.g2⟩
theorem TwI.store {w wr : World} {m t : Nat → BitVec 32} {k : Nat} (h : TwI w wr m t k) : TwI w (wr.setCell ⟨w.heap.size + 2, k, none⟩ (u32 (t k))) m t (k + 1) := by
  have hs := h.size
  refine ⟨h.below.setCell (by simp) _, by simp [World.setCell]; omega, ?_, ?_, ?_⟩
  · rw [heap_setCell_other _ _ _ _ (by simp)]; exact h.g0
  · rw [heap_setCell_other _ _ _ _ (by simp)]; exact h.g1
  · rw [← matOf_upto_set]; exact heap_setCell_same _ _ _ _ _ _ h.g2

theorem row_range {w : World} {g t : Nat} {cs : List Value} {fr : Nat × Nat} (h : w.heap[g]? = some (.cells cs.toArray t fr)) : w.rangeAt g 0 cs := fun j v hv => by
  rw [cell_of_row w g (0 + j) cs.toArray t fr h]; simpa using hv

theorem TwI.range {w wr : World} {m t : Nat → BitVec 32} {k : Nat} (h : TwI w wr m t k) (j : Nat) (hj : j < 32) :
    wr.rangeAt w.heap.size 0 (matL m) ∧ wr.cell? ⟨w.heap.size, j, none⟩ = some (u32 (m j)) :=
  ⟨row_range h.g0, by rw [cell_of_row _ _ _ _ _ _ h.g0]; exact matOf_get? m j hj⟩
theorem TwI.cellk {w wr : World} {m t : Nat → BitVec 32} {k : Nat} (h : TwI w wr m t k) (hk : k < 32) :
    wr.cell? ⟨w.heap.size + 2, k, none⟩ = some (u32 (upto t k k)) ∧ wr.frozen? ⟨w.heap.size + 2, k, none⟩ = false :=
  ⟨by rw [cell_of_row _ _ _ _ _ _ h.g2]; exact matOf_get? _ k hk, frozen_of_row _ _ _ _ _ h.g2⟩
set_option maxRecDepth 100000 in
set_option maxHeartbeats 800000 in
theorem twice_any (m : Nat → BitVec 32) (w : World) :
    Calls Try.prog 22 #[.agg (matOf m)] w fun e w' => e = .returned (.agg (matOf (fun i => ofN m (m i) 32))) ∧ Below w.heap.size w w' := by
  have hz := zero43
  obtain ⟨t, ht⟩ : ∃ t : Nat → BitVec 32, t = fun i => ofN m (m i) 32 := ⟨_, rfl⟩
  have ht1 : ∀ i, t i = ofN m (m i) 32 := fun i => by rw [ht]
  have HT1 := Lib.hid ht1
  rw [← ht]
  clear ht ht1
  go_enter Try.func22, Try.ntmps22
  go_wp2
  go_loopw [5] (fun i wr => ∃ k : Nat, k ≤ 32 ∧ i = .int .i64 k ∧ TwI w wr m t k) (fun i _ => (32 - intOf i).toNat)
  case atStart =>
    refine ⟨0, by omega, rfl, ?_⟩
    have hb : Below w.heap.size w (((w.alloc (.cells (matOf m) 43)).alloc (.cells (zs 32) 43)).alloc (.cells (zs 32) 43)) :=
      (((Below.refl _ _).alloc (Nat.le_refl _) _).alloc (by simp) _).alloc (by simp; omega) _
    refine ⟨hb, by simp, ?_, ?_, ?_⟩
    · rw [heap_alloc_old _ _ (by simp; omega), heap_alloc2_old]
    · rw [heap_alloc_old _ _ (by simp), heap_alloc2_new]
    · have := heap_alloc2_new (w.alloc (.cells (matOf m) 43)) (.cells (zs 32) 43) (.cells (zs 32) 43)
      rw [matOf_upto_zero]; simpa using this
  case round =>
    obtain ⟨k, hk, rfl, hI⟩ := hrel
    by_cases hlt : k < 32
    · have hd : decide ((k : Int) < 32) = true := by simp; omega
      have HI := Lib.hid hI
      obtain ⟨hr, hc⟩ := hI.range k hlt
      have hs43 : (Try.prog.info? 43).map (·.size) = some (matL m).length := size43.trans (by rw [matL_length])
      have hu43 := Try.underlying43
      have k0 : (0 : Int) ≤ (k : Int) := by omega
      have k1 : (k : Int) < 32 := by omega
      clear hI
      go_wp2
      go_region_held3 (fun w' => w'.rangeAt w.heap.size 0 (matL m) ∧ w'.cell? ⟨w.heap.size, k, none⟩ = some (u32 (m k)))
        (first | exact ⟨hr, hc⟩ | exact ⟨hr1, hc1⟩ | exact HS.out.range k hlt)
        (first
          | (go_at_call 21; refine (of_anyL m (m k) _).mono ?_; rintro e w1 ⟨rfl, hb1⟩
             have hI1 := HI.out.below' (below_undrew hb1)
             obtain ⟨hr1, hc1⟩ := hI1.range k hlt
             obtain ⟨hst, hfr⟩ := hI1.cellk hlt
             have HS := Lib.hid hI1.store
             rw [← HT1.out k]
             clear hI1 hb1))
      go_wp2
      go_roundw
      case rel => exact ⟨k + 1, by omega, by go_num, HS.out⟩
      case measure => simp [intOf]; omega
    · obtain rfl : k = 32 := by omega
      have hb := hI.below
      have hg0 := hI.g0
      have hg1 := hI.g1
      have hg2 := hI.g2
      rw [matOf_upto_all] at hg2
      have HB := Lib.hid hb
      have HG1 := Lib.hid hg1
      have HG2 := Lib.hid hg2
      clear hI hb hg0 hg1 hg2
      go_wp2_with (first
        | (refine wpList_load_row rfl 43 _ rfl (w.heap.size + 2) rfl 43 (matOf t) (0, 0) _ HG2.out Try.underlying43 rfl (size43.trans (by rw [matOf_size])) ?_)
        | (refine wpList_store_row rfl 43 _ _ rfl (w.heap.size + 1) (matOf t) rfl rfl 43 (zs 32) HG1.out (size43.trans (by rw [matOf_size])) (by simp [zs, matOf_size]) (matOf_one _) ?_))
      refine bodyPost_ret (results_cell_row rfl _ _ (w.heap.size + 1) 43 (matOf t) (0, 0) _ rfl (setRow_heap _ _ _ _ 43 _ HG1.out) Try.underlying43 rfl (size43.trans (by rw [matOf_size]))) rfl ⟨rfl, ?_⟩
      exact below_setRow HB.out _ _ (by omega)

end Go.Proofs.Ytbbanicjlfabgaa
