/- The openers of the three laws of the feed: an integer, a slice of integers, a slice of Booleans. -/
import Derived.Test.YtlomjckmclefeaaRows
import Derived.Test.YtlomjckmclefeaaLaw
import Derived.Test.YtlomjckmclefeaaE
import Derived.Deep.Grids
namespace Go.Proofs.Ytlomjckmclefeaa
set_option linter.unusedVariables false
set_option linter.unusedSimpArgs false
open Go.ChangeShapes Go.WideShapes Go.ChangeAt Go.RowKit

theorem Try.own : ownKnob Try.prog.godebug = none := by kernel_rfl
theorem Try.laidOut : laidOutB Try.prog = true := by kernel_rfl

theorem spot_none {W : World} {a : Addr} {v : Value} (h : W.cell? (a.add 0) = some v) (hn : ∀ ws, v ≠ .agg ws) : a.spot = none := by
  cases hsp : a.spot with
  | none => rfl
  | some q =>
    have e : a.add 0 = a := rfl
    rw [e] at h
    unfold World.cell? at h
    rw [hsp] at h
    simp at h
    split at h <;> simp_all
theorem add_plain (b off i : Nat) : (⟨b, off, none⟩ : Addr).add i = ⟨b, off + i, none⟩ := by unfold Addr.add; split <;> simp_all

set_option maxRecDepth 100000 in
theorem open_is {H : Type} {enc : TypeId × Value → H} {W : World} {base : Nat} {v : Value} {d : DataW H} {p : List MemPlace}
    (hval : Value.okWide Try.prog W .any base 22 v) (h : DataW.Trod enc Try.prog W 0 (fun _ => true) true 22 v d p) : ∃ xs : List Int, IntsAt W v xs := by
  obtain ⟨a0, len0, cap0, rfl⟩ := okWide_slice Try.underlying22 hval
  obtain ⟨fuel, hf⟩ := h
  rcases open_ints Try.underlying22 Try.underlying3 (by kernel_rfl) hf with ⟨hcs, hx⟩ | ⟨a, len, cap, zs, hcs, _, hl, hm, hz, hx, hcell, hwz⟩
  · simp [Value.cells] at hcs
    obtain ⟨rfl, rfl, rfl⟩ := hcs
    exact ⟨[], ⟨⟨none, 0, rfl, fun h => absurd h (by simp)⟩⟩⟩
  · simp only [Value.cells, List.cons.injEq, Value.slice.injEq, and_true] at hcs
    obtain ⟨rfl, rfl, rfl⟩ := hcs
    rw [if_pos rfl] at hz
    have hL : (zs.take len0).length = len0 := by rw [List.length_take, Nat.min_eq_left (by omega)]
    refine ⟨zs.take len0, ⟨⟨some a, cap0, by rw [hL], fun h0 => ?_⟩⟩⟩
    rw [hL] at h0
    have hspot : a.spot = none := spot_none (hcell 0 (by omega)) (by simp)
    obtain ⟨b, off, sp⟩ := a
    simp only at hspot
    subst hspot
    refine ⟨b, off, rfl, fun i hi => ?_⟩
    rw [hL] at hi
    have hci := hcell i (by omega)
    rw [add_plain] at hci
    rw [hci, List.getElem_take, show zs.getD i 0 = zs[i] by rw [List.getD_eq_getElem?_getD, List.getElem?_eq_getElem (by omega)]; rfl]

set_option maxRecDepth 100000 in
theorem open_bs {H : Type} {enc : TypeId × Value → H} {W : World} {base : Nat} {v : Value} {d : DataW H} {p : List MemPlace}
    (hval : Value.okWide Try.prog W .any base 23 v) (h : DataW.Trod enc Try.prog W 0 (fun _ => true) true 23 v d p) : ∃ xs : List Bool, BoolsAt W v xs := by
  obtain ⟨a0, len0, cap0, rfl⟩ := okWide_slice Try.underlying23 hval
  obtain ⟨fuel, hf⟩ := h
  rcases Go.Deep.open_bools Try.underlying23 Try.underlying4 (by kernel_rfl) hf with ⟨hcs, hx⟩ | ⟨a, len, cap, B, hcs, _, hl, hm, hx, hcell⟩
  · simp [Value.cells] at hcs
    obtain ⟨rfl, rfl, rfl⟩ := hcs
    exact ⟨[], ⟨⟨none, 0, rfl, fun h => absurd h (by simp)⟩⟩⟩
  · simp only [Value.cells, List.cons.injEq, Value.slice.injEq, and_true] at hcs
    obtain ⟨rfl, rfl, rfl⟩ := hcs
    have hL : ((List.range len0).map B).length = len0 := by simp
    refine ⟨(List.range len0).map B, ⟨⟨some a, cap0, by rw [hL], fun h0 => ?_⟩⟩⟩
    rw [hL] at h0
    have hspot : a.spot = none := spot_none (hcell 0 (by omega)) (by simp)
    obtain ⟨b, off, sp⟩ := a
    simp only at hspot
    subst hspot
    refine ⟨b, off, rfl, fun i hi => ?_⟩
    rw [hL] at hi
    have hci := hcell i (by omega)
    rw [add_plain] at hci
    rw [hci]
    simp

theorem orders_any (n : Int) (xs : List Int) (us : List Bool) (v1 v2 : Value) (w : World) (hx : IntsAt w v1 xs) (hu : BoolsAt w v2 us) :
    Calls Try.prog 3 #[.int .i64 n, v1, v2] w fun e w' => e = .returned (.bool true) ∧ Below w.heap.size w w' := by
  by_cases h : n < 1 ∨ 256 < n
  · exact orders_none n v1 v2 h w
  · obtain ⟨m, rfl⟩ := Int.eq_ofNat_of_zero_le (show 0 ≤ n by omega)
    exact orders_walk m (by omega) (by omega) xs us v1 v2 w hx hu

end Go.Proofs.Ytlomjckmclefeaa
