/- The feed: the opener of a slice of steps; FeedTells for every input. -/
import Derived.Test.YtlomjckmclefeaaP
import Derived.Test.YtlomjckmclefeaaO
import Derived.Deep.Slices
namespace Go.Proofs.Ytlomjckmclefeaa
set_option linter.unusedVariables false
set_option linter.unusedSimpArgs false
open Go.ChangeShapes Go.WideShapes Go.ChangeAt Go.RowKit

theorem cellsOf44 : Try.prog.cellsOf 44 = 3 := by kernel_rfl
theorem cellsOf3 : Try.prog.cellsOf 3 = 1 := by kernel_rfl
set_option maxRecDepth 100000 in
theorem open_steps {H : Type} {enc : TypeId × Value → H} {W : World} {base : Nat} {v : Value} {d : DataW H} {p : List MemPlace}
    (hval : Value.okWide Try.prog W .any base 35 v) (h : DataW.Trod enc Try.prog W 0 (fun _ => true) true 35 v d p) : ∃ xs : List (Int × Int × Int), StepsAt W v xs := by
  obtain ⟨a0, len0, cap0, rfl⟩ := okWide_slice Try.underlying35 hval
  obtain ⟨fuel, hf⟩ := h
  rcases Go.Deep.open_slice Try.underlying35 hf with ⟨hcs, hx⟩ | ⟨a, len, cap, m, n, D, Pl, hcs, _, hl, hm, hmm, hx, hcell⟩
  · simp [Value.cells] at hcs
    obtain ⟨rfl, rfl, rfl⟩ := hcs
    exact ⟨[], ⟨⟨none, 0, rfl, fun h => absurd h (by simp)⟩⟩⟩
  · simp only [Value.cells, List.cons.injEq, Value.slice.injEq, and_true] at hcs
    obtain ⟨rfl, rfl, rfl⟩ := hcs
    rw [if_pos rfl] at hmm
    have each : ∀ i, i < len0 → ∃ q : Int × Int × Int, W.cell? (a.add (i * 3)) = some (.int .i64 q.1) ∧ W.cell? ((a.add (i * 3)).add 1) = some (.int .i64 q.2.1) ∧ W.cell? ((a.add (i * 3)).add 2) = some (.int .i64 q.2.2) := by
      intro i hi
      obtain ⟨cs', h1, h2⟩ := hcell i (by omega)
      rw [cellsOf44] at h1
      obtain ⟨_, hlen, hc⟩ := World.cells?_some h1
      obtain ⟨xs, k, hk, hxy, _, hxl, hff⟩ := DataW.trod_struct Try.underlying44 h2
      match xs, hxl, cs', hlen with
      | [y0, y1, y2], _, [u0, u1, u2], _ =>
        have g0 := hff 0 _ rfl
        have g1 := hff 1 _ rfl
        have g2 := hff 2 _ rfl
        simp [cellsOf3] at g0 g1 g2
        obtain ⟨z0, k0, -, -⟩ := DataW.trod_int Try.underlying3 g0
        obtain ⟨z1, k1, -, -⟩ := DataW.trod_int Try.underlying3 g1
        obtain ⟨z2, k2, -, -⟩ := DataW.trod_int Try.underlying3 g2
        simp only [List.cons.injEq, and_true] at k0 k1 k2
        subst k0 k1 k2
        have e0 := hc 0 (by omega)
        have e1 := hc 1 (by omega)
        have e2 := hc 2 (by omega)
        refine ⟨(z0, z1, z2), ?_, ?_, ?_⟩
        · exact e0
        · exact e1
        · exact e2
    obtain ⟨q, hq⟩ := Go.Deep.choose_lt each
    have hL : ((List.range len0).map q).length = len0 := by simp
    refine ⟨(List.range len0).map q, ⟨⟨some a, cap0, by rw [hL], fun h0 => ?_⟩⟩⟩
    rw [hL] at h0
    have hspot : a.spot = none := by
      have := (hq 0 h0).1
      rw [Nat.zero_mul] at this
      exact spot_none this (by simp)
    obtain ⟨b, off, sp⟩ := a
    simp only at hspot
    subst hspot
    refine ⟨b, off, rfl, fun i hi => ?_⟩
    rw [hL] at hi
    obtain ⟨y0, y1, y2⟩ := hq i hi
    rw [add_plain] at y0 y1 y2
    rw [add_plain] at y1 y2
    simp only [List.getElem_map, List.getElem_range]
    exact ⟨y0, y1, y2⟩

theorem tells_any (n m : Int) (xs : List (Int × Int × Int)) (v : Value) (w : World) (hx : StepsAt w v xs) :
    Calls Try.prog 4 #[.int .i64 n, .int .i64 m, v] w fun e w' => e = .returned (.bool true) ∧ Below w.heap.size w w' := by
  by_cases h1 : n < 1 ∨ 256 < n
  · by_cases h2 : m < 1 ∨ 256 < m
    · exact tells_nn n m v h1 h2 w
    · obtain ⟨m', rfl⟩ := Int.eq_ofNat_of_zero_le (show 0 ≤ m by omega)
      exact tells_ns n m' v h1 (by omega) (by omega) w
  · obtain ⟨n', rfl⟩ := Int.eq_ofNat_of_zero_le (show 0 ≤ n by omega)
    by_cases h2 : m < 1 ∨ 256 < m
    · exact tells_sn n' m v (by omega) (by omega) h2 w
    · obtain ⟨m', rfl⟩ := Int.eq_ofNat_of_zero_le (show 0 ≤ m by omega)
      exact tells_walk n' m' (by omega) (by omega) (by omega) (by omega) xs v w hx

end Go.Proofs.Ytlomjckmclefeaa
