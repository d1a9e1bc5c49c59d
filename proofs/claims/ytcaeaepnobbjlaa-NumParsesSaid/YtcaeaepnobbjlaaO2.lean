import Derived.Test.YtcaeaepnobbjlaaN
import Derived.Test.YtcaeaepnobbjlaaO
import Derived.Lib.SmallJoins
namespace Go.Proofs.Ytcaeaepnobbjlaa
set_option linter.unusedVariables false
set_option linter.unusedSimpArgs false
open Go.ChangeShapes Go.WideShapes Go.ChangeAt Go.RowKit

set_option maxRecDepth 100000 in
theorem open_u64 {H : Type} {enc : TypeId × Value → H} {w : World} {base : Nat} {spare : Nat → Bool} {held : Bool} {r : Reach} {b0 : Nat} {v : Value} {d : DataW H} {p : List MemPlace}
    (hv : Value.okWide Try.prog w r b0 22 v) (h : DataW.Trod enc Try.prog w base spare held 22 v d p) : ∃ n : Nat, n < M ∧ v = .int .u64 n ∧ p = [] := by
  obtain ⟨x, rfl, rfl, rfl, wx⟩ := open_int Try.underlying22 hv h
  have hb := wf_u64 wx
  obtain ⟨n, rfl⟩ := Int.eq_ofNat_of_zero_le hb.1
  exact ⟨n, by rw [M_eq]; omega, rfl, rfl⟩

set_option maxRecDepth 100000 in
theorem open_wide {H : Type} {enc : TypeId × Value → H} {w : World} {base : Nat} {spare : Nat → Bool} {held : Bool} {r : Reach} {b0 : Nat} {v : Value} {d : DataW H} {p : List MemPlace}
    (hv : Value.okWide Try.prog w r b0 24 v) (h : DataW.Trod enc Try.prog w base spare held 24 v d p) : ∃ n : Nat, n < MM ∧ v = W n ∧ p = [] := by
  obtain ⟨v0, v1, y0, y1, n, rfl, rfl, rfl, h0, h1⟩ := Go.Joins.open_agg2 Try.underlying24 (by kernel_rfl) (by kernel_rfl) hv h
  obtain ⟨a, e0, rfl, w0⟩ := DataW.trod_int Try.underlying22 h0
  obtain ⟨b, e1, rfl, w1⟩ := DataW.trod_int Try.underlying22 h1
  simp only [List.cons.injEq, and_true] at e0 e1
  subst e0 e1
  have ha := wf_u64 w0
  have hb := wf_u64 w1
  obtain ⟨x, rfl⟩ := Int.eq_ofNat_of_zero_le ha.1
  obtain ⟨y, rfl⟩ := Int.eq_ofNat_of_zero_le hb.1
  have hy : y < M := by rw [M_eq]; omega
  exact ⟨x * M + y, by rw [MM_eq, M_eq]; omega, wv_W x y hy, rfl⟩

end Go.Proofs.Ytcaeaepnobbjlaa
