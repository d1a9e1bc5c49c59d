/-
  No cell of these rows narrows 'for every input' (looked for: loops, veiled, ifaces, maps, wideKeys, modest, calm, conditions, laid).
  DERIVED. THE GIVEN ROWS OF THIS SEAT. 3 by the template 'for every input the law returns true; each argument reads behind the call as it read before'; 0 by the template 'total and deterministic' (their statements: YtlomjckmclefeaaTotals.lean).
  GIVEN WITH THE SEED: the statements are not yours to turn. If you find one false, say at which input.
  Laid BY PROGRAM, IN A SANDBOX (cutbox-rows.mjs): the forced cells as the released guide's own fill.sh prints them over the translation 4fde1372c711af54… (all of the seat's roots in one cut). By AI agents, Wed Nov 11 2026. No macro, syntax, notation, axiom, sorry.
-/
import Derived.Test.YtlomjckmclefeaaChecked
import GoSem.Claim
import GoSem.ClaimJoined
import GoSem.ClaimMapViews
import Derived.JoinedTies
import Derived.KernelRfl
namespace Go.Proofs.Ytlomjckmclefeaa
/- THE CELL 'sum', in the pinned program and in every row, IS THE sha256 OF THE DUMP (.gsa) THAT YtlomjckmclefeaaProg.lean LOADS. Nothing in Lean hashes anything: it is a label: what it is worth is what the hold of that sum in a sandbox is worth. -/
noncomputable def Try.pinned : Pinned := { name := "ytlomjckmclefeaa", sum := "4fde1372c711af545c37a9c4bd195ee147db496e89fa33d15dad6bee4d83314e", checked := Try.checked }
namespace Rows
def none {H : Type} : Left H := { results := [], args := [] }

/-- 'cribblelaw19.FeedOrders': WHATEVER THE INPUT: true; the input reads as it did. -/
def feedOrdersSpec : ChangeSpec := { name := "feedOrders", fn := fun _ => fun
  | [d1, d2, d3] => { results := [.lit (.bool true)], args := [d1, d2, d3] }
  | _ => none }
def feedOrdersRow : OpenClaim := { program := "ytlomjckmclefeaa", sum := "4fde1372c711af545c37a9c4bd195ee147db496e89fa33d15dad6bee4d83314e", func := "cribble/cribblelaw19.FeedOrders", spec := "feedOrders", apart := false }
def FeedOrdersSaid : Prop := feedOrdersRow.holds Try.pinned (OpenSpec.ofChange feedOrdersSpec)

/-- ITS FALSE NEIGHBOUR: 'it returns false'. Refute it at one input. -/
def feedOrdersWrong : ChangeSpec := { name := "feedOrders", fn := fun _ => fun
  | [d1, d2, d3] => { results := [.lit (.bool false)], args := [d1, d2, d3] }
  | _ => none }
def FeedOrdersWrongFalsely : Prop := feedOrdersRow.holds Try.pinned (OpenSpec.ofChange feedOrdersWrong)

/-- 'cribblelaw19.FeedTells': WHATEVER THE INPUT: true; the input reads as it did. -/
def feedTellsSpec : ChangeSpec := { name := "feedTells", fn := fun _ => fun
  | [d1, d2, d3] => { results := [.lit (.bool true)], args := [d1, d2, d3] }
  | _ => none }
def feedTellsRow : OpenClaim := { program := "ytlomjckmclefeaa", sum := "4fde1372c711af545c37a9c4bd195ee147db496e89fa33d15dad6bee4d83314e", func := "cribble/cribblelaw19.FeedTells", spec := "feedTells", apart := false }
def FeedTellsSaid : Prop := feedTellsRow.holds Try.pinned (OpenSpec.ofChange feedTellsSpec)

/-- ITS FALSE NEIGHBOUR: 'it returns false'. Refute it at one input. -/
def feedTellsWrong : ChangeSpec := { name := "feedTells", fn := fun _ => fun
  | [d1, d2, d3] => { results := [.lit (.bool false)], args := [d1, d2, d3] }
  | _ => none }
def FeedTellsWrongFalsely : Prop := feedTellsRow.holds Try.pinned (OpenSpec.ofChange feedTellsWrong)

/-- 'cribblelaw19.FeedPours': WHATEVER THE INPUT: true; the input reads as it did. -/
def feedPoursSpec : ChangeSpec := { name := "feedPours", fn := fun _ => fun
  | [d1, d2, d3] => { results := [.lit (.bool true)], args := [d1, d2, d3] }
  | _ => none }
def feedPoursRow : OpenClaim := { program := "ytlomjckmclefeaa", sum := "4fde1372c711af545c37a9c4bd195ee147db496e89fa33d15dad6bee4d83314e", func := "cribble/cribblelaw19.FeedPours", spec := "feedPours", apart := false }
def FeedPoursSaid : Prop := feedPoursRow.holds Try.pinned (OpenSpec.ofChange feedPoursSpec)

/-- ITS FALSE NEIGHBOUR: 'it returns false'. Refute it at one input. -/
def feedPoursWrong : ChangeSpec := { name := "feedPours", fn := fun _ => fun
  | [d1, d2, d3] => { results := [.lit (.bool false)], args := [d1, d2, d3] }
  | _ => none }
def FeedPoursWrongFalsely : Prop := feedPoursRow.holds Try.pinned (OpenSpec.ofChange feedPoursWrong)

/- THE SECOND FORM. 'bulk': how many values and letters a reading holds, each counted each time it is reached (what is shared counts as often as it is met; a slice's spare places count too). A statement '..UptoSaid' is the law's where the arguments, and the package variables that the reading takes, are together of bulk at most 1048576: NARROWER than '..Said'. Prove '..Said' where nothing that the law and all that it calls make is longer than what came in: it says more and counts as full. Else prove '..UptoSaid'. A law counts once. -/
mutual
def uptoBulk {H : Type} : DataW H → Nat
  | .lit (.string bytes) => bytes.length + 1
  | .lit _ => 1
  | .nil => 1
  | .ptr d => uptoBulk d + 1
  | .slice elems spare => uptoBulkAll elems + uptoBulkAll spare + 1
  | .agg parts => uptoBulkAll parts + 1
  | .iface _ d => uptoBulk d + 1
  | .map entries => uptoBulkEntries entries + 1
  | .held _ => 1
def uptoBulkAll {H : Type} : List (DataW H) → Nat
  | [] => 0
  | d :: r => uptoBulk d + uptoBulkAll r
def uptoBulkEntries {H : Type} : List (Lit × DataW H) → Nat
  | [] => 0
  | x :: r => uptoBulkEntry x + uptoBulkEntries r
def uptoBulkEntry {H : Type} : Lit × DataW H → Nat
  | (.string bytes, d) => bytes.length + uptoBulk d + 1
  | (_, d) => uptoBulk d + 1
 end
def uptoSmall : (H : Type) → List (DataW H) → Bool := fun _ ds => decide (uptoBulkAll ds ≤ 1048576)
def OpenSpec.upto (s : _root_.Go.ChangeSpec) : _root_.Go.OpenSpec := { _root_.Go.OpenSpec.ofChange s with cond := some uptoSmall }

/-- 'cribblelaw19.FeedOrders', WHERE WHAT IT READS IS OF BULK AT MOST 1048576: true; the input reads as it did. -/
def feedOrdersUptoRow : OpenClaim := { program := "ytlomjckmclefeaa", sum := "4fde1372c711af545c37a9c4bd195ee147db496e89fa33d15dad6bee4d83314e", func := "cribble/cribblelaw19.FeedOrders", spec := "feedOrders", apart := false, narrowed := true }
def FeedOrdersUptoSaid : Prop := feedOrdersUptoRow.holds Try.pinned (OpenSpec.upto feedOrdersSpec)

/-- 'cribblelaw19.FeedTells', WHERE WHAT IT READS IS OF BULK AT MOST 1048576: true; the input reads as it did. -/
def feedTellsUptoRow : OpenClaim := { program := "ytlomjckmclefeaa", sum := "4fde1372c711af545c37a9c4bd195ee147db496e89fa33d15dad6bee4d83314e", func := "cribble/cribblelaw19.FeedTells", spec := "feedTells", apart := false, narrowed := true }
def FeedTellsUptoSaid : Prop := feedTellsUptoRow.holds Try.pinned (OpenSpec.upto feedTellsSpec)

/-- 'cribblelaw19.FeedPours', WHERE WHAT IT READS IS OF BULK AT MOST 1048576: true; the input reads as it did. -/
def feedPoursUptoRow : OpenClaim := { program := "ytlomjckmclefeaa", sum := "4fde1372c711af545c37a9c4bd195ee147db496e89fa33d15dad6bee4d83314e", func := "cribble/cribblelaw19.FeedPours", spec := "feedPours", apart := false, narrowed := true }
def FeedPoursUptoSaid : Prop := feedPoursUptoRow.holds Try.pinned (OpenSpec.upto feedPoursSpec)

end Rows
end Go.Proofs.Ytlomjckmclefeaa
