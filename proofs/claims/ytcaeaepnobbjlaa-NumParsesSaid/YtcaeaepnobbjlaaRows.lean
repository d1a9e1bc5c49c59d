/-
  No cell of these rows narrows 'for every input' (looked for: loops, veiled, ifaces, maps, wideKeys, modest, calm, conditions, laid).
  DERIVED. THE GIVEN ROWS OF THIS SEAT. 16 by the template 'for every input the law returns true; each argument reads behind the call as it read before'; 0 by the template 'total and deterministic' (their statements: YtcaeaepnobbjlaaTotals.lean).
  GIVEN WITH THE SEED: the statements are not yours to turn. If you find one false, say at which input.
  Laid BY PROGRAM, IN A SANDBOX (cutbox-rows.mjs): the forced cells as the released guide's own fill.sh prints them over the translation b08f34ccfb1b2315… (all of the seat's roots in one cut). By AI agents, Wed Nov 11 2026. No macro, syntax, notation, axiom, sorry.
-/
import Derived.Test.YtcaeaepnobbjlaaChecked
import GoSem.Claim
import GoSem.ClaimJoined
import GoSem.ClaimMapViews
import Derived.JoinedTies
import Derived.KernelRfl
namespace Go.Proofs.Ytcaeaepnobbjlaa
/- THE CELL 'sum', in the pinned program and in every row, IS THE sha256 OF THE DUMP (.gsa) THAT YtcaeaepnobbjlaaProg.lean LOADS. Nothing in Lean hashes anything: it is a label: what it is worth is what the hold of that sum in a sandbox is worth. -/
noncomputable def Try.pinned : Pinned := { name := "ytcaeaepnobbjlaa", sum := "b08f34ccfb1b231596679ef85e8d9c0da25393f0ea51d2ffa1e51a9902a84be7", checked := Try.checked }
namespace Rows
def none {H : Type} : Left H := { results := [], args := [] }

/-- 'cribblelaw01.WideSums': WHATEVER THE INPUT: true; the input reads as it did. -/
def wideSumsSpec : ChangeSpec := { name := "wideSums", fn := fun _ => fun
  | [d1, d2] => { results := [.lit (.bool true)], args := [d1, d2] }
  | _ => none }
def wideSumsRow : OpenClaim := { program := "ytcaeaepnobbjlaa", sum := "b08f34ccfb1b231596679ef85e8d9c0da25393f0ea51d2ffa1e51a9902a84be7", func := "cribble/cribblelaw01.WideSums", spec := "wideSums", inPlace := ["math/bits.Add64", "math/bits.Sub64"], apart := false }
def WideSumsSaid : Prop := wideSumsRow.holds Try.pinned (OpenSpec.ofChange wideSumsSpec)

/-- ITS FALSE NEIGHBOUR: 'it returns false'. Refute it at one input. -/
def wideSumsWrong : ChangeSpec := { name := "wideSums", fn := fun _ => fun
  | [d1, d2] => { results := [.lit (.bool false)], args := [d1, d2] }
  | _ => none }
def WideSumsWrongFalsely : Prop := wideSumsRow.holds Try.pinned (OpenSpec.ofChange wideSumsWrong)

/-- 'cribblelaw01.WideProducts': WHATEVER THE INPUT: true; the input reads as it did. -/
def wideProductsSpec : ChangeSpec := { name := "wideProducts", fn := fun _ => fun
  | [d1, d2] => { results := [.lit (.bool true)], args := [d1, d2] }
  | _ => none }
def wideProductsRow : OpenClaim := { program := "ytcaeaepnobbjlaa", sum := "b08f34ccfb1b231596679ef85e8d9c0da25393f0ea51d2ffa1e51a9902a84be7", func := "cribble/cribblelaw01.WideProducts", spec := "wideProducts", inPlace := ["math/bits.Add64", "math/bits.Sub64"], apart := false }
def WideProductsSaid : Prop := wideProductsRow.holds Try.pinned (OpenSpec.ofChange wideProductsSpec)

/-- ITS FALSE NEIGHBOUR: 'it returns false'. Refute it at one input. -/
def wideProductsWrong : ChangeSpec := { name := "wideProducts", fn := fun _ => fun
  | [d1, d2] => { results := [.lit (.bool false)], args := [d1, d2] }
  | _ => none }
def WideProductsWrongFalsely : Prop := wideProductsRow.holds Try.pinned (OpenSpec.ofChange wideProductsWrong)

/-- 'cribblelaw01.WideBack': WHATEVER THE INPUT: true; the input reads as it did. -/
def wideBackSpec : ChangeSpec := { name := "wideBack", fn := fun _ => fun
  | [d1, d2, d3] => { results := [.lit (.bool true)], args := [d1, d2, d3] }
  | _ => none }
def wideBackRow : OpenClaim := { program := "ytcaeaepnobbjlaa", sum := "b08f34ccfb1b231596679ef85e8d9c0da25393f0ea51d2ffa1e51a9902a84be7", func := "cribble/cribblelaw01.WideBack", spec := "wideBack", inPlace := ["math/bits.Add64", "math/bits.Sub64"], apart := false }
def WideBackSaid : Prop := wideBackRow.holds Try.pinned (OpenSpec.ofChange wideBackSpec)

/-- ITS FALSE NEIGHBOUR: 'it returns false'. Refute it at one input. -/
def wideBackWrong : ChangeSpec := { name := "wideBack", fn := fun _ => fun
  | [d1, d2, d3] => { results := [.lit (.bool false)], args := [d1, d2, d3] }
  | _ => none }
def WideBackWrongFalsely : Prop := wideBackRow.holds Try.pinned (OpenSpec.ofChange wideBackWrong)

/-- 'cribblelaw01.WideMuls': WHATEVER THE INPUT: true; the input reads as it did. -/
def wideMulsSpec : ChangeSpec := { name := "wideMuls", fn := fun _ => fun
  | [d1, d2, d3, d4, d5] => { results := [.lit (.bool true)], args := [d1, d2, d3, d4, d5] }
  | _ => none }
def wideMulsRow : OpenClaim := { program := "ytcaeaepnobbjlaa", sum := "b08f34ccfb1b231596679ef85e8d9c0da25393f0ea51d2ffa1e51a9902a84be7", func := "cribble/cribblelaw01.WideMuls", spec := "wideMuls", inPlace := ["math/bits.Add64", "math/bits.Sub64"], apart := false }
def WideMulsSaid : Prop := wideMulsRow.holds Try.pinned (OpenSpec.ofChange wideMulsSpec)

/-- ITS FALSE NEIGHBOUR: 'it returns false'. Refute it at one input. -/
def wideMulsWrong : ChangeSpec := { name := "wideMuls", fn := fun _ => fun
  | [d1, d2, d3, d4, d5] => { results := [.lit (.bool false)], args := [d1, d2, d3, d4, d5] }
  | _ => none }
def WideMulsWrongFalsely : Prop := wideMulsRow.holds Try.pinned (OpenSpec.ofChange wideMulsWrong)

/-- 'cribblelaw01.WideBits': WHATEVER THE INPUT: true; the input reads as it did. -/
def wideBitsSpec : ChangeSpec := { name := "wideBits", fn := fun _ => fun
  | [d1, d2, d3] => { results := [.lit (.bool true)], args := [d1, d2, d3] }
  | _ => none }
def wideBitsRow : OpenClaim := { program := "ytcaeaepnobbjlaa", sum := "b08f34ccfb1b231596679ef85e8d9c0da25393f0ea51d2ffa1e51a9902a84be7", func := "cribble/cribblelaw01.WideBits", spec := "wideBits", inPlace := ["math/bits.Add64", "math/bits.Sub64"], apart := false }
def WideBitsSaid : Prop := wideBitsRow.holds Try.pinned (OpenSpec.ofChange wideBitsSpec)

/-- ITS FALSE NEIGHBOUR: 'it returns false'. Refute it at one input. -/
def wideBitsWrong : ChangeSpec := { name := "wideBits", fn := fun _ => fun
  | [d1, d2, d3] => { results := [.lit (.bool false)], args := [d1, d2, d3] }
  | _ => none }
def WideBitsWrongFalsely : Prop := wideBitsRow.holds Try.pinned (OpenSpec.ofChange wideBitsWrong)

/-- 'cribblelaw01.WideTops': WHATEVER THE INPUT: true; the input reads as it did. -/
def wideTopsSpec : ChangeSpec := { name := "wideTops", fn := fun _ => fun
  | [d1, d2, d3] => { results := [.lit (.bool true)], args := [d1, d2, d3] }
  | _ => none }
def wideTopsRow : OpenClaim := { program := "ytcaeaepnobbjlaa", sum := "b08f34ccfb1b231596679ef85e8d9c0da25393f0ea51d2ffa1e51a9902a84be7", func := "cribble/cribblelaw01.WideTops", spec := "wideTops", inPlace := ["math/bits.Add64", "math/bits.Sub64"], apart := false }
def WideTopsSaid : Prop := wideTopsRow.holds Try.pinned (OpenSpec.ofChange wideTopsSpec)

/-- ITS FALSE NEIGHBOUR: 'it returns false'. Refute it at one input. -/
def wideTopsWrong : ChangeSpec := { name := "wideTops", fn := fun _ => fun
  | [d1, d2, d3] => { results := [.lit (.bool false)], args := [d1, d2, d3] }
  | _ => none }
def WideTopsWrongFalsely : Prop := wideTopsRow.holds Try.pinned (OpenSpec.ofChange wideTopsWrong)

/-- 'cribblelaw06.NumPrints': WHATEVER THE INPUT: true; the input reads as it did. -/
def numPrintsSpec : ChangeSpec := { name := "numPrints", fn := fun _ => fun
  | [d] => { results := [.lit (.bool true)], args := [d] }
  | _ => none }
def numPrintsRow : OpenClaim := { program := "ytcaeaepnobbjlaa", sum := "b08f34ccfb1b231596679ef85e8d9c0da25393f0ea51d2ffa1e51a9902a84be7", func := "cribble/cribblelaw06.NumPrints", spec := "numPrints", inPlace := ["math/bits.Add64"], apart := false }
def NumPrintsSaid : Prop := numPrintsRow.holds Try.pinned (OpenSpec.ofChange numPrintsSpec)

/-- ITS FALSE NEIGHBOUR: 'it returns false'. Refute it at one input. -/
def numPrintsWrong : ChangeSpec := { name := "numPrints", fn := fun _ => fun
  | [d] => { results := [.lit (.bool false)], args := [d] }
  | _ => none }
def NumPrintsWrongFalsely : Prop := numPrintsRow.holds Try.pinned (OpenSpec.ofChange numPrintsWrong)

/-- 'cribblelaw06.NumParses': WHATEVER THE INPUT: true; the input reads as it did. -/
def numParsesSpec : ChangeSpec := { name := "numParses", fn := fun _ => fun
  | [d1, d2] => { results := [.lit (.bool true)], args := [d1, d2] }
  | _ => none }
def numParsesRow : OpenClaim := { program := "ytcaeaepnobbjlaa", sum := "b08f34ccfb1b231596679ef85e8d9c0da25393f0ea51d2ffa1e51a9902a84be7", func := "cribble/cribblelaw06.NumParses", spec := "numParses", inPlace := ["math/bits.Add64"], apart := false }
def NumParsesSaid : Prop := numParsesRow.holds Try.pinned (OpenSpec.ofChange numParsesSpec)

/-- ITS FALSE NEIGHBOUR: 'it returns false'. Refute it at one input. -/
def numParsesWrong : ChangeSpec := { name := "numParses", fn := fun _ => fun
  | [d1, d2] => { results := [.lit (.bool false)], args := [d1, d2] }
  | _ => none }
def NumParsesWrongFalsely : Prop := numParsesRow.holds Try.pinned (OpenSpec.ofChange numParsesWrong)

/-- 'cribblelaw06.NumBack': WHATEVER THE INPUT: true; the input reads as it did. -/
def numBackSpec : ChangeSpec := { name := "numBack", fn := fun _ => fun
  | [d1, d2, d3] => { results := [.lit (.bool true)], args := [d1, d2, d3] }
  | _ => none }
def numBackRow : OpenClaim := { program := "ytcaeaepnobbjlaa", sum := "b08f34ccfb1b231596679ef85e8d9c0da25393f0ea51d2ffa1e51a9902a84be7", func := "cribble/cribblelaw06.NumBack", spec := "numBack", inPlace := ["math/bits.Add64"], apart := false }
def NumBackSaid : Prop := numBackRow.holds Try.pinned (OpenSpec.ofChange numBackSpec)

/-- ITS FALSE NEIGHBOUR: 'it returns false'. Refute it at one input. -/
def numBackWrong : ChangeSpec := { name := "numBack", fn := fun _ => fun
  | [d1, d2, d3] => { results := [.lit (.bool false)], args := [d1, d2, d3] }
  | _ => none }
def NumBackWrongFalsely : Prop := numBackRow.holds Try.pinned (OpenSpec.ofChange numBackWrong)

/-- 'cribblelaw12.RatioTells': WHATEVER THE INPUT: true; the input reads as it did. -/
def ratioTellsSpec : ChangeSpec := { name := "ratioTells", fn := fun _ => fun
  | [d1, d2, d3, d4, d5] => { results := [.lit (.bool true)], args := [d1, d2, d3, d4, d5] }
  | _ => none }
def ratioTellsRow : OpenClaim := { program := "ytcaeaepnobbjlaa", sum := "b08f34ccfb1b231596679ef85e8d9c0da25393f0ea51d2ffa1e51a9902a84be7", func := "cribble/cribblelaw12.RatioTells", spec := "ratioTells", inPlace := ["math/bits.Add64", "math/bits.Sub64"], named := ["math/bits.divideError", "math/bits.overflowError"], apart := false }
def RatioTellsSaid : Prop := ratioTellsRow.holds Try.pinned (OpenSpec.ofChange ratioTellsSpec)

/-- ITS FALSE NEIGHBOUR: 'it returns false'. Refute it at one input. -/
def ratioTellsWrong : ChangeSpec := { name := "ratioTells", fn := fun _ => fun
  | [d1, d2, d3, d4, d5] => { results := [.lit (.bool false)], args := [d1, d2, d3, d4, d5] }
  | _ => none }
def RatioTellsWrongFalsely : Prop := ratioTellsRow.holds Try.pinned (OpenSpec.ofChange ratioTellsWrong)

/-- 'cribblelaw12.RatioDivides': WHATEVER THE INPUT: true; the input reads as it did. -/
def ratioDividesSpec : ChangeSpec := { name := "ratioDivides", fn := fun _ => fun
  | [d1, d2] => { results := [.lit (.bool true)], args := [d1, d2] }
  | _ => none }
def ratioDividesRow : OpenClaim := { program := "ytcaeaepnobbjlaa", sum := "b08f34ccfb1b231596679ef85e8d9c0da25393f0ea51d2ffa1e51a9902a84be7", func := "cribble/cribblelaw12.RatioDivides", spec := "ratioDivides", inPlace := ["math/bits.Add64", "math/bits.Sub64"], named := ["math/bits.divideError", "math/bits.overflowError"], apart := false }
def RatioDividesSaid : Prop := ratioDividesRow.holds Try.pinned (OpenSpec.ofChange ratioDividesSpec)

/-- ITS FALSE NEIGHBOUR: 'it returns false'. Refute it at one input. -/
def ratioDividesWrong : ChangeSpec := { name := "ratioDivides", fn := fun _ => fun
  | [d1, d2] => { results := [.lit (.bool false)], args := [d1, d2] }
  | _ => none }
def RatioDividesWrongFalsely : Prop := ratioDividesRow.holds Try.pinned (OpenSpec.ofChange ratioDividesWrong)

/-- 'cribblelaw12.RatioSums': WHATEVER THE INPUT: true; the input reads as it did. -/
def ratioSumsSpec : ChangeSpec := { name := "ratioSums", fn := fun _ => fun
  | [d1, d2, d3, d4] => { results := [.lit (.bool true)], args := [d1, d2, d3, d4] }
  | _ => none }
def ratioSumsRow : OpenClaim := { program := "ytcaeaepnobbjlaa", sum := "b08f34ccfb1b231596679ef85e8d9c0da25393f0ea51d2ffa1e51a9902a84be7", func := "cribble/cribblelaw12.RatioSums", spec := "ratioSums", inPlace := ["math/bits.Add64", "math/bits.Sub64"], named := ["math/bits.divideError", "math/bits.overflowError"], apart := false }
def RatioSumsSaid : Prop := ratioSumsRow.holds Try.pinned (OpenSpec.ofChange ratioSumsSpec)

/-- ITS FALSE NEIGHBOUR: 'it returns false'. Refute it at one input. -/
def ratioSumsWrong : ChangeSpec := { name := "ratioSums", fn := fun _ => fun
  | [d1, d2, d3, d4] => { results := [.lit (.bool false)], args := [d1, d2, d3, d4] }
  | _ => none }
def RatioSumsWrongFalsely : Prop := ratioSumsRow.holds Try.pinned (OpenSpec.ofChange ratioSumsWrong)

/-- 'cribblelaw12.RatioLeast': WHATEVER THE INPUT: true; the input reads as it did. -/
def ratioLeastSpec : ChangeSpec := { name := "ratioLeast", fn := fun _ => fun
  | [d1, d2, d3, d4, d5] => { results := [.lit (.bool true)], args := [d1, d2, d3, d4, d5] }
  | _ => none }
def ratioLeastRow : OpenClaim := { program := "ytcaeaepnobbjlaa", sum := "b08f34ccfb1b231596679ef85e8d9c0da25393f0ea51d2ffa1e51a9902a84be7", func := "cribble/cribblelaw12.RatioLeast", spec := "ratioLeast", inPlace := ["math/bits.Add64", "math/bits.Sub64"], named := ["math/bits.divideError", "math/bits.overflowError"], apart := false }
def RatioLeastSaid : Prop := ratioLeastRow.holds Try.pinned (OpenSpec.ofChange ratioLeastSpec)

/-- ITS FALSE NEIGHBOUR: 'it returns false'. Refute it at one input. -/
def ratioLeastWrong : ChangeSpec := { name := "ratioLeast", fn := fun _ => fun
  | [d1, d2, d3, d4, d5] => { results := [.lit (.bool false)], args := [d1, d2, d3, d4, d5] }
  | _ => none }
def RatioLeastWrongFalsely : Prop := ratioLeastRow.holds Try.pinned (OpenSpec.ofChange ratioLeastWrong)

/-- 'cribblelaw12.RatioJoins': WHATEVER THE INPUT: true; the input reads as it did. -/
def ratioJoinsSpec : ChangeSpec := { name := "ratioJoins", fn := fun _ => fun
  | [d1, d2, d3, d4, d5, d6] => { results := [.lit (.bool true)], args := [d1, d2, d3, d4, d5, d6] }
  | _ => none }
def ratioJoinsRow : OpenClaim := { program := "ytcaeaepnobbjlaa", sum := "b08f34ccfb1b231596679ef85e8d9c0da25393f0ea51d2ffa1e51a9902a84be7", func := "cribble/cribblelaw12.RatioJoins", spec := "ratioJoins", inPlace := ["math/bits.Add64", "math/bits.Sub64"], named := ["math/bits.divideError", "math/bits.overflowError"], apart := false }
def RatioJoinsSaid : Prop := ratioJoinsRow.holds Try.pinned (OpenSpec.ofChange ratioJoinsSpec)

/-- ITS FALSE NEIGHBOUR: 'it returns false'. Refute it at one input. -/
def ratioJoinsWrong : ChangeSpec := { name := "ratioJoins", fn := fun _ => fun
  | [d1, d2, d3, d4, d5, d6] => { results := [.lit (.bool false)], args := [d1, d2, d3, d4, d5, d6] }
  | _ => none }
def RatioJoinsWrongFalsely : Prop := ratioJoinsRow.holds Try.pinned (OpenSpec.ofChange ratioJoinsWrong)

/-- 'cribblelaw12.RatioMost': WHATEVER THE INPUT: true; the input reads as it did. -/
def ratioMostSpec : ChangeSpec := { name := "ratioMost", fn := fun _ => fun
  | [d1, d2, d3, d4] => { results := [.lit (.bool true)], args := [d1, d2, d3, d4] }
  | _ => none }
def ratioMostRow : OpenClaim := { program := "ytcaeaepnobbjlaa", sum := "b08f34ccfb1b231596679ef85e8d9c0da25393f0ea51d2ffa1e51a9902a84be7", func := "cribble/cribblelaw12.RatioMost", spec := "ratioMost", inPlace := ["math/bits.Add64", "math/bits.Sub64"], named := ["math/bits.divideError", "math/bits.overflowError"], apart := false }
def RatioMostSaid : Prop := ratioMostRow.holds Try.pinned (OpenSpec.ofChange ratioMostSpec)

/-- ITS FALSE NEIGHBOUR: 'it returns false'. Refute it at one input. -/
def ratioMostWrong : ChangeSpec := { name := "ratioMost", fn := fun _ => fun
  | [d1, d2, d3, d4] => { results := [.lit (.bool false)], args := [d1, d2, d3, d4] }
  | _ => none }
def RatioMostWrongFalsely : Prop := ratioMostRow.holds Try.pinned (OpenSpec.ofChange ratioMostWrong)

/-- 'cribblelaw12.RatioClips': WHATEVER THE INPUT: true; the input reads as it did. -/
def ratioClipsSpec : ChangeSpec := { name := "ratioClips", fn := fun _ => fun
  | [d1, d2, d3, d4] => { results := [.lit (.bool true)], args := [d1, d2, d3, d4] }
  | _ => none }
def ratioClipsRow : OpenClaim := { program := "ytcaeaepnobbjlaa", sum := "b08f34ccfb1b231596679ef85e8d9c0da25393f0ea51d2ffa1e51a9902a84be7", func := "cribble/cribblelaw12.RatioClips", spec := "ratioClips", inPlace := ["math/bits.Sub64", "math/bits.Add64"], named := ["math/bits.divideError", "math/bits.overflowError"], apart := false }
def RatioClipsSaid : Prop := ratioClipsRow.holds Try.pinned (OpenSpec.ofChange ratioClipsSpec)

/-- ITS FALSE NEIGHBOUR: 'it returns false'. Refute it at one input. -/
def ratioClipsWrong : ChangeSpec := { name := "ratioClips", fn := fun _ => fun
  | [d1, d2, d3, d4] => { results := [.lit (.bool false)], args := [d1, d2, d3, d4] }
  | _ => none }
def RatioClipsWrongFalsely : Prop := ratioClipsRow.holds Try.pinned (OpenSpec.ofChange ratioClipsWrong)

/- THE SECOND FORM. 'bulk': how many values and letters a reading holds, each counted each time it is reached (what is shared counts as often as it is met; a slice's spare places count too). A statement '..UptoSaid' is the law's where the arguments, and the package variables that the reading takes, are together of bulk at most 1048576: NARROWER than '..Said'. Prove '..Said' where nothing that the law and all that it calls make is longer than what came in: it says more and counts as full. Else prove '..UptoSaid'. A law counts once. -/
mutual
def uptoBulk {H : Type} : DataW H → Nat
  | .lit (.string bytes) => bytes.length + 1
  | .lit _ => 1
  | .nil => 1
  | .ptr d => uptoBulk d + 1
  | .slice elems spare => uptoBulkAll elems + uptoBulkAll spare + 1
  | .agg parts => uptoBulkAll parts + 1
  | .iface _ d => uptoBulk d + 1
  | .map entries => uptoBulkEntries entries + 1
  | .held _ => 1
def uptoBulkAll {H : Type} : List (DataW H) → Nat
  | [] => 0
  | d :: r => uptoBulk d + uptoBulkAll r
def uptoBulkEntries {H : Type} : List (Lit × DataW H) → Nat
  | [] => 0
  | x :: r => uptoBulkEntry x + uptoBulkEntries r
def uptoBulkEntry {H : Type} : Lit × DataW H → Nat
  | (.string bytes, d) => bytes.length + uptoBulk d + 1
  | (_, d) => uptoBulk d + 1
 end
def uptoSmall : (H : Type) → List (DataW H) → Bool := fun _ ds => decide (uptoBulkAll ds ≤ 1048576)
def OpenSpec.upto (s : _root_.Go.ChangeSpec) : _root_.Go.OpenSpec := { _root_.Go.OpenSpec.ofChange s with cond := some uptoSmall }

/-- 'cribblelaw01.WideSums', WHERE WHAT IT READS IS OF BULK AT MOST 1048576: true; the input reads as it did. -/
def wideSumsUptoRow : OpenClaim := { program := "ytcaeaepnobbjlaa", sum := "b08f34ccfb1b231596679ef85e8d9c0da25393f0ea51d2ffa1e51a9902a84be7", func := "cribble/cribblelaw01.WideSums", spec := "wideSums", inPlace := ["math/bits.Add64", "math/bits.Sub64"], apart := false, narrowed := true }
def WideSumsUptoSaid : Prop := wideSumsUptoRow.holds Try.pinned (OpenSpec.upto wideSumsSpec)

/-- 'cribblelaw01.WideProducts', WHERE WHAT IT READS IS OF BULK AT MOST 1048576: true; the input reads as it did. -/
def wideProductsUptoRow : OpenClaim := { program := "ytcaeaepnobbjlaa", sum := "b08f34ccfb1b231596679ef85e8d9c0da25393f0ea51d2ffa1e51a9902a84be7", func := "cribble/cribblelaw01.WideProducts", spec := "wideProducts", inPlace := ["math/bits.Add64", "math/bits.Sub64"], apart := false, narrowed := true }
def WideProductsUptoSaid : Prop := wideProductsUptoRow.holds Try.pinned (OpenSpec.upto wideProductsSpec)

/-- 'cribblelaw01.WideBack', WHERE WHAT IT READS IS OF BULK AT MOST 1048576: true; the input reads as it did. -/
def wideBackUptoRow : OpenClaim := { program := "ytcaeaepnobbjlaa", sum := "b08f34ccfb1b231596679ef85e8d9c0da25393f0ea51d2ffa1e51a9902a84be7", func := "cribble/cribblelaw01.WideBack", spec := "wideBack", inPlace := ["math/bits.Add64", "math/bits.Sub64"], apart := false, narrowed := true }
def WideBackUptoSaid : Prop := wideBackUptoRow.holds Try.pinned (OpenSpec.upto wideBackSpec)

/-- 'cribblelaw01.WideMuls', WHERE WHAT IT READS IS OF BULK AT MOST 1048576: true; the input reads as it did. -/
def wideMulsUptoRow : OpenClaim := { program := "ytcaeaepnobbjlaa", sum := "b08f34ccfb1b231596679ef85e8d9c0da25393f0ea51d2ffa1e51a9902a84be7", func := "cribble/cribblelaw01.WideMuls", spec := "wideMuls", inPlace := ["math/bits.Add64", "math/bits.Sub64"], apart := false, narrowed := true }
def WideMulsUptoSaid : Prop := wideMulsUptoRow.holds Try.pinned (OpenSpec.upto wideMulsSpec)

/-- 'cribblelaw01.WideBits', WHERE WHAT IT READS IS OF BULK AT MOST 1048576: true; the input reads as it did. -/
def wideBitsUptoRow : OpenClaim := { program := "ytcaeaepnobbjlaa", sum := "b08f34ccfb1b231596679ef85e8d9c0da25393f0ea51d2ffa1e51a9902a84be7", func := "cribble/cribblelaw01.WideBits", spec := "wideBits", inPlace := ["math/bits.Add64", "math/bits.Sub64"], apart := false, narrowed := true }
def WideBitsUptoSaid : Prop := wideBitsUptoRow.holds Try.pinned (OpenSpec.upto wideBitsSpec)

/-- 'cribblelaw01.WideTops', WHERE WHAT IT READS IS OF BULK AT MOST 1048576: true; the input reads as it did. -/
def wideTopsUptoRow : OpenClaim := { program := "ytcaeaepnobbjlaa", sum := "b08f34ccfb1b231596679ef85e8d9c0da25393f0ea51d2ffa1e51a9902a84be7", func := "cribble/cribblelaw01.WideTops", spec := "wideTops", inPlace := ["math/bits.Add64", "math/bits.Sub64"], apart := false, narrowed := true }
def WideTopsUptoSaid : Prop := wideTopsUptoRow.holds Try.pinned (OpenSpec.upto wideTopsSpec)

/-- 'cribblelaw06.NumPrints', WHERE WHAT IT READS IS OF BULK AT MOST 1048576: true; the input reads as it did. -/
def numPrintsUptoRow : OpenClaim := { program := "ytcaeaepnobbjlaa", sum := "b08f34ccfb1b231596679ef85e8d9c0da25393f0ea51d2ffa1e51a9902a84be7", func := "cribble/cribblelaw06.NumPrints", spec := "numPrints", inPlace := ["math/bits.Add64"], apart := false, narrowed := true }
def NumPrintsUptoSaid : Prop := numPrintsUptoRow.holds Try.pinned (OpenSpec.upto numPrintsSpec)

/-- 'cribblelaw06.NumParses', WHERE WHAT IT READS IS OF BULK AT MOST 1048576: true; the input reads as it did. -/
def numParsesUptoRow : OpenClaim := { program := "ytcaeaepnobbjlaa", sum := "b08f34ccfb1b231596679ef85e8d9c0da25393f0ea51d2ffa1e51a9902a84be7", func := "cribble/cribblelaw06.NumParses", spec := "numParses", inPlace := ["math/bits.Add64"], apart := false, narrowed := true }
def NumParsesUptoSaid : Prop := numParsesUptoRow.holds Try.pinned (OpenSpec.upto numParsesSpec)

/-- 'cribblelaw06.NumBack', WHERE WHAT IT READS IS OF BULK AT MOST 1048576: true; the input reads as it did. -/
def numBackUptoRow : OpenClaim := { program := "ytcaeaepnobbjlaa", sum := "b08f34ccfb1b231596679ef85e8d9c0da25393f0ea51d2ffa1e51a9902a84be7", func := "cribble/cribblelaw06.NumBack", spec := "numBack", inPlace := ["math/bits.Add64"], apart := false, narrowed := true }
def NumBackUptoSaid : Prop := numBackUptoRow.holds Try.pinned (OpenSpec.upto numBackSpec)

/-- 'cribblelaw12.RatioTells', WHERE WHAT IT READS IS OF BULK AT MOST 1048576: true; the input reads as it did. -/
def ratioTellsUptoRow : OpenClaim := { program := "ytcaeaepnobbjlaa", sum := "b08f34ccfb1b231596679ef85e8d9c0da25393f0ea51d2ffa1e51a9902a84be7", func := "cribble/cribblelaw12.RatioTells", spec := "ratioTells", inPlace := ["math/bits.Add64", "math/bits.Sub64"], named := ["math/bits.divideError", "math/bits.overflowError"], apart := false, narrowed := true }
def RatioTellsUptoSaid : Prop := ratioTellsUptoRow.holds Try.pinned (OpenSpec.upto ratioTellsSpec)

/-- 'cribblelaw12.RatioDivides', WHERE WHAT IT READS IS OF BULK AT MOST 1048576: true; the input reads as it did. -/
def ratioDividesUptoRow : OpenClaim := { program := "ytcaeaepnobbjlaa", sum := "b08f34ccfb1b231596679ef85e8d9c0da25393f0ea51d2ffa1e51a9902a84be7", func := "cribble/cribblelaw12.RatioDivides", spec := "ratioDivides", inPlace := ["math/bits.Add64", "math/bits.Sub64"], named := ["math/bits.divideError", "math/bits.overflowError"], apart := false, narrowed := true }
def RatioDividesUptoSaid : Prop := ratioDividesUptoRow.holds Try.pinned (OpenSpec.upto ratioDividesSpec)

/-- 'cribblelaw12.RatioSums', WHERE WHAT IT READS IS OF BULK AT MOST 1048576: true; the input reads as it did. -/
def ratioSumsUptoRow : OpenClaim := { program := "ytcaeaepnobbjlaa", sum := "b08f34ccfb1b231596679ef85e8d9c0da25393f0ea51d2ffa1e51a9902a84be7", func := "cribble/cribblelaw12.RatioSums", spec := "ratioSums", inPlace := ["math/bits.Add64", "math/bits.Sub64"], named := ["math/bits.divideError", "math/bits.overflowError"], apart := false, narrowed := true }
def RatioSumsUptoSaid : Prop := ratioSumsUptoRow.holds Try.pinned (OpenSpec.upto ratioSumsSpec)

/-- 'cribblelaw12.RatioLeast', WHERE WHAT IT READS IS OF BULK AT MOST 1048576: true; the input reads as it did. -/
def ratioLeastUptoRow : OpenClaim := { program := "ytcaeaepnobbjlaa", sum := "b08f34ccfb1b231596679ef85e8d9c0da25393f0ea51d2ffa1e51a9902a84be7", func := "cribble/cribblelaw12.RatioLeast", spec := "ratioLeast", inPlace := ["math/bits.Add64", "math/bits.Sub64"], named := ["math/bits.divideError", "math/bits.overflowError"], apart := false, narrowed := true }
def RatioLeastUptoSaid : Prop := ratioLeastUptoRow.holds Try.pinned (OpenSpec.upto ratioLeastSpec)

/-- 'cribblelaw12.RatioJoins', WHERE WHAT IT READS IS OF BULK AT MOST 1048576: true; the input reads as it did. -/
def ratioJoinsUptoRow : OpenClaim := { program := "ytcaeaepnobbjlaa", sum := "b08f34ccfb1b231596679ef85e8d9c0da25393f0ea51d2ffa1e51a9902a84be7", func := "cribble/cribblelaw12.RatioJoins", spec := "ratioJoins", inPlace := ["math/bits.Add64", "math/bits.Sub64"], named := ["math/bits.divideError", "math/bits.overflowError"], apart := false, narrowed := true }
def RatioJoinsUptoSaid : Prop := ratioJoinsUptoRow.holds Try.pinned (OpenSpec.upto ratioJoinsSpec)

/-- 'cribblelaw12.RatioMost', WHERE WHAT IT READS IS OF BULK AT MOST 1048576: true; the input reads as it did. -/
def ratioMostUptoRow : OpenClaim := { program := "ytcaeaepnobbjlaa", sum := "b08f34ccfb1b231596679ef85e8d9c0da25393f0ea51d2ffa1e51a9902a84be7", func := "cribble/cribblelaw12.RatioMost", spec := "ratioMost", inPlace := ["math/bits.Add64", "math/bits.Sub64"], named := ["math/bits.divideError", "math/bits.overflowError"], apart := false, narrowed := true }
def RatioMostUptoSaid : Prop := ratioMostUptoRow.holds Try.pinned (OpenSpec.upto ratioMostSpec)

/-- 'cribblelaw12.RatioClips', WHERE WHAT IT READS IS OF BULK AT MOST 1048576: true; the input reads as it did. -/
def ratioClipsUptoRow : OpenClaim := { program := "ytcaeaepnobbjlaa", sum := "b08f34ccfb1b231596679ef85e8d9c0da25393f0ea51d2ffa1e51a9902a84be7", func := "cribble/cribblelaw12.RatioClips", spec := "ratioClips", inPlace := ["math/bits.Sub64", "math/bits.Add64"], named := ["math/bits.divideError", "math/bits.overflowError"], apart := false, narrowed := true }
def RatioClipsUptoSaid : Prop := ratioClipsUptoRow.holds Try.pinned (OpenSpec.upto ratioClipsSpec)

end Rows
end Go.Proofs.Ytcaeaepnobbjlaa
