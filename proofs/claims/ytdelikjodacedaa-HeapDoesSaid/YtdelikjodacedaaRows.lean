/-
  No cell of these rows narrows 'for every input' (looked for: loops, veiled, ifaces, maps, wideKeys, modest, calm, conditions, laid).
  DERIVED. THE GIVEN ROWS OF THIS SEAT. 10 by the template 'for every input the law returns true; each argument reads behind the call as it read before'; 0 by the template 'total and deterministic' (their statements: YtdelikjodacedaaTotals.lean).
  GIVEN WITH THE SEED: the statements are not yours to turn. If you find one false, say at which input.
  Laid BY PROGRAM, IN A SANDBOX (cutbox-rows.mjs): the forced cells as the released guide's own fill.sh prints them over the translation 8454652b566cbaac… (all of the seat's roots in one cut). By AI agents, Wed Nov 11 2026. No macro, syntax, notation, axiom, sorry.
-/
import Derived.Test.YtdelikjodacedaaChecked
import GoSem.Claim
import GoSem.ClaimJoined
import GoSem.ClaimMapViews
import Derived.JoinedTies
import Derived.KernelRfl
namespace Go.Proofs.Ytdelikjodacedaa
/- THE CELL 'sum', in the pinned program and in every row, IS THE sha256 OF THE DUMP (.gsa) THAT YtdelikjodacedaaProg.lean LOADS. Nothing in Lean hashes anything: it is a label: what it is worth is what the hold of that sum in a sandbox is worth. -/
noncomputable def Try.pinned : Pinned := { name := "ytdelikjodacedaa", sum := "8454652b566cbaacf8685aa5e23e3a6fccf7c9ea5189105009721bdd850d3886", checked := Try.checked }
namespace Rows
def none {H : Type} : Left H := { results := [], args := [] }

/-- 'warpbeamlaw15.HeapDivides': WHATEVER THE INPUT: true; the input reads as it did. -/
def heapDividesSpec : ChangeSpec := { name := "heapDivides", fn := fun _ => fun
  | [d1, d2, d3] => { results := [.lit (.bool true)], args := [d1, d2, d3] }
  | _ => none }
def heapDividesRow : OpenClaim := { program := "ytdelikjodacedaa", sum := "8454652b566cbaacf8685aa5e23e3a6fccf7c9ea5189105009721bdd850d3886", func := "warpbeam/warpbeamlaw15.HeapDivides", spec := "heapDivides", unfollowed := true, recurses := true, apart := false }
def HeapDividesSaid : Prop := heapDividesRow.holds Try.pinned (OpenSpec.ofChange heapDividesSpec)

/-- ITS FALSE NEIGHBOUR: 'it returns false'. Refute it at one input. -/
def heapDividesWrong : ChangeSpec := { name := "heapDivides", fn := fun _ => fun
  | [d1, d2, d3] => { results := [.lit (.bool false)], args := [d1, d2, d3] }
  | _ => none }
def HeapDividesWrongFalsely : Prop := heapDividesRow.holds Try.pinned (OpenSpec.ofChange heapDividesWrong)

/-- 'warpbeamlaw15.HeapBits': WHATEVER THE INPUT: true; the input reads as it did. -/
def heapBitsSpec : ChangeSpec := { name := "heapBits", fn := fun _ => fun
  | [d1, d2, d3] => { results := [.lit (.bool true)], args := [d1, d2, d3] }
  | _ => none }
def heapBitsRow : OpenClaim := { program := "ytdelikjodacedaa", sum := "8454652b566cbaacf8685aa5e23e3a6fccf7c9ea5189105009721bdd850d3886", func := "warpbeam/warpbeamlaw15.HeapBits", spec := "heapBits", unfollowed := true, recurses := true, apart := false }
def HeapBitsSaid : Prop := heapBitsRow.holds Try.pinned (OpenSpec.ofChange heapBitsSpec)

/-- ITS FALSE NEIGHBOUR: 'it returns false'. Refute it at one input. -/
def heapBitsWrong : ChangeSpec := { name := "heapBits", fn := fun _ => fun
  | [d1, d2, d3] => { results := [.lit (.bool false)], args := [d1, d2, d3] }
  | _ => none }
def HeapBitsWrongFalsely : Prop := heapBitsRow.holds Try.pinned (OpenSpec.ofChange heapBitsWrong)

/-- 'warpbeamlaw15.HeapWraps': WHATEVER THE INPUT: true; the input reads as it did. -/
def heapWrapsSpec : ChangeSpec := { name := "heapWraps", fn := fun _ => fun
  | [d1, d2, d3] => { results := [.lit (.bool true)], args := [d1, d2, d3] }
  | _ => none }
def heapWrapsRow : OpenClaim := { program := "ytdelikjodacedaa", sum := "8454652b566cbaacf8685aa5e23e3a6fccf7c9ea5189105009721bdd850d3886", func := "warpbeam/warpbeamlaw15.HeapWraps", spec := "heapWraps", unfollowed := true, recurses := true, apart := false }
def HeapWrapsSaid : Prop := heapWrapsRow.holds Try.pinned (OpenSpec.ofChange heapWrapsSpec)

/-- ITS FALSE NEIGHBOUR: 'it returns false'. Refute it at one input. -/
def heapWrapsWrong : ChangeSpec := { name := "heapWraps", fn := fun _ => fun
  | [d1, d2, d3] => { results := [.lit (.bool false)], args := [d1, d2, d3] }
  | _ => none }
def HeapWrapsWrongFalsely : Prop := heapWrapsRow.holds Try.pinned (OpenSpec.ofChange heapWrapsWrong)

/-- 'warpbeamlaw15.HeapReckons': WHATEVER THE INPUT: true; the input reads as it did. -/
def heapReckonsSpec : ChangeSpec := { name := "heapReckons", fn := fun _ => fun
  | [d1, d2, d3] => { results := [.lit (.bool true)], args := [d1, d2, d3] }
  | _ => none }
def heapReckonsRow : OpenClaim := { program := "ytdelikjodacedaa", sum := "8454652b566cbaacf8685aa5e23e3a6fccf7c9ea5189105009721bdd850d3886", func := "warpbeam/warpbeamlaw15.HeapReckons", spec := "heapReckons", unfollowed := true, recurses := true, apart := false }
def HeapReckonsSaid : Prop := heapReckonsRow.holds Try.pinned (OpenSpec.ofChange heapReckonsSpec)

/-- ITS FALSE NEIGHBOUR: 'it returns false'. Refute it at one input. -/
def heapReckonsWrong : ChangeSpec := { name := "heapReckons", fn := fun _ => fun
  | [d1, d2, d3] => { results := [.lit (.bool false)], args := [d1, d2, d3] }
  | _ => none }
def HeapReckonsWrongFalsely : Prop := heapReckonsRow.holds Try.pinned (OpenSpec.ofChange heapReckonsWrong)

/-- 'warpbeamlaw15.HeapRing': WHATEVER THE INPUT: true; the input reads as it did. -/
def heapRingSpec : ChangeSpec := { name := "heapRing", fn := fun _ => fun
  | [d1, d2] => { results := [.lit (.bool true)], args := [d1, d2] }
  | _ => none }
def heapRingRow : OpenClaim := { program := "ytdelikjodacedaa", sum := "8454652b566cbaacf8685aa5e23e3a6fccf7c9ea5189105009721bdd850d3886", func := "warpbeam/warpbeamlaw15.HeapRing", spec := "heapRing", unfollowed := true, recurses := true, apart := false }
def HeapRingSaid : Prop := heapRingRow.holds Try.pinned (OpenSpec.ofChange heapRingSpec)

/-- ITS FALSE NEIGHBOUR: 'it returns false'. Refute it at one input. -/
def heapRingWrong : ChangeSpec := { name := "heapRing", fn := fun _ => fun
  | [d1, d2] => { results := [.lit (.bool false)], args := [d1, d2] }
  | _ => none }
def HeapRingWrongFalsely : Prop := heapRingRow.holds Try.pinned (OpenSpec.ofChange heapRingWrong)

/-- 'warpbeamlaw15.HeapConverts': WHATEVER THE INPUT: true; the input reads as it did. -/
def heapConvertsSpec : ChangeSpec := { name := "heapConverts", fn := fun _ => fun
  | [d1, d2, d3] => { results := [.lit (.bool true)], args := [d1, d2, d3] }
  | _ => none }
def heapConvertsRow : OpenClaim := { program := "ytdelikjodacedaa", sum := "8454652b566cbaacf8685aa5e23e3a6fccf7c9ea5189105009721bdd850d3886", func := "warpbeam/warpbeamlaw15.HeapConverts", spec := "heapConverts", unfollowed := true, recurses := true, apart := false }
def HeapConvertsSaid : Prop := heapConvertsRow.holds Try.pinned (OpenSpec.ofChange heapConvertsSpec)

/-- ITS FALSE NEIGHBOUR: 'it returns false'. Refute it at one input. -/
def heapConvertsWrong : ChangeSpec := { name := "heapConverts", fn := fun _ => fun
  | [d1, d2, d3] => { results := [.lit (.bool false)], args := [d1, d2, d3] }
  | _ => none }
def HeapConvertsWrongFalsely : Prop := heapConvertsRow.holds Try.pinned (OpenSpec.ofChange heapConvertsWrong)

/-- 'warpbeamlaw15.HeapOrder': WHATEVER THE INPUT: true; the input reads as it did. -/
def heapOrderSpec : ChangeSpec := { name := "heapOrder", fn := fun _ => fun
  | [d1, d2] => { results := [.lit (.bool true)], args := [d1, d2] }
  | _ => none }
def heapOrderRow : OpenClaim := { program := "ytdelikjodacedaa", sum := "8454652b566cbaacf8685aa5e23e3a6fccf7c9ea5189105009721bdd850d3886", func := "warpbeam/warpbeamlaw15.HeapOrder", spec := "heapOrder", unfollowed := true, recurses := true, apart := false }
def HeapOrderSaid : Prop := heapOrderRow.holds Try.pinned (OpenSpec.ofChange heapOrderSpec)

/-- ITS FALSE NEIGHBOUR: 'it returns false'. Refute it at one input. -/
def heapOrderWrong : ChangeSpec := { name := "heapOrder", fn := fun _ => fun
  | [d1, d2] => { results := [.lit (.bool false)], args := [d1, d2] }
  | _ => none }
def HeapOrderWrongFalsely : Prop := heapOrderRow.holds Try.pinned (OpenSpec.ofChange heapOrderWrong)

/-- 'warpbeamlaw15.HeapKeeps': WHATEVER THE INPUT: true; the input reads as it did. -/
def heapKeepsSpec : ChangeSpec := { name := "heapKeeps", fn := fun _ => fun
  | [d1, d2] => { results := [.lit (.bool true)], args := [d1, d2] }
  | _ => none }
def heapKeepsRow : OpenClaim := { program := "ytdelikjodacedaa", sum := "8454652b566cbaacf8685aa5e23e3a6fccf7c9ea5189105009721bdd850d3886", func := "warpbeam/warpbeamlaw15.HeapKeeps", spec := "heapKeeps", unfollowed := true, recurses := true, apart := false }
def HeapKeepsSaid : Prop := heapKeepsRow.holds Try.pinned (OpenSpec.ofChange heapKeepsSpec)

/-- ITS FALSE NEIGHBOUR: 'it returns false'. Refute it at one input. -/
def heapKeepsWrong : ChangeSpec := { name := "heapKeeps", fn := fun _ => fun
  | [d1, d2] => { results := [.lit (.bool false)], args := [d1, d2] }
  | _ => none }
def HeapKeepsWrongFalsely : Prop := heapKeepsRow.holds Try.pinned (OpenSpec.ofChange heapKeepsWrong)

/-- 'warpbeamlaw15.HeapDoes': WHATEVER THE INPUT: true; the input reads as it did. -/
def heapDoesSpec : ChangeSpec := { name := "heapDoes", fn := fun _ => fun
  | [d1, d2] => { results := [.lit (.bool true)], args := [d1, d2] }
  | _ => none }
def heapDoesRow : OpenClaim := { program := "ytdelikjodacedaa", sum := "8454652b566cbaacf8685aa5e23e3a6fccf7c9ea5189105009721bdd850d3886", func := "warpbeam/warpbeamlaw15.HeapDoes", spec := "heapDoes", unfollowed := true, recurses := true, apart := false }
def HeapDoesSaid : Prop := heapDoesRow.holds Try.pinned (OpenSpec.ofChange heapDoesSpec)

/-- ITS FALSE NEIGHBOUR: 'it returns false'. Refute it at one input. -/
def heapDoesWrong : ChangeSpec := { name := "heapDoes", fn := fun _ => fun
  | [d1, d2] => { results := [.lit (.bool false)], args := [d1, d2] }
  | _ => none }
def HeapDoesWrongFalsely : Prop := heapDoesRow.holds Try.pinned (OpenSpec.ofChange heapDoesWrong)

/-- 'warpbeamlaw15.HeapKnown': WHATEVER THE INPUT: true; the input reads as it did. -/
def heapKnownSpec : ChangeSpec := { name := "heapKnown", fn := fun _ => fun
  | [] => { results := [.lit (.bool true)], args := [] }
  | _ => none }
def heapKnownRow : OpenClaim := { program := "ytdelikjodacedaa", sum := "8454652b566cbaacf8685aa5e23e3a6fccf7c9ea5189105009721bdd850d3886", func := "warpbeam/warpbeamlaw15.HeapKnown", spec := "heapKnown", unfollowed := true, recurses := true, apart := false }
def HeapKnownSaid : Prop := heapKnownRow.holds Try.pinned (OpenSpec.ofChange heapKnownSpec)

/-- ITS FALSE NEIGHBOUR: 'it returns false'. Refute it at one input. -/
def heapKnownWrong : ChangeSpec := { name := "heapKnown", fn := fun _ => fun
  | [] => { results := [.lit (.bool false)], args := [] }
  | _ => none }
def HeapKnownWrongFalsely : Prop := heapKnownRow.holds Try.pinned (OpenSpec.ofChange heapKnownWrong)

/- THE SECOND FORM. 'bulk': how many values and letters a reading holds, each counted each time it is reached (what is shared counts as often as it is met; a slice's spare places count too). A statement '..UptoSaid' is the law's where the arguments, and the package variables that the reading takes, are together of bulk at most 1048576: NARROWER than '..Said'. Prove '..Said' where nothing that the law and all that it calls make is longer than what came in: it says more and counts as full. Else prove '..UptoSaid'. A law counts once. -/
mutual
def uptoBulk {H : Type} : DataW H → Nat
  | .lit (.string bytes) => bytes.length + 1
  | .lit _ => 1
  | .nil => 1
  | .ptr d => uptoBulk d + 1
  | .slice elems spare => uptoBulkAll elems + uptoBulkAll spare + 1
  | .agg parts => uptoBulkAll parts + 1
  | .iface _ d => uptoBulk d + 1
  | .map entries => uptoBulkEntries entries + 1
  | .held _ => 1
def uptoBulkAll {H : Type} : List (DataW H) → Nat
  | [] => 0
  | d :: r => uptoBulk d + uptoBulkAll r
def uptoBulkEntries {H : Type} : List (Lit × DataW H) → Nat
  | [] => 0
  | x :: r => uptoBulkEntry x + uptoBulkEntries r
def uptoBulkEntry {H : Type} : Lit × DataW H → Nat
  | (.string bytes, d) => bytes.length + uptoBulk d + 1
  | (_, d) => uptoBulk d + 1
 end
def uptoSmall : (H : Type) → List (DataW H) → Bool := fun _ ds => decide (uptoBulkAll ds ≤ 1048576)
def OpenSpec.upto (s : _root_.Go.ChangeSpec) : _root_.Go.OpenSpec := { _root_.Go.OpenSpec.ofChange s with cond := some uptoSmall }

/-- 'warpbeamlaw15.HeapDivides', WHERE WHAT IT READS IS OF BULK AT MOST 1048576: true; the input reads as it did. -/
def heapDividesUptoRow : OpenClaim := { program := "ytdelikjodacedaa", sum := "8454652b566cbaacf8685aa5e23e3a6fccf7c9ea5189105009721bdd850d3886", func := "warpbeam/warpbeamlaw15.HeapDivides", spec := "heapDivides", unfollowed := true, recurses := true, apart := false, narrowed := true }
def HeapDividesUptoSaid : Prop := heapDividesUptoRow.holds Try.pinned (OpenSpec.upto heapDividesSpec)

/-- 'warpbeamlaw15.HeapBits', WHERE WHAT IT READS IS OF BULK AT MOST 1048576: true; the input reads as it did. -/
def heapBitsUptoRow : OpenClaim := { program := "ytdelikjodacedaa", sum := "8454652b566cbaacf8685aa5e23e3a6fccf7c9ea5189105009721bdd850d3886", func := "warpbeam/warpbeamlaw15.HeapBits", spec := "heapBits", unfollowed := true, recurses := true, apart := false, narrowed := true }
def HeapBitsUptoSaid : Prop := heapBitsUptoRow.holds Try.pinned (OpenSpec.upto heapBitsSpec)

/-- 'warpbeamlaw15.HeapWraps', WHERE WHAT IT READS IS OF BULK AT MOST 1048576: true; the input reads as it did. -/
def heapWrapsUptoRow : OpenClaim := { program := "ytdelikjodacedaa", sum := "8454652b566cbaacf8685aa5e23e3a6fccf7c9ea5189105009721bdd850d3886", func := "warpbeam/warpbeamlaw15.HeapWraps", spec := "heapWraps", unfollowed := true, recurses := true, apart := false, narrowed := true }
def HeapWrapsUptoSaid : Prop := heapWrapsUptoRow.holds Try.pinned (OpenSpec.upto heapWrapsSpec)

/-- 'warpbeamlaw15.HeapReckons', WHERE WHAT IT READS IS OF BULK AT MOST 1048576: true; the input reads as it did. -/
def heapReckonsUptoRow : OpenClaim := { program := "ytdelikjodacedaa", sum := "8454652b566cbaacf8685aa5e23e3a6fccf7c9ea5189105009721bdd850d3886", func := "warpbeam/warpbeamlaw15.HeapReckons", spec := "heapReckons", unfollowed := true, recurses := true, apart := false, narrowed := true }
def HeapReckonsUptoSaid : Prop := heapReckonsUptoRow.holds Try.pinned (OpenSpec.upto heapReckonsSpec)

/-- 'warpbeamlaw15.HeapRing', WHERE WHAT IT READS IS OF BULK AT MOST 1048576: true; the input reads as it did. -/
def heapRingUptoRow : OpenClaim := { program := "ytdelikjodacedaa", sum := "8454652b566cbaacf8685aa5e23e3a6fccf7c9ea5189105009721bdd850d3886", func := "warpbeam/warpbeamlaw15.HeapRing", spec := "heapRing", unfollowed := true, recurses := true, apart := false, narrowed := true }
def HeapRingUptoSaid : Prop := heapRingUptoRow.holds Try.pinned (OpenSpec.upto heapRingSpec)

/-- 'warpbeamlaw15.HeapConverts', WHERE WHAT IT READS IS OF BULK AT MOST 1048576: true; the input reads as it did. -/
def heapConvertsUptoRow : OpenClaim := { program := "ytdelikjodacedaa", sum := "8454652b566cbaacf8685aa5e23e3a6fccf7c9ea5189105009721bdd850d3886", func := "warpbeam/warpbeamlaw15.HeapConverts", spec := "heapConverts", unfollowed := true, recurses := true, apart := false, narrowed := true }
def HeapConvertsUptoSaid : Prop := heapConvertsUptoRow.holds Try.pinned (OpenSpec.upto heapConvertsSpec)

/-- 'warpbeamlaw15.HeapOrder', WHERE WHAT IT READS IS OF BULK AT MOST 1048576: true; the input reads as it did. -/
def heapOrderUptoRow : OpenClaim := { program := "ytdelikjodacedaa", sum := "8454652b566cbaacf8685aa5e23e3a6fccf7c9ea5189105009721bdd850d3886", func := "warpbeam/warpbeamlaw15.HeapOrder", spec := "heapOrder", unfollowed := true, recurses := true, apart := false, narrowed := true }
def HeapOrderUptoSaid : Prop := heapOrderUptoRow.holds Try.pinned (OpenSpec.upto heapOrderSpec)

/-- 'warpbeamlaw15.HeapKeeps', WHERE WHAT IT READS IS OF BULK AT MOST 1048576: true; the input reads as it did. -/
def heapKeepsUptoRow : OpenClaim := { program := "ytdelikjodacedaa", sum := "8454652b566cbaacf8685aa5e23e3a6fccf7c9ea5189105009721bdd850d3886", func := "warpbeam/warpbeamlaw15.HeapKeeps", spec := "heapKeeps", unfollowed := true, recurses := true, apart := false, narrowed := true }
def HeapKeepsUptoSaid : Prop := heapKeepsUptoRow.holds Try.pinned (OpenSpec.upto heapKeepsSpec)

/-- 'warpbeamlaw15.HeapDoes', WHERE WHAT IT READS IS OF BULK AT MOST 1048576: true; the input reads as it did. -/
def heapDoesUptoRow : OpenClaim := { program := "ytdelikjodacedaa", sum := "8454652b566cbaacf8685aa5e23e3a6fccf7c9ea5189105009721bdd850d3886", func := "warpbeam/warpbeamlaw15.HeapDoes", spec := "heapDoes", unfollowed := true, recurses := true, apart := false, narrowed := true }
def HeapDoesUptoSaid : Prop := heapDoesUptoRow.holds Try.pinned (OpenSpec.upto heapDoesSpec)

/-- 'warpbeamlaw15.HeapKnown', WHERE WHAT IT READS IS OF BULK AT MOST 1048576: true; the input reads as it did. -/
def heapKnownUptoRow : OpenClaim := { program := "ytdelikjodacedaa", sum := "8454652b566cbaacf8685aa5e23e3a6fccf7c9ea5189105009721bdd850d3886", func := "warpbeam/warpbeamlaw15.HeapKnown", spec := "heapKnown", unfollowed := true, recurses := true, apart := false, narrowed := true }
def HeapKnownUptoSaid : Prop := heapKnownUptoRow.holds Try.pinned (OpenSpec.upto heapKnownSpec)

end Rows
end Go.Proofs.Ytdelikjodacedaa
