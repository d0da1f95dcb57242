/-
  No cell of these rows narrows 'for every input' (looked for: loops, veiled, ifaces, maps, wideKeys, modest, calm, conditions, laid).
  DERIVED. THE GIVEN ROWS OF THIS SEAT. 6 by the template 'for every input the law returns true; each argument reads behind the call as it read before'; 0 by the template 'total and deterministic' (their statements: YtebmephdnjccjaaGreatTotals.lean).
  GIVEN WITH THE SEED: the statements are not yours to turn. If you find one false, say at which input.
  Laid BY PROGRAM, IN A SANDBOX (cutbox-rows.mjs): the forced cells as the released guide's own fill.sh prints them over the translation c5a8768b51a37024… (all of the seat's roots in one cut). By AI agents, Wed Nov 11 2026. No macro, syntax, notation, axiom, sorry.
-/
import Derived.Test.YtebmephdnjccjaaGreatChecked
import GoSem.Claim
import GoSem.ClaimJoined
import GoSem.ClaimMapViews
import Derived.JoinedTies
import Derived.KernelRfl
namespace Go.Proofs.YtebmephdnjccjaaGreat
/- THE CELL 'sum', in the pinned program and in every row, IS THE sha256 OF THE DUMP (.gsa) THAT YtebmephdnjccjaaGreatProg.lean LOADS. Nothing in Lean hashes anything: it is a label: what it is worth is what the hold of that sum in a sandbox is worth. -/
noncomputable def Tryz.pinned : Pinned := { name := "ytebmephdnjccjaagreat", sum := "c5a8768b51a37024a2c815b5d470b72ec9d96bad795b149a2adc5b1fe46e0cbc", checked := Tryz.checked }
namespace Rows
def none {H : Type} : Left H := { results := [], args := [] }

/-- 'spindlelaw14.RowsTells': WHATEVER THE INPUT: true; the input reads as it did. -/
def rowsTellsSpec : ChangeSpec := { name := "rowsTells", fn := fun _ => fun
  | [d1, d2, d3] => { results := [.lit (.bool true)], args := [d1, d2, d3] }
  | _ => none }
def rowsTellsRow : OpenClaim := { program := "ytebmephdnjccjaagreat", sum := "c5a8768b51a37024a2c815b5d470b72ec9d96bad795b149a2adc5b1fe46e0cbc", func := "spindle/spindlelaw14.RowsTells", spec := "rowsTells", unfollowed := true, recurses := true, plainKeys := false, apart := false }
def RowsTellsSaid : Prop := rowsTellsRow.holds Tryz.pinned (OpenSpec.ofChange rowsTellsSpec)

/-- ITS FALSE NEIGHBOUR: 'it returns false'. Refute it at one input. -/
def rowsTellsWrong : ChangeSpec := { name := "rowsTells", fn := fun _ => fun
  | [d1, d2, d3] => { results := [.lit (.bool false)], args := [d1, d2, d3] }
  | _ => none }
def RowsTellsWrongFalsely : Prop := rowsTellsRow.holds Tryz.pinned (OpenSpec.ofChange rowsTellsWrong)

/-- 'spindlelaw14.RowsSettled': WHATEVER THE INPUT: true; the input reads as it did. -/
def rowsSettledSpec : ChangeSpec := { name := "rowsSettled", fn := fun _ => fun
  | [d1, d2, d3] => { results := [.lit (.bool true)], args := [d1, d2, d3] }
  | _ => none }
def rowsSettledRow : OpenClaim := { program := "ytebmephdnjccjaagreat", sum := "c5a8768b51a37024a2c815b5d470b72ec9d96bad795b149a2adc5b1fe46e0cbc", func := "spindle/spindlelaw14.RowsSettled", spec := "rowsSettled", unfollowed := true, recurses := true, plainKeys := false, apart := false }
def RowsSettledSaid : Prop := rowsSettledRow.holds Tryz.pinned (OpenSpec.ofChange rowsSettledSpec)

/-- ITS FALSE NEIGHBOUR: 'it returns false'. Refute it at one input. -/
def rowsSettledWrong : ChangeSpec := { name := "rowsSettled", fn := fun _ => fun
  | [d1, d2, d3] => { results := [.lit (.bool false)], args := [d1, d2, d3] }
  | _ => none }
def RowsSettledWrongFalsely : Prop := rowsSettledRow.holds Tryz.pinned (OpenSpec.ofChange rowsSettledWrong)

/-- 'spindlelaw14.RowsWhole': WHATEVER THE INPUT: true; the input reads as it did. -/
def rowsWholeSpec : ChangeSpec := { name := "rowsWhole", fn := fun _ => fun
  | [d1, d2, d3] => { results := [.lit (.bool true)], args := [d1, d2, d3] }
  | _ => none }
def rowsWholeRow : OpenClaim := { program := "ytebmephdnjccjaagreat", sum := "c5a8768b51a37024a2c815b5d470b72ec9d96bad795b149a2adc5b1fe46e0cbc", func := "spindle/spindlelaw14.RowsWhole", spec := "rowsWhole", unfollowed := true, recurses := true, plainKeys := false, apart := false }
def RowsWholeSaid : Prop := rowsWholeRow.holds Tryz.pinned (OpenSpec.ofChange rowsWholeSpec)

/-- ITS FALSE NEIGHBOUR: 'it returns false'. Refute it at one input. -/
def rowsWholeWrong : ChangeSpec := { name := "rowsWhole", fn := fun _ => fun
  | [d1, d2, d3] => { results := [.lit (.bool false)], args := [d1, d2, d3] }
  | _ => none }
def RowsWholeWrongFalsely : Prop := rowsWholeRow.holds Tryz.pinned (OpenSpec.ofChange rowsWholeWrong)

/-- 'spindlelaw14.RowsLazy': WHATEVER THE INPUT: true; the input reads as it did. -/
def rowsLazySpec : ChangeSpec := { name := "rowsLazy", fn := fun _ => fun
  | [d1, d2, d3] => { results := [.lit (.bool true)], args := [d1, d2, d3] }
  | _ => none }
def rowsLazyRow : OpenClaim := { program := "ytebmephdnjccjaagreat", sum := "c5a8768b51a37024a2c815b5d470b72ec9d96bad795b149a2adc5b1fe46e0cbc", func := "spindle/spindlelaw14.RowsLazy", spec := "rowsLazy", unfollowed := true, recurses := true, plainKeys := false, apart := false }
def RowsLazySaid : Prop := rowsLazyRow.holds Tryz.pinned (OpenSpec.ofChange rowsLazySpec)

/-- ITS FALSE NEIGHBOUR: 'it returns false'. Refute it at one input. -/
def rowsLazyWrong : ChangeSpec := { name := "rowsLazy", fn := fun _ => fun
  | [d1, d2, d3] => { results := [.lit (.bool false)], args := [d1, d2, d3] }
  | _ => none }
def RowsLazyWrongFalsely : Prop := rowsLazyRow.holds Tryz.pinned (OpenSpec.ofChange rowsLazyWrong)

/-- 'spindlelaw14.RowsPlaced': WHATEVER THE INPUT: true; the input reads as it did. -/
def rowsPlacedSpec : ChangeSpec := { name := "rowsPlaced", fn := fun _ => fun
  | [d1, d2, d3, d4] => { results := [.lit (.bool true)], args := [d1, d2, d3, d4] }
  | _ => none }
def rowsPlacedRow : OpenClaim := { program := "ytebmephdnjccjaagreat", sum := "c5a8768b51a37024a2c815b5d470b72ec9d96bad795b149a2adc5b1fe46e0cbc", func := "spindle/spindlelaw14.RowsPlaced", spec := "rowsPlaced", unfollowed := true, recurses := true, plainKeys := false, apart := false }
def RowsPlacedSaid : Prop := rowsPlacedRow.holds Tryz.pinned (OpenSpec.ofChange rowsPlacedSpec)

/-- ITS FALSE NEIGHBOUR: 'it returns false'. Refute it at one input. -/
def rowsPlacedWrong : ChangeSpec := { name := "rowsPlaced", fn := fun _ => fun
  | [d1, d2, d3, d4] => { results := [.lit (.bool false)], args := [d1, d2, d3, d4] }
  | _ => none }
def RowsPlacedWrongFalsely : Prop := rowsPlacedRow.holds Tryz.pinned (OpenSpec.ofChange rowsPlacedWrong)

/-- 'spindlelaw14.RowsSpare': WHATEVER THE INPUT: true; the input reads as it did. -/
def rowsSpareSpec : ChangeSpec := { name := "rowsSpare", fn := fun _ => fun
  | [d1, d2, d3] => { results := [.lit (.bool true)], args := [d1, d2, d3] }
  | _ => none }
def rowsSpareRow : OpenClaim := { program := "ytebmephdnjccjaagreat", sum := "c5a8768b51a37024a2c815b5d470b72ec9d96bad795b149a2adc5b1fe46e0cbc", func := "spindle/spindlelaw14.RowsSpare", spec := "rowsSpare", unfollowed := true, recurses := true, plainKeys := false, apart := false }
def RowsSpareSaid : Prop := rowsSpareRow.holds Tryz.pinned (OpenSpec.ofChange rowsSpareSpec)

/-- ITS FALSE NEIGHBOUR: 'it returns false'. Refute it at one input. -/
def rowsSpareWrong : ChangeSpec := { name := "rowsSpare", fn := fun _ => fun
  | [d1, d2, d3] => { results := [.lit (.bool false)], args := [d1, d2, d3] }
  | _ => none }
def RowsSpareWrongFalsely : Prop := rowsSpareRow.holds Tryz.pinned (OpenSpec.ofChange rowsSpareWrong)

/- THE SECOND FORM. 'bulk': how many values and letters a reading holds, each counted each time it is reached (what is shared counts as often as it is met; a slice's spare places count too). A statement '..UptoSaid' is the law's where the arguments, and the package variables that the reading takes, are together of bulk at most 1048576: NARROWER than '..Said'. Prove '..Said' where nothing that the law and all that it calls make is longer than what came in: it says more and counts as full. Else prove '..UptoSaid'. A law counts once. -/
mutual
def uptoBulk {H : Type} : DataW H → Nat
  | .lit (.string bytes) => bytes.length + 1
  | .lit _ => 1
  | .nil => 1
  | .ptr d => uptoBulk d + 1
  | .slice elems spare => uptoBulkAll elems + uptoBulkAll spare + 1
  | .agg parts => uptoBulkAll parts + 1
  | .iface _ d => uptoBulk d + 1
  | .map entries => uptoBulkEntries entries + 1
  | .held _ => 1
def uptoBulkAll {H : Type} : List (DataW H) → Nat
  | [] => 0
  | d :: r => uptoBulk d + uptoBulkAll r
def uptoBulkEntries {H : Type} : List (Lit × DataW H) → Nat
  | [] => 0
  | x :: r => uptoBulkEntry x + uptoBulkEntries r
def uptoBulkEntry {H : Type} : Lit × DataW H → Nat
  | (.string bytes, d) => bytes.length + uptoBulk d + 1
  | (_, d) => uptoBulk d + 1
 end
def uptoSmall : (H : Type) → List (DataW H) → Bool := fun _ ds => decide (uptoBulkAll ds ≤ 1048576)
def OpenSpec.upto (s : _root_.Go.ChangeSpec) : _root_.Go.OpenSpec := { _root_.Go.OpenSpec.ofChange s with cond := some uptoSmall }

/-- 'spindlelaw14.RowsTells', WHERE WHAT IT READS IS OF BULK AT MOST 1048576: true; the input reads as it did. -/
def rowsTellsUptoRow : OpenClaim := { program := "ytebmephdnjccjaagreat", sum := "c5a8768b51a37024a2c815b5d470b72ec9d96bad795b149a2adc5b1fe46e0cbc", func := "spindle/spindlelaw14.RowsTells", spec := "rowsTells", unfollowed := true, recurses := true, plainKeys := false, apart := false, narrowed := true }
def RowsTellsUptoSaid : Prop := rowsTellsUptoRow.holds Tryz.pinned (OpenSpec.upto rowsTellsSpec)

/-- 'spindlelaw14.RowsSettled', WHERE WHAT IT READS IS OF BULK AT MOST 1048576: true; the input reads as it did. -/
def rowsSettledUptoRow : OpenClaim := { program := "ytebmephdnjccjaagreat", sum := "c5a8768b51a37024a2c815b5d470b72ec9d96bad795b149a2adc5b1fe46e0cbc", func := "spindle/spindlelaw14.RowsSettled", spec := "rowsSettled", unfollowed := true, recurses := true, plainKeys := false, apart := false, narrowed := true }
def RowsSettledUptoSaid : Prop := rowsSettledUptoRow.holds Tryz.pinned (OpenSpec.upto rowsSettledSpec)

/-- 'spindlelaw14.RowsWhole', WHERE WHAT IT READS IS OF BULK AT MOST 1048576: true; the input reads as it did. -/
def rowsWholeUptoRow : OpenClaim := { program := "ytebmephdnjccjaagreat", sum := "c5a8768b51a37024a2c815b5d470b72ec9d96bad795b149a2adc5b1fe46e0cbc", func := "spindle/spindlelaw14.RowsWhole", spec := "rowsWhole", unfollowed := true, recurses := true, plainKeys := false, apart := false, narrowed := true }
def RowsWholeUptoSaid : Prop := rowsWholeUptoRow.holds Tryz.pinned (OpenSpec.upto rowsWholeSpec)

/-- 'spindlelaw14.RowsLazy', WHERE WHAT IT READS IS OF BULK AT MOST 1048576: true; the input reads as it did. -/
def rowsLazyUptoRow : OpenClaim := { program := "ytebmephdnjccjaagreat", sum := "c5a8768b51a37024a2c815b5d470b72ec9d96bad795b149a2adc5b1fe46e0cbc", func := "spindle/spindlelaw14.RowsLazy", spec := "rowsLazy", unfollowed := true, recurses := true, plainKeys := false, apart := false, narrowed := true }
def RowsLazyUptoSaid : Prop := rowsLazyUptoRow.holds Tryz.pinned (OpenSpec.upto rowsLazySpec)

/-- 'spindlelaw14.RowsPlaced', WHERE WHAT IT READS IS OF BULK AT MOST 1048576: true; the input reads as it did. -/
def rowsPlacedUptoRow : OpenClaim := { program := "ytebmephdnjccjaagreat", sum := "c5a8768b51a37024a2c815b5d470b72ec9d96bad795b149a2adc5b1fe46e0cbc", func := "spindle/spindlelaw14.RowsPlaced", spec := "rowsPlaced", unfollowed := true, recurses := true, plainKeys := false, apart := false, narrowed := true }
def RowsPlacedUptoSaid : Prop := rowsPlacedUptoRow.holds Tryz.pinned (OpenSpec.upto rowsPlacedSpec)

/-- 'spindlelaw14.RowsSpare', WHERE WHAT IT READS IS OF BULK AT MOST 1048576: true; the input reads as it did. -/
def rowsSpareUptoRow : OpenClaim := { program := "ytebmephdnjccjaagreat", sum := "c5a8768b51a37024a2c815b5d470b72ec9d96bad795b149a2adc5b1fe46e0cbc", func := "spindle/spindlelaw14.RowsSpare", spec := "rowsSpare", unfollowed := true, recurses := true, plainKeys := false, apart := false, narrowed := true }
def RowsSpareUptoSaid : Prop := rowsSpareUptoRow.holds Tryz.pinned (OpenSpec.upto rowsSpareSpec)

end Rows
end Go.Proofs.YtebmephdnjccjaaGreat
