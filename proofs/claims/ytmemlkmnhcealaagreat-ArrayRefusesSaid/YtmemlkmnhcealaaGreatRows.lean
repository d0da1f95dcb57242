/-
  No cell of these rows narrows 'for every input' (looked for: loops, veiled, ifaces, maps, wideKeys, modest, calm, conditions, laid).
  DERIVED. THE GIVEN ROWS OF THIS SEAT. 4 by the template 'for every input the law returns true; each argument reads behind the call as it read before'; 0 by the template 'total and deterministic' (their statements: YtmemlkmnhcealaaGreatTotals.lean).
  GIVEN WITH THE SEED: the statements are not yours to turn. If you find one false, say at which input.
  Laid BY PROGRAM, IN A SANDBOX (cutbox-rows.mjs): the forced cells as the released guide's own fill.sh prints them over the translation f77cd8498414b940… (all of the seat's roots in one cut). By AI agents, Wed Nov 11 2026. No macro, syntax, notation, axiom, sorry.
-/
import Derived.Test.YtmemlkmnhcealaaGreatChecked
import GoSem.Claim
import GoSem.ClaimJoined
import GoSem.ClaimMapViews
import Derived.JoinedTies
import Derived.KernelRfl
namespace Go.Proofs.YtmemlkmnhcealaaGreat
/- THE CELL 'sum', in the pinned program and in every row, IS THE sha256 OF THE DUMP (.gsa) THAT YtmemlkmnhcealaaGreatProg.lean LOADS. Nothing in Lean hashes anything: it is a label: what it is worth is what the hold of that sum in a sandbox is worth. -/
noncomputable def Tryz.pinned : Pinned := { name := "ytmemlkmnhcealaagreat", sum := "f77cd8498414b940a3793fc1af87a952729d5101fa529275e2ef5e8d953901cb", checked := Tryz.checked }
namespace Rows
def none {H : Type} : Left H := { results := [], args := [] }

/-- 'spindlelaw17.ArrayAgain': WHATEVER THE INPUT: true; the input reads as it did. -/
def arrayAgainSpec : ChangeSpec := { name := "arrayAgain", fn := fun _ => fun
  | [d1, d2, d3, d4, d5] => { results := [.lit (.bool true)], args := [d1, d2, d3, d4, d5] }
  | _ => none }
def arrayAgainRow : OpenClaim := { program := "ytmemlkmnhcealaagreat", sum := "f77cd8498414b940a3793fc1af87a952729d5101fa529275e2ef5e8d953901cb", func := "spindle/spindlelaw17.ArrayAgain", spec := "arrayAgain", unfollowed := true, recurses := true, plainKeys := false, apart := false }
def ArrayAgainSaid : Prop := arrayAgainRow.holds Tryz.pinned (OpenSpec.ofChange arrayAgainSpec)

/-- ITS FALSE NEIGHBOUR: 'it returns false'. Refute it at one input. -/
def arrayAgainWrong : ChangeSpec := { name := "arrayAgain", fn := fun _ => fun
  | [d1, d2, d3, d4, d5] => { results := [.lit (.bool false)], args := [d1, d2, d3, d4, d5] }
  | _ => none }
def ArrayAgainWrongFalsely : Prop := arrayAgainRow.holds Tryz.pinned (OpenSpec.ofChange arrayAgainWrong)

/-- 'spindlelaw17.ArrayRefuses': WHATEVER THE INPUT: true; the input reads as it did. -/
def arrayRefusesSpec : ChangeSpec := { name := "arrayRefuses", fn := fun _ => fun
  | [d1, d2, d3, d4, d5] => { results := [.lit (.bool true)], args := [d1, d2, d3, d4, d5] }
  | _ => none }
def arrayRefusesRow : OpenClaim := { program := "ytmemlkmnhcealaagreat", sum := "f77cd8498414b940a3793fc1af87a952729d5101fa529275e2ef5e8d953901cb", func := "spindle/spindlelaw17.ArrayRefuses", spec := "arrayRefuses", unfollowed := true, recurses := true, plainKeys := false, apart := false }
def ArrayRefusesSaid : Prop := arrayRefusesRow.holds Tryz.pinned (OpenSpec.ofChange arrayRefusesSpec)

/-- ITS FALSE NEIGHBOUR: 'it returns false'. Refute it at one input. -/
def arrayRefusesWrong : ChangeSpec := { name := "arrayRefuses", fn := fun _ => fun
  | [d1, d2, d3, d4, d5] => { results := [.lit (.bool false)], args := [d1, d2, d3, d4, d5] }
  | _ => none }
def ArrayRefusesWrongFalsely : Prop := arrayRefusesRow.holds Tryz.pinned (OpenSpec.ofChange arrayRefusesWrong)

/-- 'spindlelaw17.ArrayPieces': WHATEVER THE INPUT: true; the input reads as it did. -/
def arrayPiecesSpec : ChangeSpec := { name := "arrayPieces", fn := fun _ => fun
  | [d1, d2, d3, d4, d5, d6] => { results := [.lit (.bool true)], args := [d1, d2, d3, d4, d5, d6] }
  | _ => none }
def arrayPiecesRow : OpenClaim := { program := "ytmemlkmnhcealaagreat", sum := "f77cd8498414b940a3793fc1af87a952729d5101fa529275e2ef5e8d953901cb", func := "spindle/spindlelaw17.ArrayPieces", spec := "arrayPieces", unfollowed := true, recurses := true, plainKeys := false, apart := false }
def ArrayPiecesSaid : Prop := arrayPiecesRow.holds Tryz.pinned (OpenSpec.ofChange arrayPiecesSpec)

/-- ITS FALSE NEIGHBOUR: 'it returns false'. Refute it at one input. -/
def arrayPiecesWrong : ChangeSpec := { name := "arrayPieces", fn := fun _ => fun
  | [d1, d2, d3, d4, d5, d6] => { results := [.lit (.bool false)], args := [d1, d2, d3, d4, d5, d6] }
  | _ => none }
def ArrayPiecesWrongFalsely : Prop := arrayPiecesRow.holds Tryz.pinned (OpenSpec.ofChange arrayPiecesWrong)

/-- 'spindlelaw17.ArrayLazy': WHATEVER THE INPUT: true; the input reads as it did. -/
def arrayLazySpec : ChangeSpec := { name := "arrayLazy", fn := fun _ => fun
  | [d1, d2, d3, d4, d5, d6] => { results := [.lit (.bool true)], args := [d1, d2, d3, d4, d5, d6] }
  | _ => none }
def arrayLazyRow : OpenClaim := { program := "ytmemlkmnhcealaagreat", sum := "f77cd8498414b940a3793fc1af87a952729d5101fa529275e2ef5e8d953901cb", func := "spindle/spindlelaw17.ArrayLazy", spec := "arrayLazy", unfollowed := true, recurses := true, plainKeys := false, apart := false }
def ArrayLazySaid : Prop := arrayLazyRow.holds Tryz.pinned (OpenSpec.ofChange arrayLazySpec)

/-- ITS FALSE NEIGHBOUR: 'it returns false'. Refute it at one input. -/
def arrayLazyWrong : ChangeSpec := { name := "arrayLazy", fn := fun _ => fun
  | [d1, d2, d3, d4, d5, d6] => { results := [.lit (.bool false)], args := [d1, d2, d3, d4, d5, d6] }
  | _ => none }
def ArrayLazyWrongFalsely : Prop := arrayLazyRow.holds Tryz.pinned (OpenSpec.ofChange arrayLazyWrong)

/- THE SECOND FORM. 'bulk': how many values and letters a reading holds, each counted each time it is reached (what is shared counts as often as it is met; a slice's spare places count too). A statement '..UptoSaid' is the law's where the arguments, and the package variables that the reading takes, are together of bulk at most 1048576: NARROWER than '..Said'. Prove '..Said' where nothing that the law and all that it calls make is longer than what came in: it says more and counts as full. Else prove '..UptoSaid'. A law counts once. -/
mutual
def uptoBulk {H : Type} : DataW H → Nat
  | .lit (.string bytes) => bytes.length + 1
  | .lit _ => 1
  | .nil => 1
  | .ptr d => uptoBulk d + 1
  | .slice elems spare => uptoBulkAll elems + uptoBulkAll spare + 1
  | .agg parts => uptoBulkAll parts + 1
  | .iface _ d => uptoBulk d + 1
  | .map entries => uptoBulkEntries entries + 1
  | .held _ => 1
def uptoBulkAll {H : Type} : List (DataW H) → Nat
  | [] => 0
  | d :: r => uptoBulk d + uptoBulkAll r
def uptoBulkEntries {H : Type} : List (Lit × DataW H) → Nat
  | [] => 0
  | x :: r => uptoBulkEntry x + uptoBulkEntries r
def uptoBulkEntry {H : Type} : Lit × DataW H → Nat
  | (.string bytes, d) => bytes.length + uptoBulk d + 1
  | (_, d) => uptoBulk d + 1
 end
def uptoSmall : (H : Type) → List (DataW H) → Bool := fun _ ds => decide (uptoBulkAll ds ≤ 1048576)
def OpenSpec.upto (s : _root_.Go.ChangeSpec) : _root_.Go.OpenSpec := { _root_.Go.OpenSpec.ofChange s with cond := some uptoSmall }

/-- 'spindlelaw17.ArrayAgain', WHERE WHAT IT READS IS OF BULK AT MOST 1048576: true; the input reads as it did. -/
def arrayAgainUptoRow : OpenClaim := { program := "ytmemlkmnhcealaagreat", sum := "f77cd8498414b940a3793fc1af87a952729d5101fa529275e2ef5e8d953901cb", func := "spindle/spindlelaw17.ArrayAgain", spec := "arrayAgain", unfollowed := true, recurses := true, plainKeys := false, apart := false, narrowed := true }
def ArrayAgainUptoSaid : Prop := arrayAgainUptoRow.holds Tryz.pinned (OpenSpec.upto arrayAgainSpec)

/-- 'spindlelaw17.ArrayRefuses', WHERE WHAT IT READS IS OF BULK AT MOST 1048576: true; the input reads as it did. -/
def arrayRefusesUptoRow : OpenClaim := { program := "ytmemlkmnhcealaagreat", sum := "f77cd8498414b940a3793fc1af87a952729d5101fa529275e2ef5e8d953901cb", func := "spindle/spindlelaw17.ArrayRefuses", spec := "arrayRefuses", unfollowed := true, recurses := true, plainKeys := false, apart := false, narrowed := true }
def ArrayRefusesUptoSaid : Prop := arrayRefusesUptoRow.holds Tryz.pinned (OpenSpec.upto arrayRefusesSpec)

/-- 'spindlelaw17.ArrayPieces', WHERE WHAT IT READS IS OF BULK AT MOST 1048576: true; the input reads as it did. -/
def arrayPiecesUptoRow : OpenClaim := { program := "ytmemlkmnhcealaagreat", sum := "f77cd8498414b940a3793fc1af87a952729d5101fa529275e2ef5e8d953901cb", func := "spindle/spindlelaw17.ArrayPieces", spec := "arrayPieces", unfollowed := true, recurses := true, plainKeys := false, apart := false, narrowed := true }
def ArrayPiecesUptoSaid : Prop := arrayPiecesUptoRow.holds Tryz.pinned (OpenSpec.upto arrayPiecesSpec)

/-- 'spindlelaw17.ArrayLazy', WHERE WHAT IT READS IS OF BULK AT MOST 1048576: true; the input reads as it did. -/
def arrayLazyUptoRow : OpenClaim := { program := "ytmemlkmnhcealaagreat", sum := "f77cd8498414b940a3793fc1af87a952729d5101fa529275e2ef5e8d953901cb", func := "spindle/spindlelaw17.ArrayLazy", spec := "arrayLazy", unfollowed := true, recurses := true, plainKeys := false, apart := false, narrowed := true }
def ArrayLazyUptoSaid : Prop := arrayLazyUptoRow.holds Tryz.pinned (OpenSpec.upto arrayLazySpec)

end Rows
end Go.Proofs.YtmemlkmnhcealaaGreat
