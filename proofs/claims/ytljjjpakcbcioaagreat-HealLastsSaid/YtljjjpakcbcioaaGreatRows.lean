/-
  No cell of these rows narrows 'for every input' (looked for: loops, veiled, ifaces, maps, wideKeys, modest, calm, conditions, laid).
  DERIVED. THE GIVEN ROWS OF THIS SEAT. 5 by the template 'for every input the law returns true; each argument reads behind the call as it read before'; 0 by the template 'total and deterministic' (their statements: YtljjjpakcbcioaaGreatTotals.lean).
  GIVEN WITH THE SEED: the statements are not yours to turn. If you find one false, say at which input.
  Laid BY PROGRAM, IN A SANDBOX (cutbox-rows.mjs): the forced cells as the released guide's own fill.sh prints them over the translation 0e498b6f4d81f89a… (all of the seat's roots in one cut). By AI agents, Wed Nov 11 2026. No macro, syntax, notation, axiom, sorry.
-/
import Derived.Test.YtljjjpakcbcioaaGreatChecked
import GoSem.Claim
import GoSem.ClaimJoined
import GoSem.ClaimMapViews
import Derived.JoinedTies
import Derived.KernelRfl
namespace Go.Proofs.YtljjjpakcbcioaaGreat
/- THE CELL 'sum', in the pinned program and in every row, IS THE sha256 OF THE DUMP (.gsa) THAT YtljjjpakcbcioaaGreatProg.lean LOADS. Nothing in Lean hashes anything: it is a label: what it is worth is what the hold of that sum in a sandbox is worth. -/
noncomputable def Tryz.pinned : Pinned := { name := "ytljjjpakcbcioaagreat", sum := "0e498b6f4d81f89a85eababec07292379b0951764382a6990fabcc09b365a392", checked := Tryz.checked }
namespace Rows
def none {H : Type} : Left H := { results := [], args := [] }

/-- 'spindlelaw16.HealCounts': WHATEVER THE INPUT: true; the input reads as it did. -/
def healCountsSpec : ChangeSpec := { name := "healCounts", fn := fun _ => fun
  | [d1, d2, d3, d4, d5] => { results := [.lit (.bool true)], args := [d1, d2, d3, d4, d5] }
  | _ => none }
def healCountsRow : OpenClaim := { program := "ytljjjpakcbcioaagreat", sum := "0e498b6f4d81f89a85eababec07292379b0951764382a6990fabcc09b365a392", func := "spindle/spindlelaw16.HealCounts", spec := "healCounts", unfollowed := true, recurses := true, plainKeys := false, apart := false }
def HealCountsSaid : Prop := healCountsRow.holds Tryz.pinned (OpenSpec.ofChange healCountsSpec)

/-- ITS FALSE NEIGHBOUR: 'it returns false'. Refute it at one input. -/
def healCountsWrong : ChangeSpec := { name := "healCounts", fn := fun _ => fun
  | [d1, d2, d3, d4, d5] => { results := [.lit (.bool false)], args := [d1, d2, d3, d4, d5] }
  | _ => none }
def HealCountsWrongFalsely : Prop := healCountsRow.holds Tryz.pinned (OpenSpec.ofChange healCountsWrong)

/-- 'spindlelaw20.ScrubWritten': WHATEVER THE INPUT: true; the input reads as it did. -/
def scrubWrittenSpec : ChangeSpec := { name := "scrubWritten", fn := fun _ => fun
  | [d1, d2, d3, d4, d5, d6] => { results := [.lit (.bool true)], args := [d1, d2, d3, d4, d5, d6] }
  | _ => none }
def scrubWrittenRow : OpenClaim := { program := "ytljjjpakcbcioaagreat", sum := "0e498b6f4d81f89a85eababec07292379b0951764382a6990fabcc09b365a392", func := "spindle/spindlelaw20.ScrubWritten", spec := "scrubWritten", unfollowed := true, recurses := true, plainKeys := false, apart := false }
def ScrubWrittenSaid : Prop := scrubWrittenRow.holds Tryz.pinned (OpenSpec.ofChange scrubWrittenSpec)

/-- ITS FALSE NEIGHBOUR: 'it returns false'. Refute it at one input. -/
def scrubWrittenWrong : ChangeSpec := { name := "scrubWritten", fn := fun _ => fun
  | [d1, d2, d3, d4, d5, d6] => { results := [.lit (.bool false)], args := [d1, d2, d3, d4, d5, d6] }
  | _ => none }
def ScrubWrittenWrongFalsely : Prop := scrubWrittenRow.holds Tryz.pinned (OpenSpec.ofChange scrubWrittenWrong)

/-- 'spindlelaw16.HealOthers': WHATEVER THE INPUT: true; the input reads as it did. -/
def healOthersSpec : ChangeSpec := { name := "healOthers", fn := fun _ => fun
  | [d1, d2, d3, d4, d5, d6] => { results := [.lit (.bool true)], args := [d1, d2, d3, d4, d5, d6] }
  | _ => none }
def healOthersRow : OpenClaim := { program := "ytljjjpakcbcioaagreat", sum := "0e498b6f4d81f89a85eababec07292379b0951764382a6990fabcc09b365a392", func := "spindle/spindlelaw16.HealOthers", spec := "healOthers", unfollowed := true, recurses := true, plainKeys := false, apart := false }
def HealOthersSaid : Prop := healOthersRow.holds Tryz.pinned (OpenSpec.ofChange healOthersSpec)

/-- ITS FALSE NEIGHBOUR: 'it returns false'. Refute it at one input. -/
def healOthersWrong : ChangeSpec := { name := "healOthers", fn := fun _ => fun
  | [d1, d2, d3, d4, d5, d6] => { results := [.lit (.bool false)], args := [d1, d2, d3, d4, d5, d6] }
  | _ => none }
def HealOthersWrongFalsely : Prop := healOthersRow.holds Tryz.pinned (OpenSpec.ofChange healOthersWrong)

/-- 'spindlelaw16.HealWhole': WHATEVER THE INPUT: true; the input reads as it did. -/
def healWholeSpec : ChangeSpec := { name := "healWhole", fn := fun _ => fun
  | [d1, d2, d3, d4, d5] => { results := [.lit (.bool true)], args := [d1, d2, d3, d4, d5] }
  | _ => none }
def healWholeRow : OpenClaim := { program := "ytljjjpakcbcioaagreat", sum := "0e498b6f4d81f89a85eababec07292379b0951764382a6990fabcc09b365a392", func := "spindle/spindlelaw16.HealWhole", spec := "healWhole", unfollowed := true, recurses := true, plainKeys := false, apart := false }
def HealWholeSaid : Prop := healWholeRow.holds Tryz.pinned (OpenSpec.ofChange healWholeSpec)

/-- ITS FALSE NEIGHBOUR: 'it returns false'. Refute it at one input. -/
def healWholeWrong : ChangeSpec := { name := "healWhole", fn := fun _ => fun
  | [d1, d2, d3, d4, d5] => { results := [.lit (.bool false)], args := [d1, d2, d3, d4, d5] }
  | _ => none }
def HealWholeWrongFalsely : Prop := healWholeRow.holds Tryz.pinned (OpenSpec.ofChange healWholeWrong)

/-- 'spindlelaw16.HealLasts': WHATEVER THE INPUT: true; the input reads as it did. -/
def healLastsSpec : ChangeSpec := { name := "healLasts", fn := fun _ => fun
  | [d1, d2, d3, d4, d5, d6, d7] => { results := [.lit (.bool true)], args := [d1, d2, d3, d4, d5, d6, d7] }
  | _ => none }
def healLastsRow : OpenClaim := { program := "ytljjjpakcbcioaagreat", sum := "0e498b6f4d81f89a85eababec07292379b0951764382a6990fabcc09b365a392", func := "spindle/spindlelaw16.HealLasts", spec := "healLasts", unfollowed := true, recurses := true, plainKeys := false, apart := false }
def HealLastsSaid : Prop := healLastsRow.holds Tryz.pinned (OpenSpec.ofChange healLastsSpec)

/-- ITS FALSE NEIGHBOUR: 'it returns false'. Refute it at one input. -/
def healLastsWrong : ChangeSpec := { name := "healLasts", fn := fun _ => fun
  | [d1, d2, d3, d4, d5, d6, d7] => { results := [.lit (.bool false)], args := [d1, d2, d3, d4, d5, d6, d7] }
  | _ => none }
def HealLastsWrongFalsely : Prop := healLastsRow.holds Tryz.pinned (OpenSpec.ofChange healLastsWrong)

/- THE SECOND FORM. 'bulk': how many values and letters a reading holds, each counted each time it is reached (what is shared counts as often as it is met; a slice's spare places count too). A statement '..UptoSaid' is the law's where the arguments, and the package variables that the reading takes, are together of bulk at most 1048576: NARROWER than '..Said'. Prove '..Said' where nothing that the law and all that it calls make is longer than what came in: it says more and counts as full. Else prove '..UptoSaid'. A law counts once. -/
mutual
def uptoBulk {H : Type} : DataW H → Nat
  | .lit (.string bytes) => bytes.length + 1
  | .lit _ => 1
  | .nil => 1
  | .ptr d => uptoBulk d + 1
  | .slice elems spare => uptoBulkAll elems + uptoBulkAll spare + 1
  | .agg parts => uptoBulkAll parts + 1
  | .iface _ d => uptoBulk d + 1
  | .map entries => uptoBulkEntries entries + 1
  | .held _ => 1
def uptoBulkAll {H : Type} : List (DataW H) → Nat
  | [] => 0
  | d :: r => uptoBulk d + uptoBulkAll r
def uptoBulkEntries {H : Type} : List (Lit × DataW H) → Nat
  | [] => 0
  | x :: r => uptoBulkEntry x + uptoBulkEntries r
def uptoBulkEntry {H : Type} : Lit × DataW H → Nat
  | (.string bytes, d) => bytes.length + uptoBulk d + 1
  | (_, d) => uptoBulk d + 1
 end
def uptoSmall : (H : Type) → List (DataW H) → Bool := fun _ ds => decide (uptoBulkAll ds ≤ 1048576)
def OpenSpec.upto (s : _root_.Go.ChangeSpec) : _root_.Go.OpenSpec := { _root_.Go.OpenSpec.ofChange s with cond := some uptoSmall }

/-- 'spindlelaw16.HealCounts', WHERE WHAT IT READS IS OF BULK AT MOST 1048576: true; the input reads as it did. -/
def healCountsUptoRow : OpenClaim := { program := "ytljjjpakcbcioaagreat", sum := "0e498b6f4d81f89a85eababec07292379b0951764382a6990fabcc09b365a392", func := "spindle/spindlelaw16.HealCounts", spec := "healCounts", unfollowed := true, recurses := true, plainKeys := false, apart := false, narrowed := true }
def HealCountsUptoSaid : Prop := healCountsUptoRow.holds Tryz.pinned (OpenSpec.upto healCountsSpec)

/-- 'spindlelaw20.ScrubWritten', WHERE WHAT IT READS IS OF BULK AT MOST 1048576: true; the input reads as it did. -/
def scrubWrittenUptoRow : OpenClaim := { program := "ytljjjpakcbcioaagreat", sum := "0e498b6f4d81f89a85eababec07292379b0951764382a6990fabcc09b365a392", func := "spindle/spindlelaw20.ScrubWritten", spec := "scrubWritten", unfollowed := true, recurses := true, plainKeys := false, apart := false, narrowed := true }
def ScrubWrittenUptoSaid : Prop := scrubWrittenUptoRow.holds Tryz.pinned (OpenSpec.upto scrubWrittenSpec)

/-- 'spindlelaw16.HealOthers', WHERE WHAT IT READS IS OF BULK AT MOST 1048576: true; the input reads as it did. -/
def healOthersUptoRow : OpenClaim := { program := "ytljjjpakcbcioaagreat", sum := "0e498b6f4d81f89a85eababec07292379b0951764382a6990fabcc09b365a392", func := "spindle/spindlelaw16.HealOthers", spec := "healOthers", unfollowed := true, recurses := true, plainKeys := false, apart := false, narrowed := true }
def HealOthersUptoSaid : Prop := healOthersUptoRow.holds Tryz.pinned (OpenSpec.upto healOthersSpec)

/-- 'spindlelaw16.HealWhole', WHERE WHAT IT READS IS OF BULK AT MOST 1048576: true; the input reads as it did. -/
def healWholeUptoRow : OpenClaim := { program := "ytljjjpakcbcioaagreat", sum := "0e498b6f4d81f89a85eababec07292379b0951764382a6990fabcc09b365a392", func := "spindle/spindlelaw16.HealWhole", spec := "healWhole", unfollowed := true, recurses := true, plainKeys := false, apart := false, narrowed := true }
def HealWholeUptoSaid : Prop := healWholeUptoRow.holds Tryz.pinned (OpenSpec.upto healWholeSpec)

/-- 'spindlelaw16.HealLasts', WHERE WHAT IT READS IS OF BULK AT MOST 1048576: true; the input reads as it did. -/
def healLastsUptoRow : OpenClaim := { program := "ytljjjpakcbcioaagreat", sum := "0e498b6f4d81f89a85eababec07292379b0951764382a6990fabcc09b365a392", func := "spindle/spindlelaw16.HealLasts", spec := "healLasts", unfollowed := true, recurses := true, plainKeys := false, apart := false, narrowed := true }
def HealLastsUptoSaid : Prop := healLastsUptoRow.holds Tryz.pinned (OpenSpec.upto healLastsSpec)

end Rows
end Go.Proofs.YtljjjpakcbcioaaGreat
