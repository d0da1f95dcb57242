/-
  No cell of these rows narrows 'for every input' (looked for: loops, veiled, ifaces, maps, wideKeys, modest, calm, conditions, laid).
  DERIVED. THE GIVEN ROWS OF THIS SEAT. 6 by the template 'for every input the law returns true; each argument reads behind the call as it read before'; 0 by the template 'total and deterministic' (their statements: YtkcfmkhakghniaaTotals.lean).
  GIVEN WITH THE SEED: the statements are not yours to turn. If you find one false, say at which input.
  Laid BY PROGRAM, IN A SANDBOX (cutbox-rows.mjs): the forced cells as the released guide's own fill.sh prints them over the translation ebce21fae01f6ae6… (all of the seat's roots in one cut). By AI agents, Wed Nov 11 2026. No macro, syntax, notation, axiom, sorry.
-/
import Derived.Test.YtkcfmkhakghniaaChecked
import GoSem.Claim
import GoSem.ClaimJoined
import GoSem.ClaimMapViews
import Derived.JoinedTies
import Derived.KernelRfl
namespace Go.Proofs.Ytkcfmkhakghniaa
/- THE CELL 'sum', in the pinned program and in every row, IS THE sha256 OF THE DUMP (.gsa) THAT YtkcfmkhakghniaaProg.lean LOADS. Nothing in Lean hashes anything: it is a label: what it is worth is what the hold of that sum in a sandbox is worth. -/
noncomputable def Try.pinned : Pinned := { name := "ytkcfmkhakghniaa", sum := "ebce21fae01f6ae6f599a08647f222b33ec09e6d9863e099320abcb050fb70f7", checked := Try.checked }
namespace Rows
def none {H : Type} : Left H := { results := [], args := [] }

/-- 'spindlelaw20.ScrubTurned': WHATEVER THE INPUT: true; the input reads as it did. -/
def scrubTurnedSpec : ChangeSpec := { name := "scrubTurned", fn := fun _ => fun
  | [d1, d2, d3, d4, d5] => { results := [.lit (.bool true)], args := [d1, d2, d3, d4, d5] }
  | _ => none }
def scrubTurnedRow : OpenClaim := { program := "ytkcfmkhakghniaa", sum := "ebce21fae01f6ae6f599a08647f222b33ec09e6d9863e099320abcb050fb70f7", func := "spindle/spindlelaw20.ScrubTurned", spec := "scrubTurned", unfollowed := true, recurses := true, apart := false }
def ScrubTurnedSaid : Prop := scrubTurnedRow.holds Try.pinned (OpenSpec.ofChange scrubTurnedSpec)

/-- ITS FALSE NEIGHBOUR: 'it returns false'. Refute it at one input. -/
def scrubTurnedWrong : ChangeSpec := { name := "scrubTurned", fn := fun _ => fun
  | [d1, d2, d3, d4, d5] => { results := [.lit (.bool false)], args := [d1, d2, d3, d4, d5] }
  | _ => none }
def ScrubTurnedWrongFalsely : Prop := scrubTurnedRow.holds Try.pinned (OpenSpec.ofChange scrubTurnedWrong)

/-- 'spindlelaw20.ScrubMends': WHATEVER THE INPUT: true; the input reads as it did. -/
def scrubMendsSpec : ChangeSpec := { name := "scrubMends", fn := fun _ => fun
  | [d1, d2, d3] => { results := [.lit (.bool true)], args := [d1, d2, d3] }
  | _ => none }
def scrubMendsRow : OpenClaim := { program := "ytkcfmkhakghniaa", sum := "ebce21fae01f6ae6f599a08647f222b33ec09e6d9863e099320abcb050fb70f7", func := "spindle/spindlelaw20.ScrubMends", spec := "scrubMends", unfollowed := true, recurses := true, apart := false }
def ScrubMendsSaid : Prop := scrubMendsRow.holds Try.pinned (OpenSpec.ofChange scrubMendsSpec)

/-- ITS FALSE NEIGHBOUR: 'it returns false'. Refute it at one input. -/
def scrubMendsWrong : ChangeSpec := { name := "scrubMends", fn := fun _ => fun
  | [d1, d2, d3] => { results := [.lit (.bool false)], args := [d1, d2, d3] }
  | _ => none }
def ScrubMendsWrongFalsely : Prop := scrubMendsRow.holds Try.pinned (OpenSpec.ofChange scrubMendsWrong)

/-- 'spindlelaw13.PlanOrder': WHATEVER THE INPUT: true; the input reads as it did. -/
def planOrderSpec : ChangeSpec := { name := "planOrder", fn := fun _ => fun
  | [d1, d2] => { results := [.lit (.bool true)], args := [d1, d2] }
  | _ => none }
def planOrderRow : OpenClaim := { program := "ytkcfmkhakghniaa", sum := "ebce21fae01f6ae6f599a08647f222b33ec09e6d9863e099320abcb050fb70f7", func := "spindle/spindlelaw13.PlanOrder", spec := "planOrder", unfollowed := true, recurses := true, apart := false }
def PlanOrderSaid : Prop := planOrderRow.holds Try.pinned (OpenSpec.ofChange planOrderSpec)

/-- ITS FALSE NEIGHBOUR: 'it returns false'. Refute it at one input. -/
def planOrderWrong : ChangeSpec := { name := "planOrder", fn := fun _ => fun
  | [d1, d2] => { results := [.lit (.bool false)], args := [d1, d2] }
  | _ => none }
def PlanOrderWrongFalsely : Prop := planOrderRow.holds Try.pinned (OpenSpec.ofChange planOrderWrong)

/-- 'spindlelaw13.PlanMost': WHATEVER THE INPUT: true; the input reads as it did. -/
def planMostSpec : ChangeSpec := { name := "planMost", fn := fun _ => fun
  | [d1, d2, d3, d4] => { results := [.lit (.bool true)], args := [d1, d2, d3, d4] }
  | _ => none }
def planMostRow : OpenClaim := { program := "ytkcfmkhakghniaa", sum := "ebce21fae01f6ae6f599a08647f222b33ec09e6d9863e099320abcb050fb70f7", func := "spindle/spindlelaw13.PlanMost", spec := "planMost", unfollowed := true, recurses := true, apart := false }
def PlanMostSaid : Prop := planMostRow.holds Try.pinned (OpenSpec.ofChange planMostSpec)

/-- ITS FALSE NEIGHBOUR: 'it returns false'. Refute it at one input. -/
def planMostWrong : ChangeSpec := { name := "planMost", fn := fun _ => fun
  | [d1, d2, d3, d4] => { results := [.lit (.bool false)], args := [d1, d2, d3, d4] }
  | _ => none }
def PlanMostWrongFalsely : Prop := planMostRow.holds Try.pinned (OpenSpec.ofChange planMostWrong)

/-- 'spindlelaw13.PlanEven': WHATEVER THE INPUT: true; the input reads as it did. -/
def planEvenSpec : ChangeSpec := { name := "planEven", fn := fun _ => fun
  | [d1, d2, d3, d4, d5] => { results := [.lit (.bool true)], args := [d1, d2, d3, d4, d5] }
  | _ => none }
def planEvenRow : OpenClaim := { program := "ytkcfmkhakghniaa", sum := "ebce21fae01f6ae6f599a08647f222b33ec09e6d9863e099320abcb050fb70f7", func := "spindle/spindlelaw13.PlanEven", spec := "planEven", unfollowed := true, recurses := true, apart := false }
def PlanEvenSaid : Prop := planEvenRow.holds Try.pinned (OpenSpec.ofChange planEvenSpec)

/-- ITS FALSE NEIGHBOUR: 'it returns false'. Refute it at one input. -/
def planEvenWrong : ChangeSpec := { name := "planEven", fn := fun _ => fun
  | [d1, d2, d3, d4, d5] => { results := [.lit (.bool false)], args := [d1, d2, d3, d4, d5] }
  | _ => none }
def PlanEvenWrongFalsely : Prop := planEvenRow.holds Try.pinned (OpenSpec.ofChange planEvenWrong)

/-- 'spindlelaw13.PlanAny': WHATEVER THE INPUT: true; the input reads as it did. -/
def planAnySpec : ChangeSpec := { name := "planAny", fn := fun _ => fun
  | [d1, d2, d3, d4, d5, d6] => { results := [.lit (.bool true)], args := [d1, d2, d3, d4, d5, d6] }
  | _ => none }
def planAnyRow : OpenClaim := { program := "ytkcfmkhakghniaa", sum := "ebce21fae01f6ae6f599a08647f222b33ec09e6d9863e099320abcb050fb70f7", func := "spindle/spindlelaw13.PlanAny", spec := "planAny", unfollowed := true, recurses := true, apart := false }
def PlanAnySaid : Prop := planAnyRow.holds Try.pinned (OpenSpec.ofChange planAnySpec)

/-- ITS FALSE NEIGHBOUR: 'it returns false'. Refute it at one input. -/
def planAnyWrong : ChangeSpec := { name := "planAny", fn := fun _ => fun
  | [d1, d2, d3, d4, d5, d6] => { results := [.lit (.bool false)], args := [d1, d2, d3, d4, d5, d6] }
  | _ => none }
def PlanAnyWrongFalsely : Prop := planAnyRow.holds Try.pinned (OpenSpec.ofChange planAnyWrong)

/- THE SECOND FORM. 'bulk': how many values and letters a reading holds, each counted each time it is reached (what is shared counts as often as it is met; a slice's spare places count too). A statement '..UptoSaid' is the law's where the arguments, and the package variables that the reading takes, are together of bulk at most 1048576: NARROWER than '..Said'. Prove '..Said' where nothing that the law and all that it calls make is longer than what came in: it says more and counts as full. Else prove '..UptoSaid'. A law counts once. -/
mutual
def uptoBulk {H : Type} : DataW H → Nat
  | .lit (.string bytes) => bytes.length + 1
  | .lit _ => 1
  | .nil => 1
  | .ptr d => uptoBulk d + 1
  | .slice elems spare => uptoBulkAll elems + uptoBulkAll spare + 1
  | .agg parts => uptoBulkAll parts + 1
  | .iface _ d => uptoBulk d + 1
  | .map entries => uptoBulkEntries entries + 1
  | .held _ => 1
def uptoBulkAll {H : Type} : List (DataW H) → Nat
  | [] => 0
  | d :: r => uptoBulk d + uptoBulkAll r
def uptoBulkEntries {H : Type} : List (Lit × DataW H) → Nat
  | [] => 0
  | x :: r => uptoBulkEntry x + uptoBulkEntries r
def uptoBulkEntry {H : Type} : Lit × DataW H → Nat
  | (.string bytes, d) => bytes.length + uptoBulk d + 1
  | (_, d) => uptoBulk d + 1
 end
def uptoSmall : (H : Type) → List (DataW H) → Bool := fun _ ds => decide (uptoBulkAll ds ≤ 1048576)
def OpenSpec.upto (s : _root_.Go.ChangeSpec) : _root_.Go.OpenSpec := { _root_.Go.OpenSpec.ofChange s with cond := some uptoSmall }

/-- 'spindlelaw20.ScrubTurned', WHERE WHAT IT READS IS OF BULK AT MOST 1048576: true; the input reads as it did. -/
def scrubTurnedUptoRow : OpenClaim := { program := "ytkcfmkhakghniaa", sum := "ebce21fae01f6ae6f599a08647f222b33ec09e6d9863e099320abcb050fb70f7", func := "spindle/spindlelaw20.ScrubTurned", spec := "scrubTurned", unfollowed := true, recurses := true, apart := false, narrowed := true }
def ScrubTurnedUptoSaid : Prop := scrubTurnedUptoRow.holds Try.pinned (OpenSpec.upto scrubTurnedSpec)

/-- 'spindlelaw20.ScrubMends', WHERE WHAT IT READS IS OF BULK AT MOST 1048576: true; the input reads as it did. -/
def scrubMendsUptoRow : OpenClaim := { program := "ytkcfmkhakghniaa", sum := "ebce21fae01f6ae6f599a08647f222b33ec09e6d9863e099320abcb050fb70f7", func := "spindle/spindlelaw20.ScrubMends", spec := "scrubMends", unfollowed := true, recurses := true, apart := false, narrowed := true }
def ScrubMendsUptoSaid : Prop := scrubMendsUptoRow.holds Try.pinned (OpenSpec.upto scrubMendsSpec)

/-- 'spindlelaw13.PlanOrder', WHERE WHAT IT READS IS OF BULK AT MOST 1048576: true; the input reads as it did. -/
def planOrderUptoRow : OpenClaim := { program := "ytkcfmkhakghniaa", sum := "ebce21fae01f6ae6f599a08647f222b33ec09e6d9863e099320abcb050fb70f7", func := "spindle/spindlelaw13.PlanOrder", spec := "planOrder", unfollowed := true, recurses := true, apart := false, narrowed := true }
def PlanOrderUptoSaid : Prop := planOrderUptoRow.holds Try.pinned (OpenSpec.upto planOrderSpec)

/-- 'spindlelaw13.PlanMost', WHERE WHAT IT READS IS OF BULK AT MOST 1048576: true; the input reads as it did. -/
def planMostUptoRow : OpenClaim := { program := "ytkcfmkhakghniaa", sum := "ebce21fae01f6ae6f599a08647f222b33ec09e6d9863e099320abcb050fb70f7", func := "spindle/spindlelaw13.PlanMost", spec := "planMost", unfollowed := true, recurses := true, apart := false, narrowed := true }
def PlanMostUptoSaid : Prop := planMostUptoRow.holds Try.pinned (OpenSpec.upto planMostSpec)

/-- 'spindlelaw13.PlanEven', WHERE WHAT IT READS IS OF BULK AT MOST 1048576: true; the input reads as it did. -/
def planEvenUptoRow : OpenClaim := { program := "ytkcfmkhakghniaa", sum := "ebce21fae01f6ae6f599a08647f222b33ec09e6d9863e099320abcb050fb70f7", func := "spindle/spindlelaw13.PlanEven", spec := "planEven", unfollowed := true, recurses := true, apart := false, narrowed := true }
def PlanEvenUptoSaid : Prop := planEvenUptoRow.holds Try.pinned (OpenSpec.upto planEvenSpec)

/-- 'spindlelaw13.PlanAny', WHERE WHAT IT READS IS OF BULK AT MOST 1048576: true; the input reads as it did. -/
def planAnyUptoRow : OpenClaim := { program := "ytkcfmkhakghniaa", sum := "ebce21fae01f6ae6f599a08647f222b33ec09e6d9863e099320abcb050fb70f7", func := "spindle/spindlelaw13.PlanAny", spec := "planAny", unfollowed := true, recurses := true, apart := false, narrowed := true }
def PlanAnyUptoSaid : Prop := planAnyUptoRow.holds Try.pinned (OpenSpec.upto planAnySpec)

end Rows
end Go.Proofs.Ytkcfmkhakghniaa
