/- The law 'ScrubWritten', handed over: for every input the Go function returns true and each argument reads behind the call as it read before. No condition. -/
import Derived.Test.YtljjjpakcbcioaaGreatSwL
import Derived.Test.YtljjjpakcbcioaaGreatSwK
import Derived.WalkKit
import Derived.ProofKit
import Derived.OpenShut
import Derived.SizedLaws
namespace Go.Proofs.YtljjjpakcbcioaaGreat.scrubWritten
open Go.ChangeShapes Go.WideShapes Go.ChangeAt Go.RowKit
set_option linter.unusedVariables false

theorem over : Rows.scrubWrittenRow.holds Tryz.pinned (OpenSpec.ofChange Rows.scrubWrittenSpec) :=
  OpenClaim.holds_of_wide 4 Tryz.f4 rfl rfl rfl rfl rfl rfl rfl ⟨rfl, rfl, rfl, rfl, rfl⟩ rfl rfl rfl rfl rfl (by kernel_rfl) Tryz.func4 closed
    (of_decide_eq_true (by kernel_rfl)) (by unfold Func.isWrapper; first | (rw [if_pos (by decide +kernel)]; kernel_rfl) | (rw [if_neg (by decide +kernel)]; exact ⟨rfl, rfl⟩))
    (fun os started H enc _ => lifted os started H enc)

theorem proved : Rows.ScrubWrittenSaid := over
end Go.Proofs.YtljjjpakcbcioaaGreat.scrubWritten
