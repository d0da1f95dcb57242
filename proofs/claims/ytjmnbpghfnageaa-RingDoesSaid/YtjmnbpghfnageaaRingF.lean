/- 'SameSpans' at equal rows; the law on giving back: their walks. -/
import Derived.Test.YtjmnbpghfnageaaRingE
namespace Go.Proofs.Ytjmnbpghfnageaa
open Go.RowKit

set_option maxRecDepth 100000 in
set_option maxHeartbeats 4000000 in
theorem samespans_any (w : World) (b1 b2 : Nat) (v1 v2 : Value) (l : List (Nat × Nat)) (hl : l.length ≤ 2) (h1 : SpanRow w b1 v1 l) (h2 : SpanRow w b2 v2 l) :
    Calls Try.prog 19 #[v1, v2] w fun e w' => e = .returned (.bool true) ∧ Below w.heap.size w w' := by
  match l, hl with
  | [], _ =>
    obtain rfl := h1.2.2 rfl
    obtain rfl := h2.2.2 rfl
    go_enter Try.func19, Try.ntmps19
    go_wp2
    refine wp_loop_rounds 1 ?_
    rw [rounds_succ]
    go_wp2
    go_ret
    exact ⟨rfl, Below.refl _ _⟩
  | [x], _ =>
    obtain ⟨g1, c1, rfl, _⟩ := h1.full (by simp)
    obtain ⟨g2, c2, rfl, _⟩ := h2.full (by simp)
    obtain ⟨a0, a1⟩ := h1.at 0 (by simp)
    obtain ⟨d0, d1⟩ := h2.at 0 (by simp)
    clear h1 h2
    go_enter Try.func19, Try.ntmps19
    go_wp2
    refine wp_loop_rounds 2 ?_
    rw [rounds_succ]
    go_wp2
    go_quiet (fail)
    go_wp2
    rw [rounds_succ]
    go_wp2
    go_ret
    exact ⟨rfl, below_drewN (Below.refl _ _) _⟩
  | [x, y], _ =>
    obtain ⟨g1, c1, rfl, _⟩ := h1.full (by simp)
    obtain ⟨g2, c2, rfl, _⟩ := h2.full (by simp)
    obtain ⟨a0, a1⟩ := h1.at 0 (by simp)
    obtain ⟨d0, d1⟩ := h2.at 0 (by simp)
    obtain ⟨a2, a3⟩ := h1.at 1 (by simp)
    obtain ⟨d2, d3⟩ := h2.at 1 (by simp)
    clear h1 h2
    go_enter Try.func19, Try.ntmps19
    go_wp2
    refine wp_loop_rounds 3 ?_
    rw [rounds_succ]
    go_wp2
    go_quiet (fail)
    go_wp2
    rw [rounds_succ]
    go_wp2
    go_quiet (fail)
    go_wp2
    rw [rounds_succ]
    go_wp2
    go_ret
    exact ⟨rfl, below_drewN (Below.refl _ _) _⟩

end Go.Proofs.Ytjmnbpghfnageaa
