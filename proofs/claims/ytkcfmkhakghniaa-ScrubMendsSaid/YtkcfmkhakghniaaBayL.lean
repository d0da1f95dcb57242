/- A bay of disks: how many slots; the counts. -/
import Derived.Test.YtkcfmkhakghniaaBayH
import Derived.Laws.ResultCell
set_option linter.unusedVariables false
namespace Go

theorem results_cell {fn : Func} {p : Tmp} {ty : TypeId} (h : fn.results = #[.cell p ty]) (tmps : Array Value) (P : Program) (w : World) :
    (results fn tmps).run P w = ((asAddr (tmps.getD p undef)).run P w).andThen fun a w₁ => (loadVar ty a).run P w₁ := by
  simp only [results, h]
  simp [Sem.run_bind, Result.andThen]
theorem results_tmp_cell {fn : Func} {p u : Tmp} {ty : TypeId} (h : fn.results = #[.tmp u, .cell p ty]) (tmps : Array Value) (P : Program) (w : World) :
    (results fn tmps).run P w =
      ((asAddr (tmps.getD p undef)).run P w).andThen fun a w₁ => ((loadVar ty a).run P w₁).andThen fun v w₂ => .ok (.tuple #[tmps.getD u undef, v]) w₂ := by
  simp only [results, h]
  simp [Sem.run_bind, Result.andThen]

end Go
namespace Go.Proofs.Ytkcfmkhakghniaa
open Go.RowKit

set_option maxHeartbeats 1000000 in
theorem bay_slots {w : World} {T : Nat → Nat} {b : Nat} {s : BaySt} (h : BayAt w T b s) :
    Calls Try.prog 78 #[.pointer (some ⟨b, 0, none⟩)] w fun e w' => e = .returned (.int .i64 (s.n : Int)) ∧ w' = w := by
  obtain ⟨gs, ptr, tg, dp, h⟩ := h
  have c0 : w.cell? ⟨b, 0, none⟩ = some (.slice (some ⟨gs, 0, none⟩) s.n s.n) := h.bay.cell 0
  have hf := h.few
  clear h
  generalize s.n = n at *
  go_enter Try.func78, Try.ntmps78
  go_wp2
  go_ret
  exact ⟨rfl, rfl⟩

theorem bay_slots_few {w : World} {T : Nat → Nat} {b : Nat} {s : BaySt} (h : BayAt w T b s) : s.n ≤ 17 := by
  obtain ⟨gs, ptr, tg, dp, h⟩ := h
  exact h.few

def cntVal (s : BaySt) : Value := .agg #[.int .i64 (s.cnt 0), .int .i64 (s.cnt 1), .int .i64 (s.cnt 2)]

set_option maxHeartbeats 1000000 in
theorem bay_counts {w : World} {T : Nat → Nat} {b : Nat} {s : BaySt} (h : BayAt w T b s) :
    Calls Try.prog 39 #[.pointer (some ⟨b, 0, none⟩)] w fun e w' => e = .returned (cntVal s) ∧ Below w.heap.size w w' := by
  obtain ⟨gs, ptr, tg, dp, h⟩ := h
  have hal := h.bay.alloc (.cells #[.int .i64 0, .int .i64 0, .int .i64 0] 92)
  have c3 : (w.alloc (.cells #[.int .i64 0, .int .i64 0, .int .i64 0] 92)).cell? ⟨b, 3, none⟩ = some (.int .i64 (s.cnt 0)) := hal.cell 3
  have c4 : (w.alloc (.cells #[.int .i64 0, .int .i64 0, .int .i64 0] 92)).cell? ⟨b, 4, none⟩ = some (.int .i64 (s.cnt 1)) := hal.cell 4
  have c5 : (w.alloc (.cells #[.int .i64 0, .int .i64 0, .int .i64 0] 92)).cell? ⟨b, 5, none⟩ = some (.int .i64 (s.cnt 2)) := hal.cell 5
  have hb := (Below.refl w.heap.size w).alloc (Nat.le_refl _) (.cells #[.int .i64 0, .int .i64 0, .int .i64 0] 92)
  clear h hal
  unfold cntVal
  generalize s.cnt 0 = x at *
  generalize s.cnt 1 = y at *
  generalize s.cnt 2 = z at *
  go_enter Try.func39, Try.ntmps39
  go_wp2
  have hb2 := (Below.refl w.heap.size w).alloc (Nat.le_refl _) (.cells #[.int .i64 x, .int .i64 y, .int .i64 z] 92)
  refine bodyPost_ret (v := .agg #[.int .i64 x, .int .i64 y, .int .i64 z]) ?_ rfl ⟨rfl, hb2⟩
  rw [results_cell rfl]
  go_simp

end Go.Proofs.Ytkcfmkhakghniaa
