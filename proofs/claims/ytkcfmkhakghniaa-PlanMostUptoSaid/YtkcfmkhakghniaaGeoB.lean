/- Geometries: shapes, rows, parity. -/
import Derived.Test.YtkcfmkhakghniaaGeoA
import Derived.Laws.ResultCell
set_option linter.unusedVariables false
namespace Go.Proofs.Ytkcfmkhakghniaa
open Go.RowKit

set_option maxRecDepth 100000 in
set_option maxHeartbeats 4000000 in
theorem geom_of (m c s : Int) (w : World) : Calls Try.prog 79 #[geo m c s] w fun e w' => ∃ d, e = .returned (.tuple #[shp m c s d, .int .u16 (geoCode m c s)]) ∧ (geoIs m c s = true → d = m - 1) ∧ Below w.heap.size w w' := by
  have hk := Lib.hid (fun W => geom_check m c s W)
  have hd : Hid (geoIs m c s = true → IntKind.i64.wrap (m - 1) = m - 1) := fun h => by
    have := (geoIs_iff m c s).1 h
    unfold IntKind.wrap; simp [IntKind.signed, IntKind.bits]; omega
  generalize geoCode m c s = q at *
  unfold geo shp at *
  go_enter Try.func79, Try.ntmps79
  go_wp2
  obtain ⟨W0, hW0⟩ : ∃ W0, W0 = (w.alloc (.cells #[.int .i64 m, .int .i64 c, .int .i64 s] 23)).alloc (.cells #[.int .i64 0, .int .i64 0, .int .i64 0, .int .i64 0] 164) := ⟨_, rfl⟩
  have hb0 : Below w.heap.size w W0 := by rw [hW0]; exact ((Below.refl _ _).alloc (Nat.le_refl _) _).alloc (by rw [size_alloc]; omega) _
  have ha0 : At W0 w.heap.size #[.int .i64 m, .int .i64 c, .int .i64 s] 23 := by rw [hW0]; exact (At.new _ _ _).alloc _
  have hr0 : At W0 (w.heap.size + 1) #[.int .i64 0, .int .i64 0, .int .i64 0, .int .i64 0] 164 := by rw [hW0]; exact At.new2 _ _ _ _
  subst hW0
  have HH : Hid (∀ X, At X w.heap.size #[.int .i64 m, .int .i64 c, .int .i64 s] 23 → X.cell? ⟨w.heap.size, 0, none⟩ = some (.int .i64 m) ∧ X.cell? ⟨w.heap.size, 1, none⟩ = some (.int .i64 c) ∧ X.cell? ⟨w.heap.size, 2, none⟩ = some (.int .i64 s)) := fun X h => ⟨h.cell 0, h.cell 1, h.cell 2⟩
  have HA := Lib.hid ha0
  have HR := Lib.hid hr0
  clear ha0 hr0
  go_region_held3 (fun w' => w'.cell? ⟨w.heap.size, 0, none⟩ = some (.int .i64 m) ∧ w'.cell? ⟨w.heap.size, 1, none⟩ = some (.int .i64 c) ∧ w'.cell? ⟨w.heap.size, 2, none⟩ = some (.int .i64 s))
    (first | exact HH.out _ HA.out | exact HH.out _ HA.out.drew | exact HH.out _ HB.out | exact HH.out _ HC.out)
    (first | (go_at_call 57; (with_reducible refine (hk.out _).mono ?_); rintro e w1 ⟨rfl, hb1⟩; have HB := Lib.hid (HA.out.drew.below hb1 HA.out.lt); have hR1 := HR.out.drew.below hb1 HR.out.lt; have d0 : w1.cell? ⟨w.heap.size + 1, 0, none⟩ = some (.int .i64 0) := hR1.cell 0; have d1 : w1.cell? ⟨w.heap.size + 1, 1, none⟩ = some (.int .i64 0) := hR1.cell 1; have d2 : w1.cell? ⟨w.heap.size + 1, 2, none⟩ = some (.int .i64 0) := hR1.cell 2; have d3 : w1.cell? ⟨w.heap.size + 1, 3, none⟩ = some (.int .i64 0) := hR1.cell 3; have f0 := hR1.free 0; have f1 := hR1.free 1; have f2 := hR1.free 2; have f3 := hR1.free 3; have HR1 := Lib.hid hR1; clear hR1; have HC : Hid (At ((((w1.setCell ⟨w.heap.size + 1, 0, none⟩ (.int .i64 m)).setCell ⟨w.heap.size + 1, 1, none⟩ (.int .i64 c)).setCell ⟨w.heap.size + 1, 2, none⟩ (.int .i64 s)).setCell ⟨w.heap.size + 1, 3, none⟩ (.int .i64 (IntKind.i64.wrap (m - 1)))) w.heap.size #[.int .i64 m, .int .i64 c, .int .i64 s] 23) := (((HB.out.setOther (by show w.heap.size ≠ w.heap.size + 1; omega) _).setOther (by show w.heap.size ≠ w.heap.size + 1; omega) _).setOther (by show w.heap.size ≠ w.heap.size + 1; omega) _).setOther (by show w.heap.size ≠ w.heap.size + 1; omega) _))
  clear d0 d1 d2 d3 f0 f1 f2 f3
  have HF := (((HR1.out.set 0 (.int .i64 m)).set 1 (.int .i64 c)).set 2 (.int .i64 s)).set 3 (.int .i64 (IntKind.i64.wrap (m - 1)))
  have r0 := HF.cell 0
  have r1 := HF.cell 1
  have r2 := HF.cell 2
  have r3 := HF.cell 3
  have hbb : Below w.heap.size w ((((w1.setCell ⟨w.heap.size + 1, 0, none⟩ (.int .i64 m)).setCell ⟨w.heap.size + 1, 1, none⟩ (.int .i64 c)).setCell ⟨w.heap.size + 1, 2, none⟩ (.int .i64 s)).setCell ⟨w.heap.size + 1, 3, none⟩ (.int .i64 (IntKind.i64.wrap (m - 1)))) := (((((below_then hb0.drew hb1).setCell (p := ⟨w.heap.size + 1, 0, none⟩) (Nat.le_succ _) _).setCell (p := ⟨w.heap.size + 1, 1, none⟩) (Nat.le_succ _) _).setCell (p := ⟨w.heap.size + 1, 2, none⟩) (Nat.le_succ _) _).setCell (p := ⟨w.heap.size + 1, 3, none⟩) (Nat.le_succ _) _)
  go_wp2
  (try simp only [Exit.inBlock, Exit.then])
  refine bodyPost_ret (v := .tuple #[shp m c s (IntKind.i64.wrap (m - 1)), .int .u16 q]) ?_ rfl ⟨_, rfl, hd.out, hbb⟩
  rw [results_cell_tmp rfl]
  go_simp
  rfl

set_option maxHeartbeats 1000000 in
theorem shape_rows (m c s d : Int) (w : World) (h : geoIs m c s = true) : Calls Try.prog 80 #[shp m c s d] w fun e w' => e = .returned (.int .i64 (s * c)) ∧ Below w.heap.size w w' := by
  obtain ⟨h1, h2, h3, h4, h5, h6⟩ := (geoIs_iff m c s).1 h
  have hlo : 0 ≤ s * c := Int.mul_nonneg (by omega) (by omega)
  have hhi : s * c ≤ 256 * 16 := Int.mul_le_mul h6 h4 (by omega) (by omega)
  unfold shp
  go_enter Try.func80, Try.ntmps80
  go_wp2
  go_ret
  exact ⟨by go_num, (Below.refl _ _).alloc (Nat.le_refl _) _⟩

end Go.Proofs.Ytkcfmkhakghniaa
