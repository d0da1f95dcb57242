/- geom.Of: where a block lies. -/
import Derived.Test.YtkcfmkhakghniaaGreatMrg5
set_option linter.unusedVariables false
namespace Go.Proofs.YtkcfmkhakghniaaGreat
open Go.RowKit

def placeVal (t r m p : Int) : Value := .agg #[.int .i64 t, .int .i64 r, .int .i64 m, .int .i64 p]

/-- A block's stripe, its row, its member. -/
def stripeOf (M C b : Nat) : Nat := b / ((M - 1) * C)
def rowOf (M C b : Nat) : Nat := stripeOf M C b * C + b % ((M - 1) * C) % C
def membOf (M C b : Nat) : Nat := memOf M (stripeOf M C b) (b % ((M - 1) * C) / C)

set_option maxRecDepth 100000 in
set_option maxHeartbeats 4000000 in
theorem geom_Of_form (m c s b : Int) (w : World) (h : geoIs m c s = false) : Calls Tryz.prog 94 #[geo m c s, .int .i64 b] w fun e w' => e = .returned (.tuple #[placeVal 0 0 0 0, .int .u16 60]) ∧ Below w.heap.size w w' := by
  have hk := Lib.hid (fun W => geom_of m c s W)
  unfold geoCode at hk
  rw [h] at hk
  simp only [Bool.false_eq_true, if_false] at hk
  have hb0 : Below w.heap.size w ((w.alloc (.cells #[.int .i64 m, .int .i64 c, .int .i64 s] 23)).alloc (.cells #[.int .i64 0, .int .i64 0, .int .i64 0, .int .i64 0] 172)) := ((Below.refl _ _).alloc (Nat.le_refl _) _).alloc (by rw [size_alloc]; omega) _
  have HR0 : Hid (At ((w.alloc (.cells #[.int .i64 m, .int .i64 c, .int .i64 s] 23)).alloc (.cells #[.int .i64 0, .int .i64 0, .int .i64 0, .int .i64 0] 172)) (w.heap.size + 1) #[.int .i64 0, .int .i64 0, .int .i64 0, .int .i64 0] 172) := At.new2 _ _ _ _
  unfold geo shp placeVal at *
  go_enter Tryz.func94, Tryz.ntmps94
  go_wp2_with (go_at_call 153; (with_reducible refine (hk.out _).mono ?_); rintro e w1 ⟨d, rfl, hd, hb1⟩; have hr1 := (HR0.out.below hb1 HR0.out.lt).alloc (.cells #[.int .i64 m, .int .i64 c, .int .i64 s, .int .i64 d] 251); have d0 := hr1.cell 0; have d1 := hr1.cell 1; have d2 := hr1.cell 2; have d3 := hr1.cell 3; have f0 := hr1.free 0; have f1 := hr1.free 1; have f2 := hr1.free 2; have f3 := hr1.free 3; have HR1 := Lib.hid hr1; have HB1 := Lib.hid ((below_then hb0 hb1).alloc (below_then hb0 hb1).size (.cells #[.int .i64 m, .int .i64 c, .int .i64 s, .int .i64 d] 251)); clear hr1 hb1)
  have HF := (((HR1.out.set 0 (.int .i64 0)).set 1 (.int .i64 0)).set 2 (.int .i64 0)).set 3 (.int .i64 0)
  have r0 := HF.cell 0
  have r1 := HF.cell 1
  have r2 := HF.cell 2
  have r3 := HF.cell 3
  clear d0 d1 d2 d3 f0 f1 f2 f3
  (try simp only [Exit.inBlock, Exit.then])
  refine bodyPost_ret (v := .tuple #[.agg #[.int .i64 0, .int .i64 0, .int .i64 0, .int .i64 0], .int .u16 60]) ?_ rfl ⟨rfl, (((HB1.out.setCell (p := ⟨w.heap.size + 1, 0, none⟩) (Nat.le_succ _) _).setCell (p := ⟨w.heap.size + 1, 1, none⟩) (Nat.le_succ _) _).setCell (p := ⟨w.heap.size + 1, 2, none⟩) (Nat.le_succ _) _).setCell (p := ⟨w.heap.size + 1, 3, none⟩) (Nat.le_succ _) _⟩
  rw [results_cell_tmp rfl]
  go_simp
  try rfl

set_option maxRecDepth 100000 in
set_option maxHeartbeats 4000000 in
theorem geom_Of_range (M C S : Nat) (b : Int) (w : World) (h : geoIs M C S = true) (hb : b < 0 ∨ (S : Int) * C * ((M : Int) - 1) ≤ b) : Calls Tryz.prog 94 #[geo M C S, .int .i64 b] w fun e w' => e = .returned (.tuple #[placeVal 0 0 0 0, .int .u16 3]) ∧ Below w.heap.size w w' := by
  obtain ⟨h1, h2, h3, h4, h5, h6⟩ := (geoIs_iff M C S).1 h
  have hk := Lib.hid (fun W => geom_of M C S W)
  have hro := Lib.hid (fun d W => shape_rows M C S d W h)
  obtain ⟨hlo, hhi⟩ := geo_bounds h
  unfold geoCode at hk
  rw [h] at hk
  simp only [if_true] at hk
  generalize (S : Int) * (C : Int) = q at *
  have hp0 : 0 ≤ q * ((M : Int) - 1) := Int.mul_nonneg hlo (by omega)
  have hp1 : q * ((M : Int) - 1) ≤ 4096 * 15 := Int.mul_le_mul hhi (by omega) (by omega) (by omega)
  have hpw : IntKind.i64.wrap (q * ((M : Int) - 1)) = q * ((M : Int) - 1) := (IntWalk.i64_left _).trans (IntWalk.wrap64_in _ ⟨by omega, by omega⟩)
  have hpw' : RowKit.wrap64 (q * ((M : Int) - 1)) = q * ((M : Int) - 1) := IntWalk.wrap64_in _ ⟨by omega, by omega⟩
  have hb0 : Below w.heap.size w ((w.alloc (.cells #[.int .i64 M, .int .i64 C, .int .i64 S] 23)).alloc (.cells #[.int .i64 0, .int .i64 0, .int .i64 0, .int .i64 0] 172)) := ((Below.refl _ _).alloc (Nat.le_refl _) _).alloc (by rw [size_alloc]; omega) _
  have HR0 : Hid (At ((w.alloc (.cells #[.int .i64 M, .int .i64 C, .int .i64 S] 23)).alloc (.cells #[.int .i64 0, .int .i64 0, .int .i64 0, .int .i64 0] 172)) (w.heap.size + 1) #[.int .i64 0, .int .i64 0, .int .i64 0, .int .i64 0] 172) := At.new2 _ _ _ _
  unfold geo shp placeVal at *
  by_cases hneg : b < 0
  · have hn1 : decide (b < 0) = true := decide_eq_true hneg
    clear hb
    go_enter Tryz.func94, Tryz.ntmps94
    go_wp2_with (go_at_call 153; (with_reducible refine (hk.out _).mono ?_); rintro e w1 ⟨d, rfl, hd, hb1⟩; have hr1 := (HR0.out.below hb1 HR0.out.lt).alloc (.cells #[.int .i64 M, .int .i64 C, .int .i64 S, .int .i64 ((M : Int) - 1)] 251); have HR1 := Lib.hid hr1; have HB1 := Lib.hid ((below_then hb0 hb1).alloc (below_then hb0 hb1).size (.cells #[.int .i64 M, .int .i64 C, .int .i64 S, .int .i64 ((M : Int) - 1)] 251)); have HA1 : Hid (At (w1.alloc (.cells #[.int .i64 M, .int .i64 C, .int .i64 S, .int .i64 ((M : Int) - 1)] 251)) w1.heap.size #[.int .i64 M, .int .i64 C, .int .i64 S, .int .i64 ((M : Int) - 1)] 251) := At.new _ _ _; clear hr1 hb1)
    generalize w1.alloc (.cells #[.int .i64 M, .int .i64 C, .int .i64 S, .int .i64 ((M : Int) - 1)] 251) = W1 at *
    go_quiet (fail)
    have HRX : Hid (At (W1.drewN nq) (w.heap.size + 1) #[.int .i64 0, .int .i64 0, .int .i64 0, .int .i64 0] 172) := HR1.out
    have HBX := Lib.hid (below_drewN HB1.out nq)
    generalize W1.drewN nq = W2 at *
    have HR2 : Hid (At W2 (w.heap.size + 1) #[.int .i64 0, .int .i64 0, .int .i64 0, .int .i64 0] 172) := HRX.out
    have d0 := HR2.out.cell 0
    have d1 := HR2.out.cell 1
    have d2 := HR2.out.cell 2
    have d3 := HR2.out.cell 3
    have f0 := HR2.out.free 0
    have f1 := HR2.out.free 1
    have f2 := HR2.out.free 2
    have f3 := HR2.out.free 3
    go_wp2
    have HF := (((HR2.out.set 0 (.int .i64 0)).set 1 (.int .i64 0)).set 2 (.int .i64 0)).set 3 (.int .i64 0)
    have r0 := HF.cell 0
    have r1 := HF.cell 1
    have r2 := HF.cell 2
    have r3 := HF.cell 3
    clear d0 d1 d2 d3 f0 f1 f2 f3
    (try simp only [Exit.inBlock, Exit.then])
    refine bodyPost_ret (v := .tuple #[.agg #[.int .i64 0, .int .i64 0, .int .i64 0, .int .i64 0], .int .u16 3]) ?_ rfl ⟨rfl, (((HBX.out.setCell (p := ⟨w.heap.size + 1, 0, none⟩) (Nat.le_succ _) _).setCell (p := ⟨w.heap.size + 1, 1, none⟩) (Nat.le_succ _) _).setCell (p := ⟨w.heap.size + 1, 2, none⟩) (Nat.le_succ _) _).setCell (p := ⟨w.heap.size + 1, 3, none⟩) (Nat.le_succ _) _⟩
    rw [results_cell_tmp rfl]
    go_simp
    try rfl
  · have hn1 : decide (b < 0) = false := decide_eq_false hneg
    have hn2 : decide (q * ((M : Int) - 1) ≤ b) = true := decide_eq_true (by omega)
    clear hb
    go_enter Tryz.func94, Tryz.ntmps94
    go_wp2_with (go_at_call 153; (with_reducible refine (hk.out _).mono ?_); rintro e w1 ⟨d, rfl, hd, hb1⟩; have hr1 := (HR0.out.below hb1 HR0.out.lt).alloc (.cells #[.int .i64 M, .int .i64 C, .int .i64 S, .int .i64 ((M : Int) - 1)] 251); have HR1 := Lib.hid hr1; have HB1 := Lib.hid ((below_then hb0 hb1).alloc (below_then hb0 hb1).size (.cells #[.int .i64 M, .int .i64 C, .int .i64 S, .int .i64 ((M : Int) - 1)] 251)); have HA1 : Hid (At (w1.alloc (.cells #[.int .i64 M, .int .i64 C, .int .i64 S, .int .i64 ((M : Int) - 1)] 251)) w1.heap.size #[.int .i64 M, .int .i64 C, .int .i64 S, .int .i64 ((M : Int) - 1)] 251) := At.new _ _ _; clear hr1 hb1)
    generalize w1.alloc (.cells #[.int .i64 M, .int .i64 C, .int .i64 S, .int .i64 ((M : Int) - 1)] 251) = W1 at *
    have HAD : Hid (At W1.drew w1.heap.size #[.int .i64 M, .int .i64 C, .int .i64 S, .int .i64 ((M : Int) - 1)] 251) := HA1.out.drew
    have HH : Hid (∀ X, At X w1.heap.size #[.int .i64 M, .int .i64 C, .int .i64 S, .int .i64 ((M : Int) - 1)] 251 → X.cell? ⟨w1.heap.size, 0, none⟩ = some (.int .i64 M) ∧ X.cell? ⟨w1.heap.size, 1, none⟩ = some (.int .i64 C) ∧ X.cell? ⟨w1.heap.size, 2, none⟩ = some (.int .i64 S) ∧ X.cell? ⟨w1.heap.size, 3, none⟩ = some (.int .i64 ((M : Int) - 1))) := fun X h => ⟨h.cell 0, h.cell 1, h.cell 2, h.cell 3⟩
    go_region_held3 (fun w' => w'.cell? ⟨w1.heap.size, 0, none⟩ = some (.int .i64 M) ∧ w'.cell? ⟨w1.heap.size, 1, none⟩ = some (.int .i64 C) ∧ w'.cell? ⟨w1.heap.size, 2, none⟩ = some (.int .i64 S) ∧ w'.cell? ⟨w1.heap.size, 3, none⟩ = some (.int .i64 ((M : Int) - 1)))
      (first | with_reducible exact HH.out _ HA1.out | with_reducible exact HH.out _ HAD.out | with_reducible exact HH.out _ HAE.out)
      (first | (go_at_call 154; (with_reducible refine (hro.out _ _).mono ?_); rintro e w3 ⟨rfl, hb3⟩; have HAE := Lib.hid (HAD.out.below hb3 HAD.out.lt); have HRX := Lib.hid (HR1.out.drew.below hb3 HR1.out.lt); have HBX := Lib.hid (below_then HB1.out.drew hb3)))
    generalize w3 = W2 at *
    have HR2 : Hid (At W2 (w.heap.size + 1) #[.int .i64 0, .int .i64 0, .int .i64 0, .int .i64 0] 172) := HRX.out
    have d0 := HR2.out.cell 0
    have d1 := HR2.out.cell 1
    have d2 := HR2.out.cell 2
    have d3 := HR2.out.cell 3
    have f0 := HR2.out.free 0
    have f1 := HR2.out.free 1
    have f2 := HR2.out.free 2
    have f3 := HR2.out.free 3
    go_wp2
    have HF := (((HR2.out.set 0 (.int .i64 0)).set 1 (.int .i64 0)).set 2 (.int .i64 0)).set 3 (.int .i64 0)
    have r0 := HF.cell 0
    have r1 := HF.cell 1
    have r2 := HF.cell 2
    have r3 := HF.cell 3
    clear d0 d1 d2 d3 f0 f1 f2 f3
    (try simp only [Exit.inBlock, Exit.then])
    refine bodyPost_ret (v := .tuple #[.agg #[.int .i64 0, .int .i64 0, .int .i64 0, .int .i64 0], .int .u16 3]) ?_ rfl ⟨rfl, (((HBX.out.setCell (p := ⟨w.heap.size + 1, 0, none⟩) (Nat.le_succ _) _).setCell (p := ⟨w.heap.size + 1, 1, none⟩) (Nat.le_succ _) _).setCell (p := ⟨w.heap.size + 1, 2, none⟩) (Nat.le_succ _) _).setCell (p := ⟨w.heap.size + 1, 3, none⟩) (Nat.le_succ _) _⟩
    rw [results_cell_tmp rfl]
    go_simp
    try rfl

end Go.Proofs.YtkcfmkhakghniaaGreat
