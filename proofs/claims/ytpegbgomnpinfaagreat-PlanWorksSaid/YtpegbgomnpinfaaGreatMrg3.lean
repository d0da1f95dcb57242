/- Several texts in one: GeoB, GeoC, GeoD, Same. -/
import Derived.Test.YtpegbgomnpinfaaGreatGeoA
import Derived.Laws.ResultCell
import Derived.Test.YtpegbgomnpinfaaGreatDiskB
import Derived.Test.YtpegbgomnpinfaaGreatMrg1
/- Geometries: shapes, rows, parity. -/
set_option linter.unusedVariables false
namespace Go.Proofs.YtpegbgomnpinfaaGreat
open Go.RowKit

set_option maxRecDepth 100000 in
set_option maxHeartbeats 4000000 in
theorem geom_of (m c s : Int) (w : World) : Calls Tryz.prog 153 #[geo m c s] w fun e w' => ∃ d, e = .returned (.tuple #[shp m c s d, .int .u16 (geoCode m c s)]) ∧ (geoIs m c s = true → d = m - 1) ∧ Below w.heap.size w w' := by
  have hk := Lib.hid (fun W => geom_check m c s W)
  have hd : Hid (geoIs m c s = true → IntKind.i64.wrap (m - 1) = m - 1) := fun h => by
    have := (geoIs_iff m c s).1 h
    unfold IntKind.wrap; simp [IntKind.signed, IntKind.bits]; omega
  generalize geoCode m c s = q at *
  unfold geo shp at *
  go_enter Tryz.func153, Tryz.ntmps153
  go_wp2
  obtain ⟨W0, hW0⟩ : ∃ W0, W0 = (w.alloc (.cells #[.int .i64 m, .int .i64 c, .int .i64 s] 23)).alloc (.cells #[.int .i64 0, .int .i64 0, .int .i64 0, .int .i64 0] 240) := ⟨_, rfl⟩
  have hb0 : Below w.heap.size w W0 := by rw [hW0]; exact ((Below.refl _ _).alloc (Nat.le_refl _) _).alloc (by rw [size_alloc]; omega) _
  have ha0 : At W0 w.heap.size #[.int .i64 m, .int .i64 c, .int .i64 s] 23 := by rw [hW0]; exact (At.new _ _ _).alloc _
  have hr0 : At W0 (w.heap.size + 1) #[.int .i64 0, .int .i64 0, .int .i64 0, .int .i64 0] 240 := by rw [hW0]; exact At.new2 _ _ _ _
  subst hW0
  have HH : Hid (∀ X, At X w.heap.size #[.int .i64 m, .int .i64 c, .int .i64 s] 23 → X.cell? ⟨w.heap.size, 0, none⟩ = some (.int .i64 m) ∧ X.cell? ⟨w.heap.size, 1, none⟩ = some (.int .i64 c) ∧ X.cell? ⟨w.heap.size, 2, none⟩ = some (.int .i64 s)) := fun X h => ⟨h.cell 0, h.cell 1, h.cell 2⟩
  have HA := Lib.hid ha0
  have HR := Lib.hid hr0
  clear ha0 hr0
  go_region_held3 (fun w' => w'.cell? ⟨w.heap.size, 0, none⟩ = some (.int .i64 m) ∧ w'.cell? ⟨w.heap.size, 1, none⟩ = some (.int .i64 c) ∧ w'.cell? ⟨w.heap.size, 2, none⟩ = some (.int .i64 s))
    (first | exact HH.out _ HA.out | exact HH.out _ HA.out.drew | exact HH.out _ HB.out | exact HH.out _ HC.out)
    (first | (go_at_call 101; (with_reducible refine (hk.out _).mono ?_); rintro e w1 ⟨rfl, hb1⟩; have HB := Lib.hid (HA.out.drew.below hb1 HA.out.lt); have hR1 := HR.out.drew.below hb1 HR.out.lt; have d0 : w1.cell? ⟨w.heap.size + 1, 0, none⟩ = some (.int .i64 0) := hR1.cell 0; have d1 : w1.cell? ⟨w.heap.size + 1, 1, none⟩ = some (.int .i64 0) := hR1.cell 1; have d2 : w1.cell? ⟨w.heap.size + 1, 2, none⟩ = some (.int .i64 0) := hR1.cell 2; have d3 : w1.cell? ⟨w.heap.size + 1, 3, none⟩ = some (.int .i64 0) := hR1.cell 3; have f0 := hR1.free 0; have f1 := hR1.free 1; have f2 := hR1.free 2; have f3 := hR1.free 3; have HR1 := Lib.hid hR1; clear hR1; have HC : Hid (At ((((w1.setCell ⟨w.heap.size + 1, 0, none⟩ (.int .i64 m)).setCell ⟨w.heap.size + 1, 1, none⟩ (.int .i64 c)).setCell ⟨w.heap.size + 1, 2, none⟩ (.int .i64 s)).setCell ⟨w.heap.size + 1, 3, none⟩ (.int .i64 (IntKind.i64.wrap (m - 1)))) w.heap.size #[.int .i64 m, .int .i64 c, .int .i64 s] 23) := (((HB.out.setOther (by show w.heap.size ≠ w.heap.size + 1; omega) _).setOther (by show w.heap.size ≠ w.heap.size + 1; omega) _).setOther (by show w.heap.size ≠ w.heap.size + 1; omega) _).setOther (by show w.heap.size ≠ w.heap.size + 1; omega) _))
  clear d0 d1 d2 d3 f0 f1 f2 f3
  have HF := (((HR1.out.set 0 (.int .i64 m)).set 1 (.int .i64 c)).set 2 (.int .i64 s)).set 3 (.int .i64 (IntKind.i64.wrap (m - 1)))
  have r0 := HF.cell 0
  have r1 := HF.cell 1
  have r2 := HF.cell 2
  have r3 := HF.cell 3
  have hbb : Below w.heap.size w ((((w1.setCell ⟨w.heap.size + 1, 0, none⟩ (.int .i64 m)).setCell ⟨w.heap.size + 1, 1, none⟩ (.int .i64 c)).setCell ⟨w.heap.size + 1, 2, none⟩ (.int .i64 s)).setCell ⟨w.heap.size + 1, 3, none⟩ (.int .i64 (IntKind.i64.wrap (m - 1)))) := (((((below_then hb0.drew hb1).setCell (p := ⟨w.heap.size + 1, 0, none⟩) (Nat.le_succ _) _).setCell (p := ⟨w.heap.size + 1, 1, none⟩) (Nat.le_succ _) _).setCell (p := ⟨w.heap.size + 1, 2, none⟩) (Nat.le_succ _) _).setCell (p := ⟨w.heap.size + 1, 3, none⟩) (Nat.le_succ _) _)
  go_wp2
  (try simp only [Exit.inBlock, Exit.then])
  refine bodyPost_ret (v := .tuple #[shp m c s (IntKind.i64.wrap (m - 1)), .int .u16 q]) ?_ rfl ⟨_, rfl, hd.out, hbb⟩
  rw [results_cell_tmp rfl]
  go_simp
  rfl

set_option maxHeartbeats 1000000 in
theorem shape_rows (m c s d : Int) (w : World) (h : geoIs m c s = true) : Calls Tryz.prog 154 #[shp m c s d] w fun e w' => e = .returned (.int .i64 (s * c)) ∧ Below w.heap.size w w' := by
  obtain ⟨h1, h2, h3, h4, h5, h6⟩ := (geoIs_iff m c s).1 h
  have hlo : 0 ≤ s * c := Int.mul_nonneg (by omega) (by omega)
  have hhi : s * c ≤ 256 * 16 := Int.mul_le_mul h6 h4 (by omega) (by omega)
  unfold shp
  go_enter Tryz.func154, Tryz.ntmps154
  go_wp2
  go_ret
  exact ⟨by go_num, (Below.refl _ _).alloc (Nat.le_refl _) _⟩

end Go.Proofs.YtpegbgomnpinfaaGreat

/- Geometries: rows, parity; the document's answers. -/
set_option linter.unusedVariables false
namespace Go.Proofs.YtpegbgomnpinfaaGreat
open Go.RowKit

def geoRows (m c s : Int) : Int := if geoIs m c s then s * c else 0

theorem geo_bounds {m c s : Int} (h : geoIs m c s = true) : 0 ≤ s * c ∧ s * c ≤ 4096 := by
  obtain ⟨h1, h2, h3, h4, h5, h6⟩ := (geoIs_iff m c s).1 h
  have hlo : 0 ≤ s * c := Int.mul_nonneg (by omega) (by omega)
  have hhi : s * c ≤ 256 * 16 := Int.mul_le_mul h6 h4 (by omega) (by omega)
  exact ⟨hlo, by omega⟩

set_option maxRecDepth 100000 in
set_option maxHeartbeats 1000000 in
theorem geom_rows (m c s : Int) (w : World) : Calls Tryz.prog 119 #[geo m c s] w fun e w' => e = .returned (.int .i64 (geoRows m c s)) ∧ Below w.heap.size w w' := by
  have hk := Lib.hid (fun W => geom_of m c s W)
  have hr := Lib.hid (fun d W => shape_rows m c s d W)
  unfold geoRows geoCode at *
  cases h : geoIs m c s
  · rw [h] at hk
    simp only [if_false, Bool.false_eq_true] at *
    unfold geo shp at *
    go_enter Tryz.func119, Tryz.ntmps119
    go_wp2_with (go_at_call 153; (with_reducible refine (hk.out _).mono ?_); rintro e w1 ⟨d, rfl, hd, hb1⟩)
    go_ret
    exact ⟨rfl, (below_then ((Below.refl _ _).alloc (Nat.le_refl _) _) hb1).alloc (by have := hb1.size; rw [size_alloc] at this; omega) _⟩
  · have hr := Lib.hid (fun d W => hr.out d W h)
    rw [h] at hk
    simp only [if_true] at *
    unfold geo shp at *
    generalize s * c = q at *
    go_enter Tryz.func119, Tryz.ntmps119
    go_wp2_with (first
      | (go_at_call 153; (with_reducible refine (hk.out _).mono ?_); rintro e w1 ⟨d, rfl, hd, hb1⟩)
      | (go_at_call 154; (with_reducible refine (hr.out _ _).mono ?_); rintro e w2 ⟨rfl, hb2⟩))
    go_ret
    exact ⟨rfl, below_then ((below_then ((Below.refl _ _).alloc (Nat.le_refl _) _) hb1).alloc (by have := hb1.size; rw [size_alloc] at this; omega) _) hb2⟩

set_option maxRecDepth 100000 in
set_option maxHeartbeats 1000000 in
theorem shape_parity (M C S t : Nat) (d : Int) (w : World) (h : geoIs M C S = true) (ht : t ≤ 4096) : Calls Tryz.prog 162 #[shp M C S d, .int .i64 t] w fun e w' => e = .returned (.int .i64 ((M - 1 - t % M : Nat) : Int)) ∧ Below w.heap.size w w' := by
  obtain ⟨h1, h2, -⟩ := (geoIs_iff M C S).1 h
  have hlt : t % M < M := Nat.mod_lt _ (by omega)
  have e1 : ((M - 1 - t % M : Nat) : Int) = (M : Int) - 1 - ((t % M : Nat) : Int) := by omega
  have e2 : Int.tmod (t : Int) (M : Int) = ((t % M : Nat) : Int) := rfl
  unfold shp
  go_enter Tryz.func162, Tryz.ntmps162
  go_wp2
  go_quiet (fail)
  go_wp2
  go_ret
  exact ⟨by rw [e1, Int.natCast_emod]; rfl, below_drewN ((Below.refl _ _).alloc (Nat.le_refl _) _) _⟩

/-- The member that has a row's parity. -/
def parOf (M C r : Nat) : Nat := M - 1 - r / C % M

set_option maxRecDepth 100000 in
set_option maxHeartbeats 2000000 in
theorem geom_parity (M C S r : Nat) (w : World) (h : geoIs M C S = true) (hr : r < S * C) : Calls Tryz.prog 122 #[geo M C S, .int .i64 r] w fun e w' => e = .returned (.tuple #[.int .i64 (parOf M C r : Int), .int .u16 0]) ∧ Below w.heap.size w w' := by
  obtain ⟨h1, h2, h3, h4, h5, h6⟩ := (geoIs_iff M C S).1 h
  have hk := Lib.hid (fun W => geom_of M C S W)
  have hro := Lib.hid (fun d W => shape_rows M C S d W h)
  obtain ⟨hlo, hhi⟩ := geo_bounds h
  have hr' : (r : Int) < (S : Int) * (C : Int) := by exact_mod_cast hr
  have hdiv : r / C ≤ r := Nat.div_le_self _ _
  have hr2 : r / C ≤ 4096 := by omega
  have hp := Lib.hid (fun d W => shape_parity M C S (r / C) d W h hr2)
  have hd' : ((r / C : Nat) : Int) = (r : Int) / (C : Int) := Int.natCast_ediv r C
  unfold geoCode at hk
  rw [h] at hk
  simp only [if_true] at hk
  unfold parOf
  rw [hd'] at hp
  have hq1 : 0 ≤ (r : Int) / (C : Int) := by rw [← hd']; exact Int.natCast_nonneg _
  have hq2 : (r : Int) / (C : Int) ≤ 4096 := by rw [← hd']; omega
  have hw : RowKit.wrap64 ((r : Int) / (C : Int)) = (r : Int) / (C : Int) := IntWalk.wrap64_in _ ⟨by omega, by omega⟩
  have hw' : IntKind.i64.wrap ((r : Int) / (C : Int)) = (r : Int) / (C : Int) := (IntWalk.i64_left _).trans hw
  have hC0 : ¬ C = 0 := by omega
  have hC1 : ¬ (C : Int) = 0 := by omega
  clear hd'
  unfold geo shp at *
  generalize M - 1 - r / C % M = p at *
  generalize (S : Int) * (C : Int) = q at *
  go_enter Tryz.func122, Tryz.ntmps122
  go_wp2_with (first
    | (go_at_call 153; (with_reducible refine (hk.out _).mono ?_); rintro e w1 ⟨d, rfl, hd, hb1⟩)
    | (go_at_call 154; (with_reducible refine (hro.out _ _).mono ?_); rintro e w2 ⟨rfl, hb2⟩))
  have hA : At w2 w1.heap.size #[.int .i64 M, .int .i64 C, .int .i64 S, .int .i64 ((M : Int) - 1)] 240 := (At.new w1 _ _).below hb2 (by rw [size_alloc]; omega)
  have hsz := hb1.size
  have hbb : Below w.heap.size w w2 := below_then ((below_then ((Below.refl w.heap.size w).alloc (Nat.le_refl _) _) hb1).alloc (by rw [size_alloc] at hsz; omega) _) hb2
  have HH : Hid (∀ X, At X w1.heap.size #[.int .i64 M, .int .i64 C, .int .i64 S, .int .i64 ((M : Int) - 1)] 240 → X.cell? ⟨w1.heap.size, 0, none⟩ = some (.int .i64 M) ∧ X.cell? ⟨w1.heap.size, 1, none⟩ = some (.int .i64 C) ∧ X.cell? ⟨w1.heap.size, 2, none⟩ = some (.int .i64 S) ∧ X.cell? ⟨w1.heap.size, 3, none⟩ = some (.int .i64 ((M : Int) - 1))) := fun X h => ⟨h.cell 0, h.cell 1, h.cell 2, h.cell 3⟩
  have HA := Lib.hid hA
  clear hb1 hb2 hA
  go_region_held3 (fun w' => w'.cell? ⟨w1.heap.size, 0, none⟩ = some (.int .i64 M) ∧ w'.cell? ⟨w1.heap.size, 1, none⟩ = some (.int .i64 C) ∧ w'.cell? ⟨w1.heap.size, 2, none⟩ = some (.int .i64 S) ∧ w'.cell? ⟨w1.heap.size, 3, none⟩ = some (.int .i64 ((M : Int) - 1)))
    (first | exact HH.out _ HA.out | exact HH.out _ HA.out.drew | exact HH.out _ HB.out)
    (first | (go_at_call 162; (with_reducible refine (hp.out _ _).mono ?_); rintro e w3 ⟨rfl, hb3⟩; have HB := Lib.hid (HA.out.drew.below hb3 HA.out.lt)))
  go_wp2
  go_ret2
  exact ⟨rfl, below_then hbb.drew hb3⟩

end Go.Proofs.YtpegbgomnpinfaaGreat

/- Geometries: the document's answers. -/
set_option linter.unusedVariables false
namespace Go.Proofs.YtpegbgomnpinfaaGreat
open Go.RowKit

set_option maxRecDepth 100000 in
set_option maxHeartbeats 2000000 in
theorem ref_check (m c s : Int) (w : World) : Calls Tryz.prog 44 #[geo m c s] w fun e w' => e = .returned (.int .i64 (geoCode m c s)) ∧ Below w.heap.size w w' := by
  have hb : Below w.heap.size w (w.alloc (.cells #[.int .i64 m, .int .i64 c, .int .i64 s] 23)) := (Below.refl _ _).alloc (Nat.le_refl _) _
  unfold geoCode
  by_cases h : geoIs m c s = true
  · rw [if_pos h]
    obtain ⟨h1, h2, h3, h4, h5, h6⟩ := (geoIs_iff m c s).1 h
    clear h
    unfold geo
    go_enter Tryz.func44, Tryz.ntmps44
    go_wp2
    go_ret
    exact ⟨rfl, hb⟩
  · rw [if_neg h]
    have h' : m < 3 ∨ (3 ≤ m ∧ 16 < m) ∨ (3 ≤ m ∧ m ≤ 16 ∧ c < 1) ∨ (3 ≤ m ∧ m ≤ 16 ∧ 1 ≤ c ∧ 16 < c) ∨ (3 ≤ m ∧ m ≤ 16 ∧ 1 ≤ c ∧ c ≤ 16 ∧ s < 1) ∨ (3 ≤ m ∧ m ≤ 16 ∧ 1 ≤ c ∧ c ≤ 16 ∧ 1 ≤ s ∧ 256 < s) := by
      rw [geoIs_iff] at h
      omega
    clear h
    unfold geo
    rcases h' with h1 | ⟨h1, h2⟩ | ⟨h1, h2, h3⟩ | ⟨h1, h2, h3, h4⟩ | ⟨h1, h2, h3, h4, h5⟩ | ⟨h1, h2, h3, h4, h5, h6⟩
    all_goals
      go_enter Tryz.func44, Tryz.ntmps44
      go_wp2
      go_ret
      exact ⟨rfl, hb⟩

set_option maxRecDepth 100000 in
set_option maxHeartbeats 2000000 in
theorem ref_rows (m c s : Int) (w : World) : Calls Tryz.prog 45 #[geo m c s] w fun e w' => e = .returned (.int .i64 (geoRows m c s)) ∧ Below w.heap.size w w' := by
  have hk := Lib.hid (fun W => ref_check m c s W)
  have hb : Below w.heap.size w (w.alloc (.cells #[.int .i64 m, .int .i64 c, .int .i64 s] 23)) := (Below.refl _ _).alloc (Nat.le_refl _) _
  have ha : At (w.alloc (.cells #[.int .i64 m, .int .i64 c, .int .i64 s] 23)) w.heap.size #[.int .i64 m, .int .i64 c, .int .i64 s] 23 := At.new _ _ _
  unfold geoRows geoCode at *
  have HA := Lib.hid ha
  have HL := Lib.hid ha.lt
  clear ha
  cases h : geoIs m c s
  · rw [h] at hk
    simp only [if_false, Bool.false_eq_true] at *
    unfold geo at *
    go_enter Tryz.func45, Tryz.ntmps45
    go_wp2_with (go_at_call 44; (with_reducible refine (hk.out _).mono ?_); rintro e w1 ⟨rfl, hb1⟩)
    go_ret
    exact ⟨rfl, below_then hb hb1⟩
  · obtain ⟨hlo, hhi⟩ := geo_bounds h
    rw [h] at hk
    simp only [if_true] at *
    unfold geo at *
    go_enter Tryz.func45, Tryz.ntmps45
    go_wp2_with (go_at_call 44; (with_reducible refine (hk.out _).mono ?_); rintro e w1 ⟨rfl, hb1⟩; have hA1 := HA.out.below hb1 HL.out; have c1 := hA1.cell 1; have c2 := hA1.cell 2; clear hA1)
    go_ret
    exact ⟨rfl, below_then hb hb1⟩

set_option maxRecDepth 100000 in
set_option maxHeartbeats 2000000 in
theorem ref_parity (M C S r : Nat) (w : World) (h : geoIs M C S = true) (hr : r < S * C) : Calls Tryz.prog 94 #[geo M C S, .int .i64 r] w fun e w' => e = .returned (.tuple #[.int .i64 (parOf M C r : Int), .int .i64 0]) ∧ Below w.heap.size w w' := by
  obtain ⟨h1, h2, h3, h4, h5, h6⟩ := (geoIs_iff M C S).1 h
  have hk := Lib.hid (fun W => ref_check M C S W)
  obtain ⟨hlo, hhi⟩ := geo_bounds h
  have hr' : (r : Int) < (S : Int) * (C : Int) := by exact_mod_cast hr
  have hdiv : r / C ≤ r := Nat.div_le_self _ _
  have hr2 : r / C ≤ 4096 := by omega
  have hlt : r / C % M < M := Nat.mod_lt _ (by omega)
  have e1 : ((parOf M C r : Nat) : Int) = (M : Int) - 1 - (r : Int) / (C : Int) % (M : Int) := by
    unfold parOf
    rw [show ((M - 1 - r / C % M : Nat) : Int) = (M : Int) - 1 - ((r / C % M : Nat) : Int) by omega, Int.natCast_emod, Int.natCast_ediv]
  have hd' : ((r / C : Nat) : Int) = (r : Int) / (C : Int) := Int.natCast_ediv r C
  have hq1 : 0 ≤ (r : Int) / (C : Int) := by rw [← hd']; exact Int.natCast_nonneg _
  have hq2 : (r : Int) / (C : Int) ≤ 4096 := by rw [← hd']; omega
  have hw : RowKit.wrap64 ((r : Int) / (C : Int)) = (r : Int) / (C : Int) := IntWalk.wrap64_in _ ⟨by omega, by omega⟩
  have hm1 : 0 ≤ (r : Int) / (C : Int) % (M : Int) := Int.emod_nonneg _ (by omega)
  have hm2 : (r : Int) / (C : Int) % (M : Int) < (M : Int) := Int.emod_lt_of_pos _ (by omega)
  have hw3 : RowKit.wrap64 ((M : Int) - 1 - (r : Int) / (C : Int) % (M : Int)) = (M : Int) - 1 - (r : Int) / (C : Int) % (M : Int) := IntWalk.wrap64_in _ ⟨by omega, by omega⟩
  unfold geoCode at hk
  rw [h] at hk
  simp only [if_true] at hk
  rw [e1]
  have hb : Below w.heap.size w (w.alloc (.cells #[.int .i64 M, .int .i64 C, .int .i64 S] 23)) := (Below.refl _ _).alloc (Nat.le_refl _) _
  have ha : At (w.alloc (.cells #[.int .i64 M, .int .i64 C, .int .i64 S] 23)) w.heap.size #[.int .i64 M, .int .i64 C, .int .i64 S] 23 := At.new _ _ _
  have HA := Lib.hid ha
  have HL := Lib.hid ha.lt
  clear ha hd' e1
  unfold geo at *
  go_enter Tryz.func94, Tryz.ntmps94
  go_wp2_with (go_at_call 44; (with_reducible refine (hk.out _).mono ?_); rintro e w1 ⟨rfl, hb1⟩; have hA1 := HA.out.below hb1 HL.out; have c0 := hA1.cell 0; have c1 := hA1.cell 1; have c2 := hA1.cell 2; clear hA1)
  go_quiet (fail)
  go_wp2
  go_ret2
  exact ⟨rfl, below_drewN (below_then hb hb1) _⟩

end Go.Proofs.YtpegbgomnpinfaaGreat

/- Lists that are the same: of bytes, of whole numbers. -/
set_option linter.unusedVariables false
namespace Go.Proofs.YtpegbgomnpinfaaGreat
open Go.RowKit

set_option maxRecDepth 100000 in
set_option maxHeartbeats 1000000 in
theorem same_any (u v : Value) (l m : List UInt8) (w : World) (hl : l.length ≤ 9223372036854775807) (hm : m.length ≤ 9223372036854775807) (hu : Seg w u l) (hv : Seg w v m) :
    Calls Tryz.prog 17 #[u, v] w fun e w' => e = .returned (.bool (decide (l = m))) ∧ Below w.heap.size w w' := by
  obtain ⟨a, c, rfl⟩ := hu.shape
  obtain ⟨b, d, rfl⟩ := hv.shape
  by_cases hlen : l.length = m.length
  · have hne : ((l.length : Int) != (m.length : Int)) = false := by simp; omega
    go_enter Tryz.func17, Tryz.ntmps17
    go_wp2_with fail
    go_loopw [5] (fun i wr => ∃ k : Nat, k ≤ l.length ∧ i = .int .i64 k ∧ l.take k = m.take k ∧ Below w.heap.size w wr) (fun i _ => l.length - (intOf i).toNat)
    case atStart => exact ⟨0, Nat.zero_le _, rfl, rfl, Below.refl _ _⟩
    case round =>
      obtain ⟨k, hk, rfl, htake, hbw⟩ := hrel
      have Hlen := Lib.hid hlen
      have Htake := Lib.hid htake
      clear htake hlen
      by_cases hlt : k < l.length
      · have hlt' : k < m.length := by have := Hlen.out; omega
        obtain ⟨b1, o1, c1, e1, hb1, h1⟩ := Seg.full (hu.below hbw) (by omega)
        obtain ⟨b2, o2, c2, e2, hb2, h2⟩ := Seg.full (hv.below hbw) (by omega)
        simp only [Value.slice.injEq] at e1 e2
        obtain ⟨rfl, _, rfl⟩ := e1
        obtain ⟨rfl, _, rfl⟩ := e2
        have c1 := h1 k hlt
        have c2 := h2 k hlt'
        have hx := u8_ne l[k] m[k]
        clear h1 h2 hu hv
        by_cases heq : l[k] = m[k]
        · rw [decide_eq_true heq] at hx
          have Hn := Lib.hid (take_eq_succ Htake.out hlt hlt' heq)
          generalize l[k] = x at *
          generalize m[k] = y at *
          clear heq
          go_wp2
          go_quiet (fail)
          go_wp2
          go_roundw
          case rel => exact ⟨k + 1, by omega, by go_num, Hn.out, below_drewN hbw _⟩
          case measure => simp [intOf]; omega
        · rw [decide_eq_false heq] at hx
          have Hn := Lib.hid (show decide (l = m) = false from decide_eq_false fun e => heq (by subst e; rfl))
          generalize l[k] = x at *
          generalize m[k] = y at *
          clear heq
          go_wp2
          go_quiet (fail)
          go_wp2
          go_ret
          exact ⟨by rw [Hn.out]; rfl, below_drewN hbw _⟩
      · have Hn := Lib.hid (show decide (l = m) = true from decide_eq_true (by
          have h := Htake.out
          rw [List.take_of_length_le (by omega), List.take_of_length_le (by have := Hlen.out; omega)] at h
          exact h))
        clear hu hv
        go_wp2
        go_ret
        exact ⟨by rw [Hn.out]; rfl, hbw⟩
  · have hne : ((l.length : Int) != (m.length : Int)) = true := by simp; omega
    have Hn := Lib.hid (show decide (l = m) = false from decide_eq_false fun e => hlen (by rw [e]))
    clear hlen hu hv
    go_enter Tryz.func17, Tryz.ntmps17
    go_wp2
    go_ret
    exact ⟨by rw [Hn.out]; rfl, Below.refl _ _⟩

/-- A list of whole numbers, to be read. -/
def ISeg (w : World) (v : Value) (l : List Nat) : Prop :=
  ∃ a c, v = .slice a l.length c ∧ (l = [] ∨ ∃ b o, a = some ⟨b, o, none⟩ ∧ b < w.heap.size ∧ ∀ j (h : j < l.length), w.cell? ⟨b, o + j, none⟩ = some (.int .i64 ((l[j] : Nat) : Int)))

theorem ISeg.below {w w' : World} {v : Value} {l : List Nat} (h : ISeg w v l) (hb : Below w.heap.size w w') : ISeg w' v l := by
  obtain ⟨a, c, h1, h2⟩ := h
  refine ⟨a, c, h1, ?_⟩
  rcases h2 with h2 | ⟨b, o, h3, h4, h5⟩
  · exact .inl h2
  · exact .inr ⟨b, o, h3, Nat.lt_of_lt_of_le h4 hb.size, fun j hj => (hb.cell (p := ⟨b, o + j, none⟩) h4).trans (h5 j hj)⟩
theorem ISeg.shape {w : World} {v : Value} {l : List Nat} (h : ISeg w v l) : ∃ a c, v = .slice a l.length c := by
  obtain ⟨a, c, h1, _⟩ := h
  exact ⟨a, c, h1⟩
theorem ISeg.full {w : World} {a : Option Addr} {n c : Nat} {l : List Nat} (h : ISeg w (.slice a n c) l) (hl : 0 < l.length) : ∃ b o, a = some ⟨b, o, none⟩ ∧ b < w.heap.size ∧ ∀ j (h : j < l.length), w.cell? ⟨b, o + j, none⟩ = some (.int .i64 ((l[j] : Nat) : Int)) := by
  obtain ⟨a', c', h1, h2⟩ := h
  simp only [Value.slice.injEq] at h1
  obtain ⟨rfl, -, rfl⟩ := h1
  rcases h2 with h2 | h2
  · subst h2; simp at hl
  · exact h2

set_option maxRecDepth 100000 in
set_option maxHeartbeats 1000000 in
theorem same_ints (u v : Value) (l m : List Nat) (w : World) (hl : l.length ≤ 1000000) (hm : m.length ≤ 1000000) (hu : ISeg w u l) (hv : ISeg w v m) :
    Calls Tryz.prog 64 #[u, v] w fun e w' => e = .returned (.bool (decide (l = m))) ∧ Below w.heap.size w w' := by
  obtain ⟨a, c, rfl⟩ := hu.shape
  obtain ⟨b, d, rfl⟩ := hv.shape
  by_cases hlen : l.length = m.length
  · have hne : ((l.length : Int) != (m.length : Int)) = false := by simp; omega
    go_enter Tryz.func64, Tryz.ntmps64
    go_wp2_with fail
    go_loopw [5] (fun i wr => ∃ k : Nat, k ≤ l.length ∧ i = .int .i64 k ∧ l.take k = m.take k ∧ Below w.heap.size w wr) (fun i _ => l.length - (intOf i).toNat)
    case atStart => exact ⟨0, Nat.zero_le _, rfl, rfl, Below.refl _ _⟩
    case round =>
      obtain ⟨k, hk, rfl, htake, hbw⟩ := hrel
      have Hlen := Lib.hid hlen
      have Htake := Lib.hid htake
      clear htake hlen
      by_cases hlt : k < l.length
      · have hlt' : k < m.length := by have := Hlen.out; omega
        obtain ⟨b1, o1, rfl, hb1, h1⟩ := ISeg.full (hu.below hbw) (by omega)
        obtain ⟨b2, o2, rfl, hb2, h2⟩ := ISeg.full (hv.below hbw) (by omega)
        have c1 := h1 k hlt
        have c2 := h2 k hlt'
        clear h1 h2 hu hv
        by_cases heq : l[k] = m[k]
        · have hx : (((l[k] : Nat) : Int) != ((m[k] : Nat) : Int)) = false := by rw [heq]; simp
          have Hn := Lib.hid (take_eq_succ Htake.out hlt hlt' heq)
          generalize l[k] = x at *
          generalize m[k] = y at *
          clear heq
          go_wp2
          go_quiet (fail)
          go_wp2
          go_roundw
          case rel => exact ⟨k + 1, by omega, by go_num, Hn.out, below_drewN hbw _⟩
          case measure => simp [intOf]; omega
        · have hx : (((l[k] : Nat) : Int) != ((m[k] : Nat) : Int)) = true := by simp only [bne_iff_ne, ne_eq]; omega
          have Hn := Lib.hid (show decide (l = m) = false from decide_eq_false fun e => heq (by subst e; rfl))
          generalize l[k] = x at *
          generalize m[k] = y at *
          clear heq
          go_wp2
          go_quiet (fail)
          go_wp2
          go_ret
          exact ⟨by rw [Hn.out]; rfl, below_drewN hbw _⟩
      · have Hn := Lib.hid (show decide (l = m) = true from decide_eq_true (by
          have h := Htake.out
          rw [List.take_of_length_le (by omega), List.take_of_length_le (by have := Hlen.out; omega)] at h
          exact h))
        clear hu hv
        go_wp2
        go_ret
        exact ⟨by rw [Hn.out]; rfl, hbw⟩
  · have hne : ((l.length : Int) != (m.length : Int)) = true := by simp; omega
    have Hn := Lib.hid (show decide (l = m) = false from decide_eq_false fun e => hlen (by rw [e]))
    clear hlen hu hv
    go_enter Tryz.func64, Tryz.ntmps64
    go_wp2
    go_ret
    exact ⟨by rw [Hn.out]; rfl, Below.refl _ _⟩

end Go.Proofs.YtpegbgomnpinfaaGreat
