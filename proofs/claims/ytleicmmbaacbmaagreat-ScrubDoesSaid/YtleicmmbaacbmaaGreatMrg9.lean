/- Several texts in one: GeoB, GeoC, GeoD, ResC, BayL. -/
import Derived.Test.YtleicmmbaacbmaaGreatGeoA
import Derived.Laws.ResultCell
import Derived.Test.YtleicmmbaacbmaaGreatBlk
import Derived.Test.YtleicmmbaacbmaaGreatBayH
/- Geometries: shapes, rows, parity. -/
set_option linter.unusedVariables false
namespace Go.Proofs.YtleicmmbaacbmaaGreat
open Go.RowKit

set_option maxRecDepth 100000 in
set_option maxHeartbeats 4000000 in
theorem geom_of (m c s : Int) (w : World) : Calls Tryz.prog 87 #[geo m c s] w fun e w' => ∃ d, e = .returned (.tuple #[shp m c s d, .int .u16 (geoCode m c s)]) ∧ (geoIs m c s = true → d = m - 1) ∧ Below w.heap.size w w' := by
  have hk := Lib.hid (fun W => geom_check m c s W)
  have hd : Hid (geoIs m c s = true → IntKind.i64.wrap (m - 1) = m - 1) := fun h => by
    have := (geoIs_iff m c s).1 h
    unfold IntKind.wrap; simp [IntKind.signed, IntKind.bits]; omega
  generalize geoCode m c s = q at *
  unfold geo shp at *
  go_enter Tryz.func87, Tryz.ntmps87
  go_wp2
  obtain ⟨W0, hW0⟩ : ∃ W0, W0 = (w.alloc (.cells #[.int .i64 m, .int .i64 c, .int .i64 s] 23)).alloc (.cells #[.int .i64 0, .int .i64 0, .int .i64 0, .int .i64 0] 180) := ⟨_, rfl⟩
  have hb0 : Below w.heap.size w W0 := by rw [hW0]; exact ((Below.refl _ _).alloc (Nat.le_refl _) _).alloc (by rw [size_alloc]; omega) _
  have ha0 : At W0 w.heap.size #[.int .i64 m, .int .i64 c, .int .i64 s] 23 := by rw [hW0]; exact (At.new _ _ _).alloc _
  have hr0 : At W0 (w.heap.size + 1) #[.int .i64 0, .int .i64 0, .int .i64 0, .int .i64 0] 180 := by rw [hW0]; exact At.new2 _ _ _ _
  subst hW0
  have HH : Hid (∀ X, At X w.heap.size #[.int .i64 m, .int .i64 c, .int .i64 s] 23 → X.cell? ⟨w.heap.size, 0, none⟩ = some (.int .i64 m) ∧ X.cell? ⟨w.heap.size, 1, none⟩ = some (.int .i64 c) ∧ X.cell? ⟨w.heap.size, 2, none⟩ = some (.int .i64 s)) := fun X h => ⟨h.cell 0, h.cell 1, h.cell 2⟩
  have HA := Lib.hid ha0
  have HR := Lib.hid hr0
  clear ha0 hr0
  go_region_held3 (fun w' => w'.cell? ⟨w.heap.size, 0, none⟩ = some (.int .i64 m) ∧ w'.cell? ⟨w.heap.size, 1, none⟩ = some (.int .i64 c) ∧ w'.cell? ⟨w.heap.size, 2, none⟩ = some (.int .i64 s))
    (first | exact HH.out _ HA.out | exact HH.out _ HA.out.drew | exact HH.out _ HB.out | exact HH.out _ HC.out)
    (first | (go_at_call 85; (with_reducible refine (hk.out _).mono ?_); rintro e w1 ⟨rfl, hb1⟩; have HB := Lib.hid (HA.out.drew.below hb1 HA.out.lt); have hR1 := HR.out.drew.below hb1 HR.out.lt; have d0 : w1.cell? ⟨w.heap.size + 1, 0, none⟩ = some (.int .i64 0) := hR1.cell 0; have d1 : w1.cell? ⟨w.heap.size + 1, 1, none⟩ = some (.int .i64 0) := hR1.cell 1; have d2 : w1.cell? ⟨w.heap.size + 1, 2, none⟩ = some (.int .i64 0) := hR1.cell 2; have d3 : w1.cell? ⟨w.heap.size + 1, 3, none⟩ = some (.int .i64 0) := hR1.cell 3; have f0 := hR1.free 0; have f1 := hR1.free 1; have f2 := hR1.free 2; have f3 := hR1.free 3; have HR1 := Lib.hid hR1; clear hR1; have HC : Hid (At ((((w1.setCell ⟨w.heap.size + 1, 0, none⟩ (.int .i64 m)).setCell ⟨w.heap.size + 1, 1, none⟩ (.int .i64 c)).setCell ⟨w.heap.size + 1, 2, none⟩ (.int .i64 s)).setCell ⟨w.heap.size + 1, 3, none⟩ (.int .i64 (IntKind.i64.wrap (m - 1)))) w.heap.size #[.int .i64 m, .int .i64 c, .int .i64 s] 23) := (((HB.out.setOther (by show w.heap.size ≠ w.heap.size + 1; omega) _).setOther (by show w.heap.size ≠ w.heap.size + 1; omega) _).setOther (by show w.heap.size ≠ w.heap.size + 1; omega) _).setOther (by show w.heap.size ≠ w.heap.size + 1; omega) _))
  clear d0 d1 d2 d3 f0 f1 f2 f3
  have HF := (((HR1.out.set 0 (.int .i64 m)).set 1 (.int .i64 c)).set 2 (.int .i64 s)).set 3 (.int .i64 (IntKind.i64.wrap (m - 1)))
  have r0 := HF.cell 0
  have r1 := HF.cell 1
  have r2 := HF.cell 2
  have r3 := HF.cell 3
  have hbb : Below w.heap.size w ((((w1.setCell ⟨w.heap.size + 1, 0, none⟩ (.int .i64 m)).setCell ⟨w.heap.size + 1, 1, none⟩ (.int .i64 c)).setCell ⟨w.heap.size + 1, 2, none⟩ (.int .i64 s)).setCell ⟨w.heap.size + 1, 3, none⟩ (.int .i64 (IntKind.i64.wrap (m - 1)))) := (((((below_then hb0.drew hb1).setCell (p := ⟨w.heap.size + 1, 0, none⟩) (Nat.le_succ _) _).setCell (p := ⟨w.heap.size + 1, 1, none⟩) (Nat.le_succ _) _).setCell (p := ⟨w.heap.size + 1, 2, none⟩) (Nat.le_succ _) _).setCell (p := ⟨w.heap.size + 1, 3, none⟩) (Nat.le_succ _) _)
  go_wp2
  (try simp only [Exit.inBlock, Exit.then])
  refine bodyPost_ret (v := .tuple #[shp m c s (IntKind.i64.wrap (m - 1)), .int .u16 q]) ?_ rfl ⟨_, rfl, hd.out, hbb⟩
  rw [results_cell_tmp rfl]
  go_simp
  rfl

set_option maxHeartbeats 1000000 in
theorem shape_rows (m c s d : Int) (w : World) (h : geoIs m c s = true) : Calls Tryz.prog 88 #[shp m c s d] w fun e w' => e = .returned (.int .i64 (s * c)) ∧ Below w.heap.size w w' := by
  obtain ⟨h1, h2, h3, h4, h5, h6⟩ := (geoIs_iff m c s).1 h
  have hlo : 0 ≤ s * c := Int.mul_nonneg (by omega) (by omega)
  have hhi : s * c ≤ 256 * 16 := Int.mul_le_mul h6 h4 (by omega) (by omega)
  unfold shp
  go_enter Tryz.func88, Tryz.ntmps88
  go_wp2
  go_ret
  exact ⟨by go_num, (Below.refl _ _).alloc (Nat.le_refl _) _⟩

end Go.Proofs.YtleicmmbaacbmaaGreat

/- Geometries: rows, parity; the document's answers. -/
set_option linter.unusedVariables false
namespace Go.Proofs.YtleicmmbaacbmaaGreat
open Go.RowKit

def geoRows (m c s : Int) : Int := if geoIs m c s then s * c else 0

theorem geo_bounds {m c s : Int} (h : geoIs m c s = true) : 0 ≤ s * c ∧ s * c ≤ 4096 := by
  obtain ⟨h1, h2, h3, h4, h5, h6⟩ := (geoIs_iff m c s).1 h
  have hlo : 0 ≤ s * c := Int.mul_nonneg (by omega) (by omega)
  have hhi : s * c ≤ 256 * 16 := Int.mul_le_mul h6 h4 (by omega) (by omega)
  exact ⟨hlo, by omega⟩

set_option maxRecDepth 100000 in
set_option maxHeartbeats 1000000 in
theorem geom_rows (m c s : Int) (w : World) : Calls Tryz.prog 62 #[geo m c s] w fun e w' => e = .returned (.int .i64 (geoRows m c s)) ∧ Below w.heap.size w w' := by
  have hk := Lib.hid (fun W => geom_of m c s W)
  have hr := Lib.hid (fun d W => shape_rows m c s d W)
  unfold geoRows geoCode at *
  cases h : geoIs m c s
  · rw [h] at hk
    simp only [if_false, Bool.false_eq_true] at *
    unfold geo shp at *
    go_enter Tryz.func62, Tryz.ntmps62
    go_wp2_with (go_at_call 87; (with_reducible refine (hk.out _).mono ?_); rintro e w1 ⟨d, rfl, hd, hb1⟩)
    go_ret
    exact ⟨rfl, (below_then ((Below.refl _ _).alloc (Nat.le_refl _) _) hb1).alloc (by have := hb1.size; rw [size_alloc] at this; omega) _⟩
  · have hr := Lib.hid (fun d W => hr.out d W h)
    rw [h] at hk
    simp only [if_true] at *
    unfold geo shp at *
    generalize s * c = q at *
    go_enter Tryz.func62, Tryz.ntmps62
    go_wp2_with (first
      | (go_at_call 87; (with_reducible refine (hk.out _).mono ?_); rintro e w1 ⟨d, rfl, hd, hb1⟩)
      | (go_at_call 88; (with_reducible refine (hr.out _ _).mono ?_); rintro e w2 ⟨rfl, hb2⟩))
    go_ret
    exact ⟨rfl, below_then ((below_then ((Below.refl _ _).alloc (Nat.le_refl _) _) hb1).alloc (by have := hb1.size; rw [size_alloc] at this; omega) _) hb2⟩

set_option maxRecDepth 100000 in
set_option maxHeartbeats 1000000 in
theorem shape_parity (M C S t : Nat) (d : Int) (w : World) (h : geoIs M C S = true) (ht : t ≤ 4096) : Calls Tryz.prog 95 #[shp M C S d, .int .i64 t] w fun e w' => e = .returned (.int .i64 ((M - 1 - t % M : Nat) : Int)) ∧ Below w.heap.size w w' := by
  obtain ⟨h1, h2, -⟩ := (geoIs_iff M C S).1 h
  have hlt : t % M < M := Nat.mod_lt _ (by omega)
  have e1 : ((M - 1 - t % M : Nat) : Int) = (M : Int) - 1 - ((t % M : Nat) : Int) := by omega
  have e2 : Int.tmod (t : Int) (M : Int) = ((t % M : Nat) : Int) := rfl
  unfold shp
  go_enter Tryz.func95, Tryz.ntmps95
  go_wp2
  go_quiet (fail)
  go_wp2
  go_ret
  exact ⟨by rw [e1, Int.natCast_emod]; rfl, below_drewN ((Below.refl _ _).alloc (Nat.le_refl _) _) _⟩

/-- The member that has a row's parity. -/
def parOf (M C r : Nat) : Nat := M - 1 - r / C % M

set_option maxRecDepth 100000 in
set_option maxHeartbeats 2000000 in
theorem geom_parity (M C S r : Nat) (w : World) (h : geoIs M C S = true) (hr : r < S * C) : Calls Tryz.prog 66 #[geo M C S, .int .i64 r] w fun e w' => e = .returned (.tuple #[.int .i64 (parOf M C r : Int), .int .u16 0]) ∧ Below w.heap.size w w' := by
  obtain ⟨h1, h2, h3, h4, h5, h6⟩ := (geoIs_iff M C S).1 h
  have hk := Lib.hid (fun W => geom_of M C S W)
  have hro := Lib.hid (fun d W => shape_rows M C S d W h)
  obtain ⟨hlo, hhi⟩ := geo_bounds h
  have hr' : (r : Int) < (S : Int) * (C : Int) := by exact_mod_cast hr
  have hdiv : r / C ≤ r := Nat.div_le_self _ _
  have hr2 : r / C ≤ 4096 := by omega
  have hp := Lib.hid (fun d W => shape_parity M C S (r / C) d W h hr2)
  have hd' : ((r / C : Nat) : Int) = (r : Int) / (C : Int) := Int.natCast_ediv r C
  unfold geoCode at hk
  rw [h] at hk
  simp only [if_true] at hk
  unfold parOf
  rw [hd'] at hp
  have hq1 : 0 ≤ (r : Int) / (C : Int) := by rw [← hd']; exact Int.natCast_nonneg _
  have hq2 : (r : Int) / (C : Int) ≤ 4096 := by rw [← hd']; omega
  have hw : RowKit.wrap64 ((r : Int) / (C : Int)) = (r : Int) / (C : Int) := IntWalk.wrap64_in _ ⟨by omega, by omega⟩
  have hw' : IntKind.i64.wrap ((r : Int) / (C : Int)) = (r : Int) / (C : Int) := (IntWalk.i64_left _).trans hw
  have hC0 : ¬ C = 0 := by omega
  have hC1 : ¬ (C : Int) = 0 := by omega
  clear hd'
  unfold geo shp at *
  generalize M - 1 - r / C % M = p at *
  generalize (S : Int) * (C : Int) = q at *
  go_enter Tryz.func66, Tryz.ntmps66
  go_wp2_with (first
    | (go_at_call 87; (with_reducible refine (hk.out _).mono ?_); rintro e w1 ⟨d, rfl, hd, hb1⟩)
    | (go_at_call 88; (with_reducible refine (hro.out _ _).mono ?_); rintro e w2 ⟨rfl, hb2⟩))
  have hA : At w2 w1.heap.size #[.int .i64 M, .int .i64 C, .int .i64 S, .int .i64 ((M : Int) - 1)] 180 := (At.new w1 _ _).below hb2 (by rw [size_alloc]; omega)
  have hsz := hb1.size
  have hbb : Below w.heap.size w w2 := below_then ((below_then ((Below.refl w.heap.size w).alloc (Nat.le_refl _) _) hb1).alloc (by rw [size_alloc] at hsz; omega) _) hb2
  have HH : Hid (∀ X, At X w1.heap.size #[.int .i64 M, .int .i64 C, .int .i64 S, .int .i64 ((M : Int) - 1)] 180 → X.cell? ⟨w1.heap.size, 0, none⟩ = some (.int .i64 M) ∧ X.cell? ⟨w1.heap.size, 1, none⟩ = some (.int .i64 C) ∧ X.cell? ⟨w1.heap.size, 2, none⟩ = some (.int .i64 S) ∧ X.cell? ⟨w1.heap.size, 3, none⟩ = some (.int .i64 ((M : Int) - 1))) := fun X h => ⟨h.cell 0, h.cell 1, h.cell 2, h.cell 3⟩
  have HA := Lib.hid hA
  clear hb1 hb2 hA
  go_region_held3 (fun w' => w'.cell? ⟨w1.heap.size, 0, none⟩ = some (.int .i64 M) ∧ w'.cell? ⟨w1.heap.size, 1, none⟩ = some (.int .i64 C) ∧ w'.cell? ⟨w1.heap.size, 2, none⟩ = some (.int .i64 S) ∧ w'.cell? ⟨w1.heap.size, 3, none⟩ = some (.int .i64 ((M : Int) - 1)))
    (first | exact HH.out _ HA.out | exact HH.out _ HA.out.drew | exact HH.out _ HB.out)
    (first | (go_at_call 95; (with_reducible refine (hp.out _ _).mono ?_); rintro e w3 ⟨rfl, hb3⟩; have HB := Lib.hid (HA.out.drew.below hb3 HA.out.lt)))
  go_wp2
  go_ret2
  exact ⟨rfl, below_then hbb.drew hb3⟩

end Go.Proofs.YtleicmmbaacbmaaGreat

/- Geometries: the document's answers. -/
set_option linter.unusedVariables false
namespace Go.Proofs.YtleicmmbaacbmaaGreat
open Go.RowKit

set_option maxRecDepth 100000 in
set_option maxHeartbeats 2000000 in
theorem ref_check (m c s : Int) (w : World) : Calls Tryz.prog 17 #[geo m c s] w fun e w' => e = .returned (.int .i64 (geoCode m c s)) ∧ Below w.heap.size w w' := by
  have hb : Below w.heap.size w (w.alloc (.cells #[.int .i64 m, .int .i64 c, .int .i64 s] 23)) := (Below.refl _ _).alloc (Nat.le_refl _) _
  unfold geoCode
  by_cases h : geoIs m c s = true
  · rw [if_pos h]
    obtain ⟨h1, h2, h3, h4, h5, h6⟩ := (geoIs_iff m c s).1 h
    clear h
    unfold geo
    go_enter Tryz.func17, Tryz.ntmps17
    go_wp2
    go_ret
    exact ⟨rfl, hb⟩
  · rw [if_neg h]
    have h' : m < 3 ∨ (3 ≤ m ∧ 16 < m) ∨ (3 ≤ m ∧ m ≤ 16 ∧ c < 1) ∨ (3 ≤ m ∧ m ≤ 16 ∧ 1 ≤ c ∧ 16 < c) ∨ (3 ≤ m ∧ m ≤ 16 ∧ 1 ≤ c ∧ c ≤ 16 ∧ s < 1) ∨ (3 ≤ m ∧ m ≤ 16 ∧ 1 ≤ c ∧ c ≤ 16 ∧ 1 ≤ s ∧ 256 < s) := by
      rw [geoIs_iff] at h
      omega
    clear h
    unfold geo
    rcases h' with h1 | ⟨h1, h2⟩ | ⟨h1, h2, h3⟩ | ⟨h1, h2, h3, h4⟩ | ⟨h1, h2, h3, h4, h5⟩ | ⟨h1, h2, h3, h4, h5, h6⟩
    all_goals
      go_enter Tryz.func17, Tryz.ntmps17
      go_wp2
      go_ret
      exact ⟨rfl, hb⟩

set_option maxRecDepth 100000 in
set_option maxHeartbeats 2000000 in
theorem ref_rows (m c s : Int) (w : World) : Calls Tryz.prog 18 #[geo m c s] w fun e w' => e = .returned (.int .i64 (geoRows m c s)) ∧ Below w.heap.size w w' := by
  have hk := Lib.hid (fun W => ref_check m c s W)
  have hb : Below w.heap.size w (w.alloc (.cells #[.int .i64 m, .int .i64 c, .int .i64 s] 23)) := (Below.refl _ _).alloc (Nat.le_refl _) _
  have ha : At (w.alloc (.cells #[.int .i64 m, .int .i64 c, .int .i64 s] 23)) w.heap.size #[.int .i64 m, .int .i64 c, .int .i64 s] 23 := At.new _ _ _
  unfold geoRows geoCode at *
  have HA := Lib.hid ha
  have HL := Lib.hid ha.lt
  clear ha
  cases h : geoIs m c s
  · rw [h] at hk
    simp only [if_false, Bool.false_eq_true] at *
    unfold geo at *
    go_enter Tryz.func18, Tryz.ntmps18
    go_wp2_with (go_at_call 17; (with_reducible refine (hk.out _).mono ?_); rintro e w1 ⟨rfl, hb1⟩)
    go_ret
    exact ⟨rfl, below_then hb hb1⟩
  · obtain ⟨hlo, hhi⟩ := geo_bounds h
    rw [h] at hk
    simp only [if_true] at *
    unfold geo at *
    go_enter Tryz.func18, Tryz.ntmps18
    go_wp2_with (go_at_call 17; (with_reducible refine (hk.out _).mono ?_); rintro e w1 ⟨rfl, hb1⟩; have hA1 := HA.out.below hb1 HL.out; have c1 := hA1.cell 1; have c2 := hA1.cell 2; clear hA1)
    go_ret
    exact ⟨rfl, below_then hb hb1⟩

set_option maxRecDepth 100000 in
set_option maxHeartbeats 2000000 in
theorem ref_parity (M C S r : Nat) (w : World) (h : geoIs M C S = true) (hr : r < S * C) : Calls Tryz.prog 70 #[geo M C S, .int .i64 r] w fun e w' => e = .returned (.tuple #[.int .i64 (parOf M C r : Int), .int .i64 0]) ∧ Below w.heap.size w w' := by
  obtain ⟨h1, h2, h3, h4, h5, h6⟩ := (geoIs_iff M C S).1 h
  have hk := Lib.hid (fun W => ref_check M C S W)
  obtain ⟨hlo, hhi⟩ := geo_bounds h
  have hr' : (r : Int) < (S : Int) * (C : Int) := by exact_mod_cast hr
  have hdiv : r / C ≤ r := Nat.div_le_self _ _
  have hr2 : r / C ≤ 4096 := by omega
  have hlt : r / C % M < M := Nat.mod_lt _ (by omega)
  have e1 : ((parOf M C r : Nat) : Int) = (M : Int) - 1 - (r : Int) / (C : Int) % (M : Int) := by
    unfold parOf
    rw [show ((M - 1 - r / C % M : Nat) : Int) = (M : Int) - 1 - ((r / C % M : Nat) : Int) by omega, Int.natCast_emod, Int.natCast_ediv]
  have hd' : ((r / C : Nat) : Int) = (r : Int) / (C : Int) := Int.natCast_ediv r C
  have hq1 : 0 ≤ (r : Int) / (C : Int) := by rw [← hd']; exact Int.natCast_nonneg _
  have hq2 : (r : Int) / (C : Int) ≤ 4096 := by rw [← hd']; omega
  have hw : RowKit.wrap64 ((r : Int) / (C : Int)) = (r : Int) / (C : Int) := IntWalk.wrap64_in _ ⟨by omega, by omega⟩
  have hm1 : 0 ≤ (r : Int) / (C : Int) % (M : Int) := Int.emod_nonneg _ (by omega)
  have hm2 : (r : Int) / (C : Int) % (M : Int) < (M : Int) := Int.emod_lt_of_pos _ (by omega)
  have hw3 : RowKit.wrap64 ((M : Int) - 1 - (r : Int) / (C : Int) % (M : Int)) = (M : Int) - 1 - (r : Int) / (C : Int) % (M : Int) := IntWalk.wrap64_in _ ⟨by omega, by omega⟩
  unfold geoCode at hk
  rw [h] at hk
  simp only [if_true] at hk
  rw [e1]
  have hb : Below w.heap.size w (w.alloc (.cells #[.int .i64 M, .int .i64 C, .int .i64 S] 23)) := (Below.refl _ _).alloc (Nat.le_refl _) _
  have ha : At (w.alloc (.cells #[.int .i64 M, .int .i64 C, .int .i64 S] 23)) w.heap.size #[.int .i64 M, .int .i64 C, .int .i64 S] 23 := At.new _ _ _
  have HA := Lib.hid ha
  have HL := Lib.hid ha.lt
  clear ha hd' e1
  unfold geo at *
  go_enter Tryz.func70, Tryz.ntmps70
  go_wp2_with (go_at_call 17; (with_reducible refine (hk.out _).mono ?_); rintro e w1 ⟨rfl, hb1⟩; have hA1 := HA.out.below hb1 HL.out; have c0 := hA1.cell 0; have c1 := hA1.cell 1; have c2 := hA1.cell 2; clear hA1)
  go_quiet (fail)
  go_wp2
  go_ret2
  exact ⟨rfl, below_drewN (below_then hb hb1) _⟩

end Go.Proofs.YtleicmmbaacbmaaGreat

/- Results that are cells. -/
set_option linter.unusedVariables false
namespace Go

theorem results_cell {fn : Func} {p : Tmp} {ty : TypeId} (h : fn.results = #[.cell p ty]) (tmps : Array Value) (P : Program) (w : World) :
    (results fn tmps).run P w = ((asAddr (tmps.getD p undef)).run P w).andThen fun a w₁ => (loadVar ty a).run P w₁ := by
  simp only [results, h]
  simp [Sem.run_bind, Result.andThen]
theorem results_tmp_cell {fn : Func} {p u : Tmp} {ty : TypeId} (h : fn.results = #[.tmp u, .cell p ty]) (tmps : Array Value) (P : Program) (w : World) :
    (results fn tmps).run P w =
      ((asAddr (tmps.getD p undef)).run P w).andThen fun a w₁ => ((loadVar ty a).run P w₁).andThen fun v w₂ => .ok (.tuple #[tmps.getD u undef, v]) w₂ := by
  simp only [results, h]
  simp [Sem.run_bind, Result.andThen]

end Go

/- A bay of disks: how many slots; the counts. -/
set_option linter.unusedVariables false
namespace Go.Proofs.YtleicmmbaacbmaaGreat
open Go.RowKit

set_option maxHeartbeats 1000000 in
theorem bay_slots {w : World} {T : Nat → Nat} {b : Nat} {s : BaySt} (h : BayAt w T b s) :
    Calls Tryz.prog 86 #[.pointer (some ⟨b, 0, none⟩)] w fun e w' => e = .returned (.int .i64 (s.n : Int)) ∧ w' = w := by
  obtain ⟨gs, ptr, tg, dp, h⟩ := h
  have c0 : w.cell? ⟨b, 0, none⟩ = some (.slice (some ⟨gs, 0, none⟩) s.n s.n) := h.bay.cell 0
  have hf := h.few
  clear h
  generalize s.n = n at *
  go_enter Tryz.func86, Tryz.ntmps86
  go_wp2
  go_ret
  exact ⟨rfl, rfl⟩

theorem bay_slots_few {w : World} {T : Nat → Nat} {b : Nat} {s : BaySt} (h : BayAt w T b s) : s.n ≤ 17 := by
  obtain ⟨gs, ptr, tg, dp, h⟩ := h
  exact h.few

def cntVal (s : BaySt) : Value := .agg #[.int .i64 (s.cnt 0), .int .i64 (s.cnt 1), .int .i64 (s.cnt 2)]

set_option maxHeartbeats 1000000 in
theorem bay_counts {w : World} {T : Nat → Nat} {b : Nat} {s : BaySt} (h : BayAt w T b s) :
    Calls Tryz.prog 10 #[.pointer (some ⟨b, 0, none⟩)] w fun e w' => e = .returned (cntVal s) ∧ Below w.heap.size w w' := by
  obtain ⟨gs, ptr, tg, dp, h⟩ := h
  have hal := h.bay.alloc (.cells #[.int .i64 0, .int .i64 0, .int .i64 0] 57)
  have c3 : (w.alloc (.cells #[.int .i64 0, .int .i64 0, .int .i64 0] 57)).cell? ⟨b, 3, none⟩ = some (.int .i64 (s.cnt 0)) := hal.cell 3
  have c4 : (w.alloc (.cells #[.int .i64 0, .int .i64 0, .int .i64 0] 57)).cell? ⟨b, 4, none⟩ = some (.int .i64 (s.cnt 1)) := hal.cell 4
  have c5 : (w.alloc (.cells #[.int .i64 0, .int .i64 0, .int .i64 0] 57)).cell? ⟨b, 5, none⟩ = some (.int .i64 (s.cnt 2)) := hal.cell 5
  have hb := (Below.refl w.heap.size w).alloc (Nat.le_refl _) (.cells #[.int .i64 0, .int .i64 0, .int .i64 0] 57)
  clear h hal
  unfold cntVal
  generalize s.cnt 0 = x at *
  generalize s.cnt 1 = y at *
  generalize s.cnt 2 = z at *
  go_enter Tryz.func10, Tryz.ntmps10
  go_wp2
  have hb2 := (Below.refl w.heap.size w).alloc (Nat.le_refl _) (.cells #[.int .i64 x, .int .i64 y, .int .i64 z] 57)
  refine bodyPost_ret (v := .agg #[.int .i64 x, .int .i64 y, .int .i64 z]) ?_ rfl ⟨rfl, hb2⟩
  rw [results_cell rfl]
  go_simp

end Go.Proofs.YtleicmmbaacbmaaGreat
