/- Geometries: rows, parity; the document's answers. -/
import Derived.Test.YtkcfmkhakghniaaGeoB
set_option linter.unusedVariables false
namespace Go.Proofs.Ytkcfmkhakghniaa
open Go.RowKit

def geoRows (m c s : Int) : Int := if geoIs m c s then s * c else 0

theorem geo_bounds {m c s : Int} (h : geoIs m c s = true) : 0 ≤ s * c ∧ s * c ≤ 4096 := by
  obtain ⟨h1, h2, h3, h4, h5, h6⟩ := (geoIs_iff m c s).1 h
  have hlo : 0 ≤ s * c := Int.mul_nonneg (by omega) (by omega)
  have hhi : s * c ≤ 256 * 16 := Int.mul_le_mul h6 h4 (by omega) (by omega)
  exact ⟨hlo, by omega⟩

set_option maxRecDepth 100000 in
set_option maxHeartbeats 1000000 in
theorem geom_rows (m c s : Int) (w : World) : Calls Try.prog 45 #[geo m c s] w fun e w' => e = .returned (.int .i64 (geoRows m c s)) ∧ Below w.heap.size w w' := by
  have hk := Lib.hid (fun W => geom_of m c s W)
  have hr := Lib.hid (fun d W => shape_rows m c s d W)
  unfold geoRows geoCode at *
  cases h : geoIs m c s
  · rw [h] at hk
    simp only [if_false, Bool.false_eq_true] at *
    unfold geo shp at *
    go_enter Try.func45, Try.ntmps45
    go_wp2_with (go_at_call 79; (with_reducible refine (hk.out _).mono ?_); rintro e w1 ⟨d, rfl, hd, hb1⟩)
    go_ret
    exact ⟨rfl, (below_then ((Below.refl _ _).alloc (Nat.le_refl _) _) hb1).alloc (by have := hb1.size; rw [size_alloc] at this; omega) _⟩
  · have hr := Lib.hid (fun d W => hr.out d W h)
    rw [h] at hk
    simp only [if_true] at *
    unfold geo shp at *
    generalize s * c = q at *
    go_enter Try.func45, Try.ntmps45
    go_wp2_with (first
      | (go_at_call 79; (with_reducible refine (hk.out _).mono ?_); rintro e w1 ⟨d, rfl, hd, hb1⟩)
      | (go_at_call 80; (with_reducible refine (hr.out _ _).mono ?_); rintro e w2 ⟨rfl, hb2⟩))
    go_ret
    exact ⟨rfl, below_then ((below_then ((Below.refl _ _).alloc (Nat.le_refl _) _) hb1).alloc (by have := hb1.size; rw [size_alloc] at this; omega) _) hb2⟩

set_option maxRecDepth 100000 in
set_option maxHeartbeats 1000000 in
theorem shape_parity (M C S t : Nat) (d : Int) (w : World) (h : geoIs M C S = true) (ht : t ≤ 4096) : Calls Try.prog 86 #[shp M C S d, .int .i64 t] w fun e w' => e = .returned (.int .i64 ((M - 1 - t % M : Nat) : Int)) ∧ Below w.heap.size w w' := by
  obtain ⟨h1, h2, -⟩ := (geoIs_iff M C S).1 h
  have hlt : t % M < M := Nat.mod_lt _ (by omega)
  have e1 : ((M - 1 - t % M : Nat) : Int) = (M : Int) - 1 - ((t % M : Nat) : Int) := by omega
  have e2 : Int.tmod (t : Int) (M : Int) = ((t % M : Nat) : Int) := rfl
  unfold shp
  go_enter Try.func86, Try.ntmps86
  go_wp2
  go_quiet (fail)
  go_wp2
  go_ret
  exact ⟨by rw [e1, Int.natCast_emod]; rfl, below_drewN ((Below.refl _ _).alloc (Nat.le_refl _) _) _⟩

/-- The member that has a row's parity. -/
def parOf (M C r : Nat) : Nat := M - 1 - r / C % M

set_option maxRecDepth 100000 in
set_option maxHeartbeats 2000000 in
theorem geom_parity (M C S r : Nat) (w : World) (h : geoIs M C S = true) (hr : r < S * C) : Calls Try.prog 55 #[geo M C S, .int .i64 r] w fun e w' => e = .returned (.tuple #[.int .i64 (parOf M C r : Int), .int .u16 0]) ∧ Below w.heap.size w w' := by
  obtain ⟨h1, h2, h3, h4, h5, h6⟩ := (geoIs_iff M C S).1 h
  have hk := Lib.hid (fun W => geom_of M C S W)
  have hro := Lib.hid (fun d W => shape_rows M C S d W h)
  obtain ⟨hlo, hhi⟩ := geo_bounds h
  have hr' : (r : Int) < (S : Int) * (C : Int) := by exact_mod_cast hr
  have hdiv : r / C ≤ r := Nat.div_le_self _ _
  have hr2 : r / C ≤ 4096 := by omega
  have hp := Lib.hid (fun d W => shape_parity M C S (r / C) d W h hr2)
  have hd' : ((r / C : Nat) : Int) = (r : Int) / (C : Int) := Int.natCast_ediv r C
  unfold geoCode at hk
  rw [h] at hk
  simp only [if_true] at hk
  unfold parOf
  rw [hd'] at hp
  have hq1 : 0 ≤ (r : Int) / (C : Int) := by rw [← hd']; exact Int.natCast_nonneg _
  have hq2 : (r : Int) / (C : Int) ≤ 4096 := by rw [← hd']; omega
  have hw : RowKit.wrap64 ((r : Int) / (C : Int)) = (r : Int) / (C : Int) := IntWalk.wrap64_in _ ⟨by omega, by omega⟩
  have hw' : IntKind.i64.wrap ((r : Int) / (C : Int)) = (r : Int) / (C : Int) := (IntWalk.i64_left _).trans hw
  have hC0 : ¬ C = 0 := by omega
  have hC1 : ¬ (C : Int) = 0 := by omega
  clear hd'
  unfold geo shp at *
  generalize M - 1 - r / C % M = p at *
  generalize (S : Int) * (C : Int) = q at *
  go_enter Try.func55, Try.ntmps55
  go_wp2_with (first
    | (go_at_call 79; (with_reducible refine (hk.out _).mono ?_); rintro e w1 ⟨d, rfl, hd, hb1⟩)
    | (go_at_call 80; (with_reducible refine (hro.out _ _).mono ?_); rintro e w2 ⟨rfl, hb2⟩))
  have hA : At w2 w1.heap.size #[.int .i64 M, .int .i64 C, .int .i64 S, .int .i64 ((M : Int) - 1)] 164 := (At.new w1 _ _).below hb2 (by rw [size_alloc]; omega)
  have hsz := hb1.size
  have hbb : Below w.heap.size w w2 := below_then ((below_then ((Below.refl w.heap.size w).alloc (Nat.le_refl _) _) hb1).alloc (by rw [size_alloc] at hsz; omega) _) hb2
  have HH : Hid (∀ X, At X w1.heap.size #[.int .i64 M, .int .i64 C, .int .i64 S, .int .i64 ((M : Int) - 1)] 164 → X.cell? ⟨w1.heap.size, 0, none⟩ = some (.int .i64 M) ∧ X.cell? ⟨w1.heap.size, 1, none⟩ = some (.int .i64 C) ∧ X.cell? ⟨w1.heap.size, 2, none⟩ = some (.int .i64 S) ∧ X.cell? ⟨w1.heap.size, 3, none⟩ = some (.int .i64 ((M : Int) - 1))) := fun X h => ⟨h.cell 0, h.cell 1, h.cell 2, h.cell 3⟩
  have HA := Lib.hid hA
  clear hb1 hb2 hA
  go_region_held3 (fun w' => w'.cell? ⟨w1.heap.size, 0, none⟩ = some (.int .i64 M) ∧ w'.cell? ⟨w1.heap.size, 1, none⟩ = some (.int .i64 C) ∧ w'.cell? ⟨w1.heap.size, 2, none⟩ = some (.int .i64 S) ∧ w'.cell? ⟨w1.heap.size, 3, none⟩ = some (.int .i64 ((M : Int) - 1)))
    (first | exact HH.out _ HA.out | exact HH.out _ HA.out.drew | exact HH.out _ HB.out)
    (first | (go_at_call 86; (with_reducible refine (hp.out _ _).mono ?_); rintro e w3 ⟨rfl, hb3⟩; have HB := Lib.hid (HA.out.drew.below hb3 HA.out.lt)))
  go_wp2
  go_ret2
  exact ⟨rfl, below_then hbb.drew hb3⟩

end Go.Proofs.Ytkcfmkhakghniaa
