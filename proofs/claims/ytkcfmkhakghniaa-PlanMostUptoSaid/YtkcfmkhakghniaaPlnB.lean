/- Geometries: the member of a chunk; what lies where. -/
import Derived.Test.YtkcfmkhakghniaaPlnA
set_option linter.unusedVariables false
namespace Go.Proofs.Ytkcfmkhakghniaa
open Go.RowKit

/-- The member that has the i-th chunk of a stripe. -/
def memOf (M t i : Nat) : Nat := (M - 1 - t % M + 1 + i) % M

set_option maxRecDepth 100000 in
set_option maxHeartbeats 2000000 in
theorem shape_member (M C S t i : Nat) (d : Int) (w : World) (h : geoIs M C S = true) (ht : t ≤ 4096) (hi : i ≤ 4096) : Calls Try.prog 89 #[shp M C S d, .int .i64 t, .int .i64 i] w fun e w' => e = .returned (.int .i64 (memOf M t i : Nat)) ∧ Below w.heap.size w w' := by
  obtain ⟨h1, h2, h3, h4, h5, h6⟩ := (geoIs_iff M C S).1 h
  have hp := Lib.hid (fun W => shape_parity M C S t d W h ht)
  have hlt : t % M < M := Nat.mod_lt _ (by omega)
  unfold memOf
  have hq : M - 1 - t % M ≤ 16 := by omega
  generalize hqq : M - 1 - t % M = q at *
  have hM0 : ¬ M = 0 := by omega
  have hM1 : ¬ (M : Int) = 0 := by omega
  have e1 : Int.tmod ((q : Int) + 1 + (i : Int)) (M : Int) = (((q + 1 + i) % M : Nat) : Int) := by
    rw [show (q : Int) + 1 + (i : Int) = ((q + 1 + i : Nat) : Int) by omega]; rfl
  have hr : (q + 1 + i) % M < M := Nat.mod_lt _ (by omega)
  have hw1 : IntKind.i64.wrap ((q : Int) + 1) = (q : Int) + 1 := (IntWalk.i64_left _).trans (IntWalk.wrap64_in _ ⟨by omega, by omega⟩)
  have hw2 : IntKind.i64.wrap ((q : Int) + 1 + (i : Int)) = (q : Int) + 1 + (i : Int) := (IntWalk.i64_left _).trans (IntWalk.wrap64_in _ ⟨by omega, by omega⟩)
  have hw3 : IntKind.i64.wrap (((q + 1 + i) % M : Nat) : Int) = (((q + 1 + i) % M : Nat) : Int) := (IntWalk.i64_left _).trans (IntWalk.wrap64_in _ ⟨by omega, by omega⟩)
  generalize (q + 1 + i) % M = x at *
  unfold shp at *
  clear hqq hlt
  have HA : Hid (At (w.alloc (.cells #[.int .i64 M, .int .i64 C, .int .i64 S, .int .i64 d] 164)) w.heap.size #[.int .i64 M, .int .i64 C, .int .i64 S, .int .i64 d] 164) := At.new _ _ _
  have hb0 : Below w.heap.size w (w.alloc (.cells #[.int .i64 M, .int .i64 C, .int .i64 S, .int .i64 d] 164)) := (Below.refl _ _).alloc (Nat.le_refl _) _
  have HH : Hid (∀ X, At X w.heap.size #[.int .i64 M, .int .i64 C, .int .i64 S, .int .i64 d] 164 → X.cell? ⟨w.heap.size, 0, none⟩ = some (.int .i64 M) ∧ X.cell? ⟨w.heap.size, 1, none⟩ = some (.int .i64 C) ∧ X.cell? ⟨w.heap.size, 2, none⟩ = some (.int .i64 S) ∧ X.cell? ⟨w.heap.size, 3, none⟩ = some (.int .i64 d)) := fun X h => ⟨h.cell 0, h.cell 1, h.cell 2, h.cell 3⟩
  go_enter Try.func89, Try.ntmps89
  go_wp2
  go_region_held3 (fun w' => w'.cell? ⟨w.heap.size, 0, none⟩ = some (.int .i64 M) ∧ w'.cell? ⟨w.heap.size, 1, none⟩ = some (.int .i64 C) ∧ w'.cell? ⟨w.heap.size, 2, none⟩ = some (.int .i64 S) ∧ w'.cell? ⟨w.heap.size, 3, none⟩ = some (.int .i64 d))
    (first | exact HH.out _ HA.out | exact HH.out _ HA.out.drew | exact HH.out _ HB.out)
    (first | (go_at_call 86; (with_reducible refine (hp.out _).mono ?_); rintro e w3 ⟨rfl, hb3⟩; have HB := Lib.hid (HA.out.drew.below hb3 HA.out.lt)))
  go_wp2
  go_ret
  exact ⟨rfl, below_then hb0.drew hb3⟩

set_option maxRecDepth 100000 in
set_option maxHeartbeats 4000000 in
theorem geom_at_ok (M C S m r : Nat) (w : World) (h : geoIs M C S = true) (hm : m < M) (hr : r < S * C) : Calls Try.prog 73 #[geo M C S, .int .i64 m, .int .i64 r] w fun e w' => (∃ b p, e = .returned (.tuple #[.int .i64 b, .bool p, .int .u16 0])) ∧ Below w.heap.size w w' := by
  obtain ⟨h1, h2, h3, h4, h5, h6⟩ := (geoIs_iff M C S).1 h
  have hk := Lib.hid (fun W => geom_of M C S W)
  have hro := Lib.hid (fun d W => shape_rows M C S d W h)
  obtain ⟨hlo, hhi⟩ := geo_bounds h
  have hr' : (r : Int) < (S : Int) * (C : Int) := by exact_mod_cast hr
  have hdiv : r / C ≤ r := Nat.div_le_self _ _
  have hr2 : r / C ≤ 4096 := by omega
  have hme := Lib.hid (fun d W => shape_member M C S (r / C) 0 d W h hr2 (by omega))
  have hd' : ((r / C : Nat) : Int) = (r : Int) / (C : Int) := Int.natCast_ediv r C
  unfold geoCode at hk
  rw [h] at hk
  simp only [if_true] at hk
  have hml : memOf M (r / C) 0 < M := Nat.mod_lt _ (by omega)
  generalize memOf M (r / C) 0 = z at *
  rw [hd'] at hme
  simp only [show ((0 : Nat) : Int) = 0 from rfl] at hme
  have hq1 : 0 ≤ (r : Int) / (C : Int) := by rw [← hd']; exact Int.natCast_nonneg _
  have hq2 : (r : Int) / (C : Int) ≤ 4096 := by rw [← hd']; omega
  have hw : RowKit.wrap64 ((r : Int) / (C : Int)) = (r : Int) / (C : Int) := IntWalk.wrap64_in _ ⟨by omega, by omega⟩
  have hw' : IntKind.i64.wrap ((r : Int) / (C : Int)) = (r : Int) / (C : Int) := (IntWalk.i64_left _).trans hw
  have hC0 : ¬ C = 0 := by omega
  have hC1 : ¬ (C : Int) = 0 := by omega
  have hM0 : ¬ M = 0 := by omega
  have hM1 : ¬ (M : Int) = 0 := by omega
  have hmm : ((m : Int) - (z : Int)) + (M : Int) = ((m + M - z : Nat) : Int) := by omega
  clear hd'
  unfold geo shp at *
  generalize (S : Int) * (C : Int) = q at *
  go_enter Try.func73, Try.ntmps73
  go_wp2_with (first
    | (go_at_call 79; (with_reducible refine (hk.out _).mono ?_); rintro e w1 ⟨d, rfl, hd, hb1⟩)
    | (go_at_call 80; (with_reducible refine (hro.out _ _).mono ?_); rintro e w2 ⟨rfl, hb2⟩; have hA2 : At w2 w1.heap.size #[.int .i64 M, .int .i64 C, .int .i64 S, .int .i64 ((M : Int) - 1)] 164 := (At.new w1 _ _).below hb2 (by rw [size_alloc]; omega); have hsz := hb1.size; have hbb : Below w.heap.size w w2 := below_then ((below_then ((Below.refl w.heap.size w).alloc (Nat.le_refl _) _) hb1).alloc (by rw [size_alloc] at hsz; omega) _) hb2; have e0 := hA2.cell 0; have e1 := hA2.cell 1; have e2 := hA2.cell 2; have e3 := hA2.cell 3; have HA2 := Lib.hid hA2; clear hA2 hb1 hb2))
  have HH : Hid (∀ X, At X w1.heap.size #[.int .i64 M, .int .i64 C, .int .i64 S, .int .i64 ((M : Int) - 1)] 164 → X.cell? ⟨w1.heap.size, 0, none⟩ = some (.int .i64 M) ∧ X.cell? ⟨w1.heap.size, 1, none⟩ = some (.int .i64 C) ∧ X.cell? ⟨w1.heap.size, 2, none⟩ = some (.int .i64 S) ∧ X.cell? ⟨w1.heap.size, 3, none⟩ = some (.int .i64 ((M : Int) - 1))) := fun X h => ⟨h.cell 0, h.cell 1, h.cell 2, h.cell 3⟩
  clear e0 e1 e2 e3
  go_region_held3 (fun w' => w'.cell? ⟨w1.heap.size, 0, none⟩ = some (.int .i64 M) ∧ w'.cell? ⟨w1.heap.size, 1, none⟩ = some (.int .i64 C) ∧ w'.cell? ⟨w1.heap.size, 2, none⟩ = some (.int .i64 S) ∧ w'.cell? ⟨w1.heap.size, 3, none⟩ = some (.int .i64 ((M : Int) - 1)))
    (first | exact HH.out _ HA2.out | exact HH.out _ HA2.out.drew | exact HH.out _ HB.out)
    (first | (go_at_call 89; (with_reducible refine (hme.out _ _).mono ?_); rintro e w3 ⟨rfl, hb3⟩; have HB := Lib.hid (HA2.out.drew.below hb3 HA2.out.lt)))
  have e0 := HB.out.cell 0
  have e1 := HB.out.cell 1
  have e3 := HB.out.cell 3
  generalize (IntKind.i64.wrap (IntKind.i64.wrap ((m : Int) - (z : Int)) + (M : Int))).tmod (M : Int) = j
  by_cases hj : j = (M : Int) - 1
  · have hj' : (j == (M : Int) - 1) = true := by simp [hj]
    clear hj
    go_wp2
    go_ret3
    exact ⟨⟨_, _, rfl⟩, below_then hbb.drew hb3⟩
  · have hj' : (j == (M : Int) - 1) = false := by simp [hj]
    clear hj
    go_wp2
    go_quiet (fail)
    go_wp2
    go_ret3
    exact ⟨⟨_, _, rfl⟩, below_drewN (below_then hbb.drew hb3) _⟩

end Go.Proofs.Ytkcfmkhakghniaa
