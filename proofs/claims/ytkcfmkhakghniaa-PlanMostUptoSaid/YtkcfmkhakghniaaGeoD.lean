/- Geometries: the document's answers. -/
import Derived.Test.YtkcfmkhakghniaaGeoC
set_option linter.unusedVariables false
namespace Go.Proofs.Ytkcfmkhakghniaa
open Go.RowKit

set_option maxRecDepth 100000 in
set_option maxHeartbeats 2000000 in
theorem ref_check (m c s : Int) (w : World) : Calls Try.prog 9 #[geo m c s] w fun e w' => e = .returned (.int .i64 (geoCode m c s)) ∧ Below w.heap.size w w' := by
  have hb : Below w.heap.size w (w.alloc (.cells #[.int .i64 m, .int .i64 c, .int .i64 s] 23)) := (Below.refl _ _).alloc (Nat.le_refl _) _
  unfold geoCode
  by_cases h : geoIs m c s = true
  · rw [if_pos h]
    obtain ⟨h1, h2, h3, h4, h5, h6⟩ := (geoIs_iff m c s).1 h
    clear h
    unfold geo
    go_enter Try.func9, Try.ntmps9
    go_wp2
    go_ret
    exact ⟨rfl, hb⟩
  · rw [if_neg h]
    have h' : m < 3 ∨ (3 ≤ m ∧ 16 < m) ∨ (3 ≤ m ∧ m ≤ 16 ∧ c < 1) ∨ (3 ≤ m ∧ m ≤ 16 ∧ 1 ≤ c ∧ 16 < c) ∨ (3 ≤ m ∧ m ≤ 16 ∧ 1 ≤ c ∧ c ≤ 16 ∧ s < 1) ∨ (3 ≤ m ∧ m ≤ 16 ∧ 1 ≤ c ∧ c ≤ 16 ∧ 1 ≤ s ∧ 256 < s) := by
      rw [geoIs_iff] at h
      omega
    clear h
    unfold geo
    rcases h' with h1 | ⟨h1, h2⟩ | ⟨h1, h2, h3⟩ | ⟨h1, h2, h3, h4⟩ | ⟨h1, h2, h3, h4, h5⟩ | ⟨h1, h2, h3, h4, h5, h6⟩
    all_goals
      go_enter Try.func9, Try.ntmps9
      go_wp2
      go_ret
      exact ⟨rfl, hb⟩

set_option maxRecDepth 100000 in
set_option maxHeartbeats 2000000 in
theorem ref_rows (m c s : Int) (w : World) : Calls Try.prog 14 #[geo m c s] w fun e w' => e = .returned (.int .i64 (geoRows m c s)) ∧ Below w.heap.size w w' := by
  have hk := Lib.hid (fun W => ref_check m c s W)
  have hb : Below w.heap.size w (w.alloc (.cells #[.int .i64 m, .int .i64 c, .int .i64 s] 23)) := (Below.refl _ _).alloc (Nat.le_refl _) _
  have ha : At (w.alloc (.cells #[.int .i64 m, .int .i64 c, .int .i64 s] 23)) w.heap.size #[.int .i64 m, .int .i64 c, .int .i64 s] 23 := At.new _ _ _
  unfold geoRows geoCode at *
  have HA := Lib.hid ha
  have HL := Lib.hid ha.lt
  clear ha
  cases h : geoIs m c s
  · rw [h] at hk
    simp only [if_false, Bool.false_eq_true] at *
    unfold geo at *
    go_enter Try.func14, Try.ntmps14
    go_wp2_with (go_at_call 9; (with_reducible refine (hk.out _).mono ?_); rintro e w1 ⟨rfl, hb1⟩)
    go_ret
    exact ⟨rfl, below_then hb hb1⟩
  · obtain ⟨hlo, hhi⟩ := geo_bounds h
    rw [h] at hk
    simp only [if_true] at *
    unfold geo at *
    go_enter Try.func14, Try.ntmps14
    go_wp2_with (go_at_call 9; (with_reducible refine (hk.out _).mono ?_); rintro e w1 ⟨rfl, hb1⟩; have hA1 := HA.out.below hb1 HL.out; have c1 := hA1.cell 1; have c2 := hA1.cell 2; clear hA1)
    go_ret
    exact ⟨rfl, below_then hb hb1⟩

set_option maxRecDepth 100000 in
set_option maxHeartbeats 2000000 in
theorem ref_parity (M C S r : Nat) (w : World) (h : geoIs M C S = true) (hr : r < S * C) : Calls Try.prog 21 #[geo M C S, .int .i64 r] w fun e w' => e = .returned (.tuple #[.int .i64 (parOf M C r : Int), .int .i64 0]) ∧ Below w.heap.size w w' := by
  obtain ⟨h1, h2, h3, h4, h5, h6⟩ := (geoIs_iff M C S).1 h
  have hk := Lib.hid (fun W => ref_check M C S W)
  obtain ⟨hlo, hhi⟩ := geo_bounds h
  have hr' : (r : Int) < (S : Int) * (C : Int) := by exact_mod_cast hr
  have hdiv : r / C ≤ r := Nat.div_le_self _ _
  have hr2 : r / C ≤ 4096 := by omega
  have hlt : r / C % M < M := Nat.mod_lt _ (by omega)
  have e1 : ((parOf M C r : Nat) : Int) = (M : Int) - 1 - (r : Int) / (C : Int) % (M : Int) := by
    unfold parOf
    rw [show ((M - 1 - r / C % M : Nat) : Int) = (M : Int) - 1 - ((r / C % M : Nat) : Int) by omega, Int.natCast_emod, Int.natCast_ediv]
  have hd' : ((r / C : Nat) : Int) = (r : Int) / (C : Int) := Int.natCast_ediv r C
  have hq1 : 0 ≤ (r : Int) / (C : Int) := by rw [← hd']; exact Int.natCast_nonneg _
  have hq2 : (r : Int) / (C : Int) ≤ 4096 := by rw [← hd']; omega
  have hw : RowKit.wrap64 ((r : Int) / (C : Int)) = (r : Int) / (C : Int) := IntWalk.wrap64_in _ ⟨by omega, by omega⟩
  have hm1 : 0 ≤ (r : Int) / (C : Int) % (M : Int) := Int.emod_nonneg _ (by omega)
  have hm2 : (r : Int) / (C : Int) % (M : Int) < (M : Int) := Int.emod_lt_of_pos _ (by omega)
  have hw3 : RowKit.wrap64 ((M : Int) - 1 - (r : Int) / (C : Int) % (M : Int)) = (M : Int) - 1 - (r : Int) / (C : Int) % (M : Int) := IntWalk.wrap64_in _ ⟨by omega, by omega⟩
  unfold geoCode at hk
  rw [h] at hk
  simp only [if_true] at hk
  rw [e1]
  have hb : Below w.heap.size w (w.alloc (.cells #[.int .i64 M, .int .i64 C, .int .i64 S] 23)) := (Below.refl _ _).alloc (Nat.le_refl _) _
  have ha : At (w.alloc (.cells #[.int .i64 M, .int .i64 C, .int .i64 S] 23)) w.heap.size #[.int .i64 M, .int .i64 C, .int .i64 S] 23 := At.new _ _ _
  have HA := Lib.hid ha
  have HL := Lib.hid ha.lt
  clear ha hd' e1
  unfold geo at *
  go_enter Try.func21, Try.ntmps21
  go_wp2_with (go_at_call 9; (with_reducible refine (hk.out _).mono ?_); rintro e w1 ⟨rfl, hb1⟩; have hA1 := HA.out.below hb1 HL.out; have c0 := hA1.cell 0; have c1 := hA1.cell 1; have c2 := hA1.cell 2; clear hA1)
  go_quiet (fail)
  go_wp2
  go_ret2
  exact ⟨rfl, below_drewN (below_then hb hb1) _⟩

end Go.Proofs.Ytkcfmkhakghniaa
