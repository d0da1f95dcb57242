/- The scrub laws' 'much': whether there is more to do than is asked. -/
import Derived.Test.YtleicmmbaacbmaaGreatMrg19
import Derived.Deep.RegionHeld3
set_option linter.unusedVariables false
namespace Go.Proofs.YtleicmmbaacbmaaGreat
open Go.RowKit

/-- A script: each call's M, N, B. -/
def Acts (w : World) (v : Value) (l : List (Int × Int × List UInt8)) : Prop :=
  ∃ a cap, v = .slice a l.length cap ∧ l.length ≤ 9223372036854775807 ∧
    (l = [] ∨ ∃ b off, a = some ⟨b, off, none⟩ ∧ b < w.heap.size ∧ ∀ j (h : j < l.length), ∃ u, w.cell? ⟨b, off + j * 4 + 1, none⟩ = some (.int .i64 l[j].1) ∧ w.cell? ⟨b, off + j * 4 + 2, none⟩ = some (.int .i64 l[j].2.1) ∧ w.cell? ⟨b, off + j * 4 + 3, none⟩ = some u ∧ Seg w u l[j].2.2 ∧ l[j].2.2.length ≤ 9223372036854775807)

theorem Acts.below {w w' : World} {v : Value} {l : List (Int × Int × List UInt8)} (h : Acts w v l) (hb : Below w.heap.size w w') : Acts w' v l := by
  obtain ⟨a, cap, hv, hc, h⟩ := h
  refine ⟨a, cap, hv, hc, ?_⟩
  rcases h with h | ⟨b, off, ha, hlt, hx⟩
  · exact .inl h
  · refine .inr ⟨b, off, ha, Nat.lt_of_lt_of_le hlt hb.size, fun j hj => ?_⟩
    obtain ⟨u, h1, h2, h3, h4, h5⟩ := hx j hj
    exact ⟨u, (hb.cell (p := ⟨b, off + j * 4 + 1, none⟩) hlt).trans h1, (hb.cell (p := ⟨b, off + j * 4 + 2, none⟩) hlt).trans h2, (hb.cell (p := ⟨b, off + j * 4 + 3, none⟩) hlt).trans h3, h4.below hb, h5⟩
theorem Acts.shape {w : World} {v : Value} {l : List (Int × Int × List UInt8)} (h : Acts w v l) : ∃ a cap, v = .slice a l.length cap := by
  obtain ⟨a, cap, hv, _⟩ := h
  exact ⟨a, cap, hv⟩
theorem Acts.full {w : World} {a : Option Addr} {n c : Nat} {l : List (Int × Int × List UInt8)} (h : Acts w (.slice a n c) l) (hl : 0 < l.length) :
    ∃ b off, a = some ⟨b, off, none⟩ ∧ b < w.heap.size ∧ ∀ j (h : j < l.length), ∃ u, w.cell? ⟨b, off + j * 4 + 1, none⟩ = some (.int .i64 l[j].1) ∧ w.cell? ⟨b, off + j * 4 + 2, none⟩ = some (.int .i64 l[j].2.1) ∧ w.cell? ⟨b, off + j * 4 + 3, none⟩ = some u ∧ Seg w u l[j].2.2 ∧ l[j].2.2.length ≤ 9223372036854775807 := by
  obtain ⟨a', cap, hv, _, h⟩ := h
  simp only [Value.slice.injEq] at hv
  obtain ⟨rfl, -, -⟩ := hv
  rcases h with rfl | h
  · simp at hl
  · exact h
theorem Acts.nil (w : World) : Acts w (.slice none 0 0) [] := ⟨none, 0, rfl, by simp, .inl rfl⟩

set_option maxRecDepth 100000 in
set_option maxHeartbeats 4000000 in
theorem law_much (m c s : Int) (v : Value) (l : List (Int × Int × List UInt8)) (w : World) (hv : Acts w v l) (hg0 : geoIs m c s = true) :
    Calls Tryz.prog 4 #[geo m c s, v] w fun e w' => ∃ r : Bool, e = .returned (.bool r) ∧ (r = false → l.length ≤ 20000) ∧ (l = [] → r = false) ∧ Below w.heap.size w w' := by
  have hk := Lib.hid (fun W => ref_check m c s W)
  have hr := Lib.hid (fun W => ref_rows m c s W)
  have hb0 : Below w.heap.size w (w.alloc (.cells #[.int .i64 m, .int .i64 c, .int .i64 s] 23)) := (Below.refl _ _).alloc (Nat.le_refl _) _
  have ha0 : At (w.alloc (.cells #[.int .i64 m, .int .i64 c, .int .i64 s] 23)) w.heap.size #[.int .i64 m, .int .i64 c, .int .i64 s] 23 := At.new _ _ _
  have hv0 := hv.below hb0
  obtain ⟨va, vc, rfl⟩ := hv.shape
  have hlen : l.length ≤ 9223372036854775807 := by obtain ⟨_, _, _, h, _⟩ := hv; exact h
  have HV := Lib.hid hv0
  have HA0 := Lib.hid ha0
  have HHH : Hid (∀ X, At X w.heap.size #[.int .i64 m, .int .i64 c, .int .i64 s] 23 → X.cell? ⟨w.heap.size, 0, none⟩ = some (.int .i64 m) ∧ X.cell? ⟨w.heap.size, 1, none⟩ = some (.int .i64 c) ∧ X.cell? ⟨w.heap.size, 2, none⟩ = some (.int .i64 s)) := fun X h => ⟨h.cell 0, h.cell 1, h.cell 2⟩
  clear hv hv0 ha0
  unfold geoRows geoCode geo at *
  go_enter Tryz.func4, Tryz.ntmps4
  go_wp2
  go_loopw [5, 6] (fun n i wr => ∃ (k N : Nat), k ≤ l.length ∧ i = .int .i64 k ∧ n = .int .i64 N ∧ l.length ≤ N ∧ N ≤ 9223372036854775807 ∧ (l = [] → N = 0) ∧ Below w.heap.size w wr ∧ wr = w.alloc (.cells #[.int .i64 m, .int .i64 c, .int .i64 s] 23)) (fun _ i _ => l.length - (intOf i).toNat)
  case atStart => exact ⟨0, l.length, by omega, rfl, rfl, Nat.le_refl _, hlen, fun h => by rw [h]; rfl, hb0, rfl⟩
  case round =>
    obtain ⟨k, N, hk', rfl, rfl, hN, hN2, hnil, hbel, rfl⟩ := hrel
    have HN := Lib.hid hnil
    have HHN := Lib.hid hN
    clear hnil
    by_cases hgo : k < l.length ∧ N ≤ 20000
    · obtain ⟨hkl, hN3⟩ := hgo
      have K1 : Hid (k + 1 ≤ l.length) := hkl
      obtain ⟨b, off, rfl, hlt, hx⟩ := HV.out.full (by omega)
      obtain ⟨u, x1, x2, x3, x4, x5⟩ := hx k hkl
      obtain ⟨ua, uc, rfl⟩ := x4.shape
      generalize (l[k]).2.2.length = B at *
      clear x1 x2 x4 hx
      have hdv : ((B / 64 : Nat) : Int) = (B : Int) / 64 := by omega
      as_aux_lemma =>
        go_wp2
        refine ⟨⟨k + 1, N + B / 64, K1.out, by go_num, ?_, by omega, by omega, fun h => ?_, hbel, trivial⟩, by simp [intOf]; omega⟩
        · rw [Int.natCast_add, hdv]
        · subst h; simp at hkl
    · by_cases hbig : 20000 < N
      · have hnn : ¬ l = [] := fun h => by have := HN.out h; omega
        have hbd : decide ((20000 : Int) < (N : Int)) = true := decide_eq_true (by omega)
        have hbd2 : decide ((N : Int) ≤ 20000) = false := decide_eq_false (by omega)
        clear hgo
        by_cases hkl : k < l.length
        · as_aux_lemma =>
            go_wp2
            go_quiet (fail)
            go_wp2
            go_ret
            exact ⟨true, rfl, fun h => (by cases h), fun h => absurd h hnn, below_drewN hbel _⟩
        · have hkl' : (l.length : Int) ≤ (k : Int) := by omega
          as_aux_lemma =>
            go_wp2
            go_quiet (fail)
            go_wp2
            go_ret
            exact ⟨true, rfl, fun h => (by cases h), fun h => absurd h hnn, below_drewN hbel _⟩
      · obtain rfl : k = l.length := by omega
        clear hgo
        have hN3 : l.length ≤ 20000 := by have := HHN.out; omega
        have HN3 := Lib.hid hN3
        have hbd : decide ((20000 : Int) < (N : Int)) = false := decide_eq_false (by omega)
        have hg := hg0
        · obtain ⟨g1, g2, -⟩ := (geoIs_iff m c s).1 hg
          obtain ⟨b1, b2⟩ := geo_bounds hg
          rw [hg] at hk hr
          simp only [if_true] at *
          obtain ⟨z, hz, hk⟩ : ∃ z : Int, (z == 0) = true ∧ Hid (∀ W, Calls Tryz.prog 17 #[.agg #[.int .i64 m, .int .i64 c, .int .i64 s]] W fun e w' => e = .returned (.int .i64 z) ∧ Below W.heap.size W w') := ⟨0, rfl, hk⟩
          generalize s * c = q at *
          have p1 : 0 ≤ q * m := Int.mul_nonneg b1 (by omega)
          have p2 : q * m ≤ 4096 * 16 := Int.mul_le_mul b2 g2 (by omega) (by omega)
          have hw1 : Hid (IntKind.i64.wrap (q * m) = q * m) := (IntWalk.i64_left _).trans (IntWalk.wrap64_in _ ⟨by omega, by omega⟩)
          have hw2 : Hid (IntKind.i64.wrap ((l.length : Int) + 1) = (l.length : Int) + 1) := (IntWalk.i64_left _).trans (IntWalk.wrap64_in _ ⟨by omega, by omega⟩)
          have p3 : 0 ≤ q * m * ((l.length : Int) + 1) := Int.mul_nonneg p1 (by omega)
          have p4 : q * m * ((l.length : Int) + 1) ≤ 65536 * 20001 := Int.mul_le_mul (by omega) (by omega) (by omega) (by omega)
          have hw3 : Hid (IntKind.i64.wrap (q * m * ((l.length : Int) + 1)) = q * m * ((l.length : Int) + 1)) := (IntWalk.i64_left _).trans (IntWalk.wrap64_in _ ⟨by omega, by omega⟩)
          by_cases hp : 262144 < q * m * ((l.length : Int) + 1)
          · have hpd : decide ((262144 : Int) < q * m * ((l.length : Int) + 1)) = true := decide_eq_true hp
            have hnn : ¬ l = [] := fun h => by
              rw [h] at hp
              simp at hp
              omega
            as_aux_lemma =>
              go_wp2
              go_region_held3 (fun w' => w'.cell? ⟨w.heap.size, 0, none⟩ = some (.int .i64 m) ∧ w'.cell? ⟨w.heap.size, 1, none⟩ = some (.int .i64 c) ∧ w'.cell? ⟨w.heap.size, 2, none⟩ = some (.int .i64 s))
          (first | exact HHH.out _ HA0.out | exact HHH.out _ HA0.out.drew | exact HHH.out _ HB.out | exact HHH.out _ HC.out)
          (first | (go_at_call 17; (with_reducible refine (hk.out _).mono ?_); rintro e w1 ⟨rfl, hb1⟩; have HB := Lib.hid (HA0.out.drew.below hb1 HA0.out.lt); have HBW := Lib.hid hb1; clear hb1) | (go_at_call 18; (with_reducible refine (hr.out _).mono ?_); rintro e w2 ⟨rfl, hb2⟩; have HC := Lib.hid (HB.out.below hb2 HB.out.lt); have HCW := Lib.hid hb2; clear hb2))
              go_wp2
              go_ret
              exact ⟨true, (by show Ending.returned (.bool (decide (262144 < IntKind.i64.wrap (IntKind.i64.wrap (q * m) * IntKind.i64.wrap ((l.length : Int) + 1))))) = _; rw [hw1.out, hw2.out, hw3.out, hpd]), fun h => (by cases h), fun h => absurd h hnn, below_then (below_then hbel.drew HBW.out) HCW.out⟩
          · have hpd : decide ((262144 : Int) < q * m * ((l.length : Int) + 1)) = false := decide_eq_false hp
            as_aux_lemma =>
              go_wp2
              go_region_held3 (fun w' => w'.cell? ⟨w.heap.size, 0, none⟩ = some (.int .i64 m) ∧ w'.cell? ⟨w.heap.size, 1, none⟩ = some (.int .i64 c) ∧ w'.cell? ⟨w.heap.size, 2, none⟩ = some (.int .i64 s))
          (first | exact HHH.out _ HA0.out | exact HHH.out _ HA0.out.drew | exact HHH.out _ HB.out | exact HHH.out _ HC.out)
          (first | (go_at_call 17; (with_reducible refine (hk.out _).mono ?_); rintro e w1 ⟨rfl, hb1⟩; have HB := Lib.hid (HA0.out.drew.below hb1 HA0.out.lt); have HBW := Lib.hid hb1; clear hb1) | (go_at_call 18; (with_reducible refine (hr.out _).mono ?_); rintro e w2 ⟨rfl, hb2⟩; have HC := Lib.hid (HB.out.below hb2 HB.out.lt); have HCW := Lib.hid hb2; clear hb2))
              go_wp2
              go_ret
              exact ⟨false, (by show Ending.returned (.bool (decide (262144 < IntKind.i64.wrap (IntKind.i64.wrap (q * m) * IntKind.i64.wrap ((l.length : Int) + 1))))) = _; rw [hw1.out, hw2.out, hw3.out, hpd]), fun _ => HN3.out, fun _ => rfl, below_then (below_then hbel.drew HBW.out) HCW.out⟩

end Go.Proofs.YtleicmmbaacbmaaGreat
