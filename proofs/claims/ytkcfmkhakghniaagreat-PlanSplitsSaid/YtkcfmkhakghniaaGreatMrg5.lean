/- Several texts in one: PlnB, PlnL. -/
import Derived.Test.YtkcfmkhakghniaaGreatPlnA
/- Geometries: the member of a chunk; what lies where. -/
set_option linter.unusedVariables false
namespace Go.Proofs.YtkcfmkhakghniaaGreat
open Go.RowKit

/-- The member that has the i-th chunk of a stripe. -/
def memOf (M t i : Nat) : Nat := (M - 1 - t % M + 1 + i) % M

set_option maxRecDepth 100000 in
set_option maxHeartbeats 2000000 in
theorem shape_member (M C S t i : Nat) (d : Int) (w : World) (h : geoIs M C S = true) (ht : t ≤ 4096) (hi : i ≤ 4096) : Calls Tryz.prog 155 #[shp M C S d, .int .i64 t, .int .i64 i] w fun e w' => e = .returned (.int .i64 (memOf M t i : Nat)) ∧ Below w.heap.size w w' := by
  obtain ⟨h1, h2, h3, h4, h5, h6⟩ := (geoIs_iff M C S).1 h
  have hp := Lib.hid (fun W => shape_parity M C S t d W h ht)
  have hlt : t % M < M := Nat.mod_lt _ (by omega)
  unfold memOf
  have hq : M - 1 - t % M ≤ 16 := by omega
  generalize hqq : M - 1 - t % M = q at *
  have hM0 : ¬ M = 0 := by omega
  have hM1 : ¬ (M : Int) = 0 := by omega
  have e1 : Int.tmod ((q : Int) + 1 + (i : Int)) (M : Int) = (((q + 1 + i) % M : Nat) : Int) := by
    rw [show (q : Int) + 1 + (i : Int) = ((q + 1 + i : Nat) : Int) by omega]; rfl
  have hr : (q + 1 + i) % M < M := Nat.mod_lt _ (by omega)
  have hw1 : IntKind.i64.wrap ((q : Int) + 1) = (q : Int) + 1 := (IntWalk.i64_left _).trans (IntWalk.wrap64_in _ ⟨by omega, by omega⟩)
  have hw2 : IntKind.i64.wrap ((q : Int) + 1 + (i : Int)) = (q : Int) + 1 + (i : Int) := (IntWalk.i64_left _).trans (IntWalk.wrap64_in _ ⟨by omega, by omega⟩)
  have hw3 : IntKind.i64.wrap (((q + 1 + i) % M : Nat) : Int) = (((q + 1 + i) % M : Nat) : Int) := (IntWalk.i64_left _).trans (IntWalk.wrap64_in _ ⟨by omega, by omega⟩)
  generalize (q + 1 + i) % M = x at *
  unfold shp at *
  clear hqq hlt
  have HA : Hid (At (w.alloc (.cells #[.int .i64 M, .int .i64 C, .int .i64 S, .int .i64 d] 251)) w.heap.size #[.int .i64 M, .int .i64 C, .int .i64 S, .int .i64 d] 251) := At.new _ _ _
  have hb0 : Below w.heap.size w (w.alloc (.cells #[.int .i64 M, .int .i64 C, .int .i64 S, .int .i64 d] 251)) := (Below.refl _ _).alloc (Nat.le_refl _) _
  have HH : Hid (∀ X, At X w.heap.size #[.int .i64 M, .int .i64 C, .int .i64 S, .int .i64 d] 251 → X.cell? ⟨w.heap.size, 0, none⟩ = some (.int .i64 M) ∧ X.cell? ⟨w.heap.size, 1, none⟩ = some (.int .i64 C) ∧ X.cell? ⟨w.heap.size, 2, none⟩ = some (.int .i64 S) ∧ X.cell? ⟨w.heap.size, 3, none⟩ = some (.int .i64 d)) := fun X h => ⟨h.cell 0, h.cell 1, h.cell 2, h.cell 3⟩
  go_enter Tryz.func155, Tryz.ntmps155
  go_wp2
  go_region_held3 (fun w' => w'.cell? ⟨w.heap.size, 0, none⟩ = some (.int .i64 M) ∧ w'.cell? ⟨w.heap.size, 1, none⟩ = some (.int .i64 C) ∧ w'.cell? ⟨w.heap.size, 2, none⟩ = some (.int .i64 S) ∧ w'.cell? ⟨w.heap.size, 3, none⟩ = some (.int .i64 d))
    (first | exact HH.out _ HA.out | exact HH.out _ HA.out.drew | exact HH.out _ HB.out)
    (first | (go_at_call 156; (with_reducible refine (hp.out _).mono ?_); rintro e w3 ⟨rfl, hb3⟩; have HB := Lib.hid (HA.out.drew.below hb3 HA.out.lt)))
  go_wp2
  go_ret
  exact ⟨rfl, below_then hb0.drew hb3⟩

set_option maxRecDepth 100000 in
set_option maxHeartbeats 4000000 in
theorem geom_at_ok (M C S m r : Nat) (w : World) (h : geoIs M C S = true) (hm : m < M) (hr : r < S * C) : Calls Tryz.prog 123 #[geo M C S, .int .i64 m, .int .i64 r] w fun e w' => (∃ b p, e = .returned (.tuple #[.int .i64 b, .bool p, .int .u16 0])) ∧ Below w.heap.size w w' := by
  obtain ⟨h1, h2, h3, h4, h5, h6⟩ := (geoIs_iff M C S).1 h
  have hk := Lib.hid (fun W => geom_of M C S W)
  have hro := Lib.hid (fun d W => shape_rows M C S d W h)
  obtain ⟨hlo, hhi⟩ := geo_bounds h
  have hr' : (r : Int) < (S : Int) * (C : Int) := by exact_mod_cast hr
  have hdiv : r / C ≤ r := Nat.div_le_self _ _
  have hr2 : r / C ≤ 4096 := by omega
  have hme := Lib.hid (fun d W => shape_member M C S (r / C) 0 d W h hr2 (by omega))
  have hd' : ((r / C : Nat) : Int) = (r : Int) / (C : Int) := Int.natCast_ediv r C
  unfold geoCode at hk
  rw [h] at hk
  simp only [if_true] at hk
  have hml : memOf M (r / C) 0 < M := Nat.mod_lt _ (by omega)
  generalize memOf M (r / C) 0 = z at *
  rw [hd'] at hme
  simp only [show ((0 : Nat) : Int) = 0 from rfl] at hme
  have hq1 : 0 ≤ (r : Int) / (C : Int) := by rw [← hd']; exact Int.natCast_nonneg _
  have hq2 : (r : Int) / (C : Int) ≤ 4096 := by rw [← hd']; omega
  have hw : RowKit.wrap64 ((r : Int) / (C : Int)) = (r : Int) / (C : Int) := IntWalk.wrap64_in _ ⟨by omega, by omega⟩
  have hw' : IntKind.i64.wrap ((r : Int) / (C : Int)) = (r : Int) / (C : Int) := (IntWalk.i64_left _).trans hw
  have hC0 : ¬ C = 0 := by omega
  have hC1 : ¬ (C : Int) = 0 := by omega
  have hM0 : ¬ M = 0 := by omega
  have hM1 : ¬ (M : Int) = 0 := by omega
  have hmm : ((m : Int) - (z : Int)) + (M : Int) = ((m + M - z : Nat) : Int) := by omega
  clear hd'
  unfold geo shp at *
  generalize (S : Int) * (C : Int) = q at *
  go_enter Tryz.func123, Tryz.ntmps123
  go_wp2_with (first
    | (go_at_call 153; (with_reducible refine (hk.out _).mono ?_); rintro e w1 ⟨d, rfl, hd, hb1⟩)
    | (go_at_call 154; (with_reducible refine (hro.out _ _).mono ?_); rintro e w2 ⟨rfl, hb2⟩; have hA2 : At w2 w1.heap.size #[.int .i64 M, .int .i64 C, .int .i64 S, .int .i64 ((M : Int) - 1)] 251 := (At.new w1 _ _).below hb2 (by rw [size_alloc]; omega); have hsz := hb1.size; have hbb : Below w.heap.size w w2 := below_then ((below_then ((Below.refl w.heap.size w).alloc (Nat.le_refl _) _) hb1).alloc (by rw [size_alloc] at hsz; omega) _) hb2; have e0 := hA2.cell 0; have e1 := hA2.cell 1; have e2 := hA2.cell 2; have e3 := hA2.cell 3; have HA2 := Lib.hid hA2; clear hA2 hb1 hb2))
  have HH : Hid (∀ X, At X w1.heap.size #[.int .i64 M, .int .i64 C, .int .i64 S, .int .i64 ((M : Int) - 1)] 251 → X.cell? ⟨w1.heap.size, 0, none⟩ = some (.int .i64 M) ∧ X.cell? ⟨w1.heap.size, 1, none⟩ = some (.int .i64 C) ∧ X.cell? ⟨w1.heap.size, 2, none⟩ = some (.int .i64 S) ∧ X.cell? ⟨w1.heap.size, 3, none⟩ = some (.int .i64 ((M : Int) - 1))) := fun X h => ⟨h.cell 0, h.cell 1, h.cell 2, h.cell 3⟩
  clear e0 e1 e2 e3
  go_region_held3 (fun w' => w'.cell? ⟨w1.heap.size, 0, none⟩ = some (.int .i64 M) ∧ w'.cell? ⟨w1.heap.size, 1, none⟩ = some (.int .i64 C) ∧ w'.cell? ⟨w1.heap.size, 2, none⟩ = some (.int .i64 S) ∧ w'.cell? ⟨w1.heap.size, 3, none⟩ = some (.int .i64 ((M : Int) - 1)))
    (first | exact HH.out _ HA2.out | exact HH.out _ HA2.out.drew | exact HH.out _ HB.out)
    (first | (go_at_call 155; (with_reducible refine (hme.out _ _).mono ?_); rintro e w3 ⟨rfl, hb3⟩; have HB := Lib.hid (HA2.out.drew.below hb3 HA2.out.lt)))
  have e0 := HB.out.cell 0
  have e1 := HB.out.cell 1
  have e3 := HB.out.cell 3
  generalize (IntKind.i64.wrap (IntKind.i64.wrap ((m : Int) - (z : Int)) + (M : Int))).tmod (M : Int) = j
  by_cases hj : j = (M : Int) - 1
  · have hj' : (j == (M : Int) - 1) = true := by simp [hj]
    clear hj
    go_wp2
    go_ret3
    exact ⟨⟨_, _, rfl⟩, below_then hbb.drew hb3⟩
  · have hj' : (j == (M : Int) - 1) = false := by simp [hj]
    clear hj
    go_wp2
    go_quiet (fail)
    go_wp2
    go_ret3
    exact ⟨⟨_, _, rfl⟩, below_drewN (below_then hbb.drew hb3) _⟩

end Go.Proofs.YtkcfmkhakghniaaGreat

/- plan.Solve: a member's sector of a row, out of all others. -/
set_option linter.unusedVariables false
namespace Go.Proofs.YtkcfmkhakghniaaGreat
open Go.RowKit

/-- The exclusive or of the first n of the texts F, but for the k-th. -/
def xorBut (F : Nat → List UInt8) (k : Nat) : Nat → Nat → UInt8
  | 0, _ => 0
  | n + 1, i => if n = k then xorBut F k n i else xorBut F k n i ^^^ (F n).getD i 0

theorem xorBut_skip (F : Nat → List UInt8) (k : Nat) : xorBut F k (k + 1) = xorBut F k k := by
  funext i
  show (if k = k then _ else _) = _
  rw [if_pos rfl]
theorem xorBut_add (F : Nat → List UInt8) {k n : Nat} (h : n ≠ k) : xorBut F k (n + 1) = fun i => xorBut F k n i ^^^ (F n).getD i 0 := by
  funext i
  show (if n = k then _ else _) = _
  rw [if_neg h]

set_option maxRecDepth 100000 in
set_option maxHeartbeats 4000000 in
theorem plan_Solve (M C S r kk : Nat) (vrd : Value) (ls : List (List UInt8)) (w : World) (hg : geoIs M C S = true) (hr : r < S * C) (hk : kk < M) (hls : Segs w vrd ls) (hlm : ls.length = M) (hl : ∀ m, m < M → m ≠ kk → (ls.getD m []).length = 128) :
    Calls Tryz.prog 45 #[geo M C S, .int .i64 r, .int .i64 kk, vrd] w fun e w' => ∃ v, e = .returned (.tuple #[v, .int .u16 0]) ∧ w'.ownsRow w.heap.size 5 1 v 128 (ucells (sumL (xorBut (fun m => ls.getD m []) kk M) 128)) ∧ Below w.heap.size w w' := by
  obtain ⟨h1, h2, h3, h4, h5, h6⟩ := (geoIs_iff M C S).1 hg
  have hat := Lib.hid (fun W => geom_at_ok M C S kk r W hg hk hr)
  have hnew := Lib.hid (fun W => xor_new 128 W (by omega))
  simp only [show ((128 : Nat) : Int) = 128 from rfl] at hnew
  have HLS := Lib.hid hls
  have HL := Lib.hid hl
  obtain ⟨sa, sc, hvs⟩ := hls.shape
  rw [hlm] at hvs
  subst hvs
  have hne : ((M : Int) != (M : Int)) = false := by simp
  have hb0 : Below w.heap.size w (w.alloc (.cells #[.int .i64 M, .int .i64 C, .int .i64 S] 23)) := (Below.refl _ _).alloc (Nat.le_refl _) _
  have HG0 : Hid (At (w.alloc (.cells #[.int .i64 M, .int .i64 C, .int .i64 S] 23)) w.heap.size #[.int .i64 M, .int .i64 C, .int .i64 S] 23) := At.new _ _ _
  clear hls hl
  unfold geo at *
  go_enter Tryz.func45, Tryz.ntmps45
  go_wp2_with (first
    | (go_at_call 123; (with_reducible refine (hat.out _).mono ?_); rintro e w1 ⟨⟨zb, zp, rfl⟩, hb1⟩; have hg1 := HG0.out.below hb1 HG0.out.lt; have c0 := hg1.cell 0; have HB1 := Lib.hid (below_then hb0 hb1); clear hg1 hb1)
    | (go_at_call 118; (with_reducible refine (hnew.out _).mono ?_); rintro e w7 ⟨g, gb, rfl, hsum, hg1, hg2, hb7⟩; have HS7 := Lib.hid hsum; have HB7 := Lib.hid hb7; clear hsum hb7 c0))
  have HSS := Lib.hid (HLS.out.below HB1.out)
  have hlm' := Lib.hid hlm
  clear HLS hne hat hnew HG0 hb0
  go_loopw [39] (fun t wr => ∃ (k : Nat) (many : Int), k ≤ M ∧ t = .int .i64 k ∧ 0 ≤ many ∧ many ≤ k ∧ SumAt wr g gb 128 (xorBut (fun m => ls.getD m []) kk k) many ∧ Below w1.heap.size w1 wr) (fun t _ => M - (intOf t).toNat)
  case atStart => exact ⟨0, 0, by omega, rfl, by omega, by omega, HS7.out, HB7.out⟩
  case round =>
    obtain ⟨k, many, hk', rfl, hm0, hm1, hs, hbw⟩ := hrel
    have HS := Lib.hid hs
    have HBW := Lib.hid hbw
    clear hs HS7 HB7
    by_cases hkn : k < M
    · have K1 : Hid (k + 1 ≤ M) := hkn
      obtain ⟨sb, so, sc', hve, hslt, hsx⟩ := Segs.full (HSS.out.below hbw) (by omega)
      rw [hlm] at hve
      simp only [Value.slice.injEq, true_and] at hve
      obtain ⟨rfl, rfl⟩ := hve
      obtain ⟨u, d0, hu⟩ := hsx k (by omega)
      have hgl : ls.getD k [] = ls[k]'(by omega) := by rw [List.getD_eq_getElem?_getD, List.getElem?_eq_getElem (by omega)]; rfl
      rw [← hgl] at hu
      obtain ⟨ua, uc, rfl⟩ := hu.shape
      by_cases hkk : k = kk
      · subst hkk
        have hq : ((k : Int) != (k : Int)) = false := by simp
        have hx := Lib.hid (xorBut_skip (fun m => ls.getD m []) k)
        clear hsx hu hgl
        generalize (ls.getD k []).length = un at *
        as_aux_lemma =>
          go_wp2
          refine ⟨⟨k + 1, many, K1.out, by go_num, hm0, by omega, ?_, HBW.out⟩, by simp [intOf]; omega⟩
          rw [hx.out]
          exact HS.out
      · have hq : ((k : Int) != (kk : Int)) = true := by simp; omega
        have hx := Lib.hid (xorBut_add (fun m => ls.getD m []) hkk)
        have hl128 := HL.out k hkn hkk
        obtain ⟨b6, o6, c6, hv6, hb6⟩ : ∃ b6 o6 c6, (Value.slice ua (ls.getD k []).length uc) = .slice (some ⟨b6, o6, none⟩) (ls.getD k []).length c6 ∧ b6 < w1.heap.size := by
          obtain ⟨sb', so', sc'', hve', hslt', hsx'⟩ := Segs.full HSS.out (by omega)
          simp only [Value.slice.injEq, Option.some.injEq, Addr.mk.injEq, and_true] at hve'
          obtain ⟨⟨rfl, rfl⟩, -, rfl⟩ := hve'
          obtain ⟨u', e1, e2⟩ := hsx' k (by omega)
          have e3 := (hbw.cell (p := ⟨sb, so + k, none⟩) hslt').trans e1
          rw [d0] at e3
          simp only [Option.some.injEq] at e3
          rw [← e3, ← hgl] at e2
          obtain ⟨b6, o6, c6, h1, h2, -⟩ := Seg.full e2 (by omega)
          exact ⟨b6, o6, c6, h1, h2⟩
        simp only [Value.slice.injEq, true_and] at hv6
        obtain ⟨rfl, rfl⟩ := hv6
        have hAdd := Lib.hid (xor_add g gb 128 _ many (.slice (some ⟨b6, o6, none⟩) (ls.getD k []).length uc) (ls.getD k []) wr HS.out (by omega) hu hl128 (fun a q c hv => by simp only [Value.slice.injEq, Option.some.injEq] at hv; rw [← hv.1]; show b6 ≠ gb; omega) (by omega) (by omega))
        rw [hl128] at d0 hAdd
        clear hsx hu hgl
        as_aux_lemma =>
          go_wp2_with (go_at_call 119; (with_reducible refine hAdd.out.mono ?_); rintro e w8 ⟨rfl, hs8, hc8⟩)
          refine ⟨⟨k + 1, many + 1, K1.out, by go_num, by omega, by omega, ?_, Chg.own HBW.out hc8 (fun q hq => by rcases hq with rfl | rfl <;> assumption)⟩, by simp [intOf]; omega⟩
          rw [hx.out]
          exact hs8
    · obtain rfl : k = M := by omega
      have hxv := Lib.hid (xor_value g gb 128 _ _ wr HS.out (by omega))
      go_wp2_with (go_at_call 120; (with_reducible refine hxv.out.mono ?_); rintro e w9 ⟨v, rfl, hv, hb9⟩)
      go_ret2
      have hbb := below_then HB1.out HBW.out
      exact ⟨v, rfl, rebase_row hv hbb.size, below_then hbb hb9⟩

end Go.Proofs.YtkcfmkhakghniaaGreat
