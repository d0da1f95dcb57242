/- Several texts in one: PlyL, PlyM. -/
import Derived.Test.YtpegbgomnpinfaaGreatPlyH
import Derived.Test.YtpegbgomnpinfaaGreatPlyI
import Derived.Test.YtpegbgomnpinfaaGreatPlnC
/- plan.Of, where plan.of refuses. -/
set_option linter.unusedVariables false
namespace Go.Proofs.YtpegbgomnpinfaaGreat
open Go.RowKit

set_option maxRecDepth 100000 in
set_option maxHeartbeats 1000000 in
theorem plan_Of_no (m c s : Int) (a : Option Addr) (n k : Nat) (vp : Value) (cd : Nat) (w : World) (hc0 : cd ≠ 0) (hc1 : cd ≤ 200)
    (hof : ∀ W, Below w.heap.size w W → Calls Tryz.prog 84 #[geo m c s, .slice a n k, vp] W fun e w' => e = .returned (.tuple #[.pointer none, .int .u16 cd]) ∧ Below W.heap.size W w') :
    Calls Tryz.prog 22 #[geo m c s, .slice a n k, vp] w fun e w' => e = .returned (.tuple #[.agg #[.int .i64 0, .int .u8 0, .int .i64 0, .slice none 0 0, .slice none 0 0], .int .u16 cd]) ∧ Below w.heap.size w w' := by
  obtain ⟨w0, hw0⟩ : ∃ w0, w0 = (w.alloc (.cells #[.int .i64 m, .int .i64 c, .int .i64 s] 23)).alloc (.cells #[.int .i64 0, .int .u8 0, .int .i64 0, .slice none 0 0, .slice none 0 0] 75) := ⟨_, rfl⟩
  have HB0 : Hid (Below w.heap.size w w0) := by rw [hw0]; exact ((Below.refl _ _).alloc (Nat.le_refl _) _).alloc (by rw [size_alloc]; omega) _
  have HOF := Lib.hid hof
  have HR0 : Hid (At w0 (w.heap.size + 1) #[.int .i64 0, .int .u8 0, .int .i64 0, .slice none 0 0, .slice none 0 0] 75) := by
    have h := At.new (w.alloc (.cells #[.int .i64 m, .int .i64 c, .int .i64 s] 23)) #[.int .i64 0, .int .u8 0, .int .i64 0, .slice none 0 0, .slice none 0 0] 75
    rw [size_alloc, ← hw0] at h
    exact h
  have hne : ((cd : Int) != 0) = true := by simp; omega
  subst hw0
  clear hof hc0
  unfold geo at *
  go_enter Tryz.func22, Tryz.ntmps22
  go_wp2_with (go_at_call 84; (with_reducible refine (HOF.out _ HB0.out).mono ?_); rintro e w1 ⟨rfl, hb1⟩; have HB1 := Lib.hid (below_then HB0.out hb1); have hR1 := HR0.out.below hb1 HR0.out.lt; have HR1 := Lib.hid hR1; have d0 := hR1.cell 0; have d1 := hR1.cell 1; have d2 := hR1.cell 2; have d3 := hR1.cell 3; have d4 := hR1.cell 4; have f0 := hR1.free 0; have f1 := hR1.free 1; have f2 := hR1.free 2; have f3 := hR1.free 3; have f4 := hR1.free 4; clear hb1 hR1)
  have HF := ((((HR1.out.set 0 (.int .i64 0)).set 1 (.int .u8 0)).set 2 (.int .i64 0)).set 3 (.slice none 0 0)).set 4 (.slice none 0 0)
  have r0 := HF.cell 0
  have r1 := HF.cell 1
  have r2 := HF.cell 2
  have r3 := HF.cell 3
  have r4 := HF.cell 4
  clear d0 d1 d2 d3 d4 f0 f1 f2 f3 f4
  go_wp2
  (try simp only [Exit.inBlock, Exit.then])
  refine bodyPost_ret (v := .tuple #[.agg #[.int .i64 0, .int .u8 0, .int .i64 0, .slice none 0 0, .slice none 0 0], .int .u16 cd]) ?_ rfl ⟨rfl, ((((HB1.out.setCell (p := ⟨w.heap.size + 1, 0, none⟩) (Nat.le_succ _) _).setCell (p := ⟨w.heap.size + 1, 1, none⟩) (Nat.le_succ _) _).setCell (p := ⟨w.heap.size + 1, 2, none⟩) (Nat.le_succ _) _).setCell (p := ⟨w.heap.size + 1, 3, none⟩) (Nat.le_succ _) _).setCell (p := ⟨w.heap.size + 1, 4, none⟩) (Nat.le_succ _) _⟩
  rw [results_cell_tmp rfl]
  go_simp
  try rfl

end Go.Proofs.YtpegbgomnpinfaaGreat

/- geom.At where nothing lies; plan.of where it refuses, in every way. -/
set_option linter.unusedVariables false
namespace Go.Proofs.YtpegbgomnpinfaaGreat
open Go.RowKit

set_option maxRecDepth 100000 in
set_option maxHeartbeats 4000000 in
theorem geom_At_no (M C S : Nat) (m r : Int) (w : World) (h : geoIs M C S = true) (hb : patBad M C S ⟨m, r, []⟩ = true) : Calls Tryz.prog 108 #[geo M C S, .int .i64 m, .int .i64 r] w fun e w' => e = .returned (.tuple #[.int .i64 0, .bool false, .int .u16 3]) ∧ Below w.heap.size w w' := by
  obtain ⟨h1, h2, h3, h4, h5, h6⟩ := (geoIs_iff M C S).1 h
  have hk := Lib.hid (fun W => geom_of M C S W)
  have hro := Lib.hid (fun d W => shape_rows M C S d W h)
  unfold geoCode at hk
  rw [h] at hk
  simp only [if_true] at hk
  obtain ⟨T, hT⟩ : ∃ T, T = S * C := ⟨_, rfl⟩
  have hT2 : (S : Int) * (C : Int) = (T : Int) := by rw [hT, Int.natCast_mul]
  have hw := patBad_ways M C S T hT m r []
  rw [hb] at hw
  rw [hT2] at hro
  clear hb hT hT2
  unfold geo shp at *
  rcases hw with ⟨hbad, t1⟩ | ⟨hbad, t1, t2⟩ | ⟨hbad, t1, t2, t3⟩ | ⟨hbad, t1, t2, t3, t4⟩ | ⟨hbad, t1, t2, t3, t4⟩
  · clear hbad
    go_enter Tryz.func108, Tryz.ntmps108
    go_wp2_with (first
      | (go_at_call 153; (with_reducible refine (hk.out _).mono ?_); rintro e w1 ⟨d, rfl, hd, hb1⟩; have hsz := hb1.size; have hbb : Below w.heap.size w (w1.alloc (.cells #[.int .i64 M, .int .i64 C, .int .i64 S, .int .i64 ((M : Int) - 1)] 240)) := (below_then ((Below.refl w.heap.size w).alloc (Nat.le_refl _) _) hb1).alloc (by rw [size_alloc] at hsz; omega) _; clear hb1)
      | (go_at_call 154; (with_reducible refine (hro.out _ _).mono ?_); rintro e w2 ⟨rfl, hb2⟩; have hbb2 := below_then hbb hb2; clear hb2))
    go_ret3
    exact ⟨rfl, by first | exact hbb2 | exact hbb⟩
  · clear hbad
    go_enter Tryz.func108, Tryz.ntmps108
    go_wp2_with (first
      | (go_at_call 153; (with_reducible refine (hk.out _).mono ?_); rintro e w1 ⟨d, rfl, hd, hb1⟩; have hsz := hb1.size; have hbb : Below w.heap.size w (w1.alloc (.cells #[.int .i64 M, .int .i64 C, .int .i64 S, .int .i64 ((M : Int) - 1)] 240)) := (below_then ((Below.refl w.heap.size w).alloc (Nat.le_refl _) _) hb1).alloc (by rw [size_alloc] at hsz; omega) _; clear hb1)
      | (go_at_call 154; (with_reducible refine (hro.out _ _).mono ?_); rintro e w2 ⟨rfl, hb2⟩; have hbb2 := below_then hbb hb2; clear hb2))
    go_ret3
    exact ⟨rfl, by first | exact hbb2 | exact hbb⟩
  · clear hbad
    go_enter Tryz.func108, Tryz.ntmps108
    go_wp2_with (first
      | (go_at_call 153; (with_reducible refine (hk.out _).mono ?_); rintro e w1 ⟨d, rfl, hd, hb1⟩; have hsz := hb1.size; have hbb : Below w.heap.size w (w1.alloc (.cells #[.int .i64 M, .int .i64 C, .int .i64 S, .int .i64 ((M : Int) - 1)] 240)) := (below_then ((Below.refl w.heap.size w).alloc (Nat.le_refl _) _) hb1).alloc (by rw [size_alloc] at hsz; omega) _; clear hb1)
      | (go_at_call 154; (with_reducible refine (hro.out _ _).mono ?_); rintro e w2 ⟨rfl, hb2⟩; have hbb2 := below_then hbb hb2; clear hb2))
    go_ret3
    exact ⟨rfl, by first | exact hbb2 | exact hbb⟩
  · clear hbad
    go_enter Tryz.func108, Tryz.ntmps108
    go_wp2_with (first
      | (go_at_call 153; (with_reducible refine (hk.out _).mono ?_); rintro e w1 ⟨d, rfl, hd, hb1⟩; have hsz := hb1.size; have hbb : Below w.heap.size w (w1.alloc (.cells #[.int .i64 M, .int .i64 C, .int .i64 S, .int .i64 ((M : Int) - 1)] 240)) := (below_then ((Below.refl w.heap.size w).alloc (Nat.le_refl _) _) hb1).alloc (by rw [size_alloc] at hsz; omega) _; clear hb1)
      | (go_at_call 154; (with_reducible refine (hro.out _ _).mono ?_); rintro e w2 ⟨rfl, hb2⟩; have hbb2 := below_then hbb hb2; clear hb2))
    go_ret3
    exact ⟨rfl, by first | exact hbb2 | exact hbb⟩
  · simp at hbad

theorem bad_any {M C S : Nat} (m r : Int) (d : List UInt8) : patBad M C S ⟨m, r, d⟩ = patBad M C S ⟨m, r, []⟩ := rfl

/-- geom.At, of any member and row: an error as the patch's. -/
theorem geom_At_any (M C S : Nat) (m r : Int) (w : World) (h : geoIs M C S = true) : Calls Tryz.prog 108 #[geo M C S, .int .i64 m, .int .i64 r] w fun e w' => (∃ b p, e = .returned (.tuple #[.int .i64 b, .bool p, .int .u16 (if patBad M C S ⟨m, r, []⟩ = true then 3 else 0)])) ∧ Below w.heap.size w w' := by
  by_cases hb : patBad M C S ⟨m, r, []⟩ = true
  · rw [if_pos hb]
    exact (geom_At_no M C S m r w h hb).mono fun e w' ⟨x1, x2⟩ => ⟨⟨_, _, x1⟩, x2⟩
  · rw [if_neg hb]
    have hq : patBad M C S ⟨m, r, []⟩ = false := by simpa using hb
    unfold patBad at hq
    simp only [Bool.or_eq_false_iff, decide_eq_false_iff_not] at hq
    obtain ⟨q1, q2, q3, q4⟩ := hq
    obtain ⟨m', rfl⟩ := Int.eq_ofNat_of_zero_le (by omega : 0 ≤ m)
    obtain ⟨r', rfl⟩ := Int.eq_ofNat_of_zero_le (by omega : 0 ≤ r)
    exact geom_at_ok M C S m' r' w h (by omega) (by omega)

end Go.Proofs.YtpegbgomnpinfaaGreat
