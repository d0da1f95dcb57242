/- Several texts in one: PlyL, PlyM, WrkF. -/
import Derived.Test.YtpegbgomnpinfaaGreatPlyH
import Derived.Test.YtpegbgomnpinfaaGreatPlyI
import Derived.Test.YtpegbgomnpinfaaGreatMrg5
import Derived.Test.YtpegbgomnpinfaaGreatMrg8
/- plan.Of, where plan.of refuses. -/
set_option linter.unusedVariables false
namespace Go.Proofs.YtpegbgomnpinfaaGreat
open Go.RowKit

set_option maxRecDepth 100000 in
set_option maxHeartbeats 1000000 in
theorem plan_Of_no (m c s : Int) (a : Option Addr) (n k : Nat) (vp : Value) (cd : Nat) (w : World) (hc0 : cd ≠ 0) (hc1 : cd ≤ 200)
    (hof : ∀ W, Below w.heap.size w W → Calls Tryz.prog 84 #[geo m c s, .slice a n k, vp] W fun e w' => e = .returned (.tuple #[.pointer none, .int .u16 cd]) ∧ Below W.heap.size W w') :
    Calls Tryz.prog 22 #[geo m c s, .slice a n k, vp] w fun e w' => e = .returned (.tuple #[.agg #[.int .i64 0, .int .u8 0, .int .i64 0, .slice none 0 0, .slice none 0 0], .int .u16 cd]) ∧ Below w.heap.size w w' := by
  obtain ⟨w0, hw0⟩ : ∃ w0, w0 = (w.alloc (.cells #[.int .i64 m, .int .i64 c, .int .i64 s] 23)).alloc (.cells #[.int .i64 0, .int .u8 0, .int .i64 0, .slice none 0 0, .slice none 0 0] 75) := ⟨_, rfl⟩
  have HB0 : Hid (Below w.heap.size w w0) := by rw [hw0]; exact ((Below.refl _ _).alloc (Nat.le_refl _) _).alloc (by rw [size_alloc]; omega) _
  have HOF := Lib.hid hof
  have HR0 : Hid (At w0 (w.heap.size + 1) #[.int .i64 0, .int .u8 0, .int .i64 0, .slice none 0 0, .slice none 0 0] 75) := by
    have h := At.new (w.alloc (.cells #[.int .i64 m, .int .i64 c, .int .i64 s] 23)) #[.int .i64 0, .int .u8 0, .int .i64 0, .slice none 0 0, .slice none 0 0] 75
    rw [size_alloc, ← hw0] at h
    exact h
  have hne : ((cd : Int) != 0) = true := by simp; omega
  subst hw0
  clear hof hc0
  unfold geo at *
  go_enter Tryz.func22, Tryz.ntmps22
  go_wp2_with (go_at_call 84; (with_reducible refine (HOF.out _ HB0.out).mono ?_); rintro e w1 ⟨rfl, hb1⟩; have HB1 := Lib.hid (below_then HB0.out hb1); have hR1 := HR0.out.below hb1 HR0.out.lt; have HR1 := Lib.hid hR1; have d0 := hR1.cell 0; have d1 := hR1.cell 1; have d2 := hR1.cell 2; have d3 := hR1.cell 3; have d4 := hR1.cell 4; have f0 := hR1.free 0; have f1 := hR1.free 1; have f2 := hR1.free 2; have f3 := hR1.free 3; have f4 := hR1.free 4; clear hb1 hR1)
  have HF := ((((HR1.out.set 0 (.int .i64 0)).set 1 (.int .u8 0)).set 2 (.int .i64 0)).set 3 (.slice none 0 0)).set 4 (.slice none 0 0)
  have r0 := HF.cell 0
  have r1 := HF.cell 1
  have r2 := HF.cell 2
  have r3 := HF.cell 3
  have r4 := HF.cell 4
  clear d0 d1 d2 d3 d4 f0 f1 f2 f3 f4
  go_wp2
  (try simp only [Exit.inBlock, Exit.then])
  refine bodyPost_ret (v := .tuple #[.agg #[.int .i64 0, .int .u8 0, .int .i64 0, .slice none 0 0, .slice none 0 0], .int .u16 cd]) ?_ rfl ⟨rfl, ((((HB1.out.setCell (p := ⟨w.heap.size + 1, 0, none⟩) (Nat.le_succ _) _).setCell (p := ⟨w.heap.size + 1, 1, none⟩) (Nat.le_succ _) _).setCell (p := ⟨w.heap.size + 1, 2, none⟩) (Nat.le_succ _) _).setCell (p := ⟨w.heap.size + 1, 3, none⟩) (Nat.le_succ _) _).setCell (p := ⟨w.heap.size + 1, 4, none⟩) (Nat.le_succ _) _⟩
  rw [results_cell_tmp rfl]
  go_simp
  try rfl

end Go.Proofs.YtpegbgomnpinfaaGreat

/- geom.At where nothing lies; plan.of where it refuses, in every way. -/
set_option linter.unusedVariables false
namespace Go.Proofs.YtpegbgomnpinfaaGreat
open Go.RowKit

set_option maxRecDepth 100000 in
set_option maxHeartbeats 4000000 in
theorem geom_At_no (M C S : Nat) (m r : Int) (w : World) (h : geoIs M C S = true) (hb : patBad M C S ⟨m, r, []⟩ = true) : Calls Tryz.prog 108 #[geo M C S, .int .i64 m, .int .i64 r] w fun e w' => e = .returned (.tuple #[.int .i64 0, .bool false, .int .u16 3]) ∧ Below w.heap.size w w' := by
  obtain ⟨h1, h2, h3, h4, h5, h6⟩ := (geoIs_iff M C S).1 h
  have hk := Lib.hid (fun W => geom_of M C S W)
  have hro := Lib.hid (fun d W => shape_rows M C S d W h)
  unfold geoCode at hk
  rw [h] at hk
  simp only [if_true] at hk
  obtain ⟨T, hT⟩ : ∃ T, T = S * C := ⟨_, rfl⟩
  have hT2 : (S : Int) * (C : Int) = (T : Int) := by rw [hT, Int.natCast_mul]
  have hw := patBad_ways M C S T hT m r []
  rw [hb] at hw
  rw [hT2] at hro
  clear hb hT hT2
  unfold geo shp at *
  rcases hw with ⟨hbad, t1⟩ | ⟨hbad, t1, t2⟩ | ⟨hbad, t1, t2, t3⟩ | ⟨hbad, t1, t2, t3, t4⟩ | ⟨hbad, t1, t2, t3, t4⟩
  · clear hbad
    go_enter Tryz.func108, Tryz.ntmps108
    go_wp2_with (first
      | (go_at_call 153; (with_reducible refine (hk.out _).mono ?_); rintro e w1 ⟨d, rfl, hd, hb1⟩; have hsz := hb1.size; have hbb : Below w.heap.size w (w1.alloc (.cells #[.int .i64 M, .int .i64 C, .int .i64 S, .int .i64 ((M : Int) - 1)] 240)) := (below_then ((Below.refl w.heap.size w).alloc (Nat.le_refl _) _) hb1).alloc (by rw [size_alloc] at hsz; omega) _; clear hb1)
      | (go_at_call 154; (with_reducible refine (hro.out _ _).mono ?_); rintro e w2 ⟨rfl, hb2⟩; have hbb2 := below_then hbb hb2; clear hb2))
    go_ret3
    exact ⟨rfl, by first | exact hbb2 | exact hbb⟩
  · clear hbad
    go_enter Tryz.func108, Tryz.ntmps108
    go_wp2_with (first
      | (go_at_call 153; (with_reducible refine (hk.out _).mono ?_); rintro e w1 ⟨d, rfl, hd, hb1⟩; have hsz := hb1.size; have hbb : Below w.heap.size w (w1.alloc (.cells #[.int .i64 M, .int .i64 C, .int .i64 S, .int .i64 ((M : Int) - 1)] 240)) := (below_then ((Below.refl w.heap.size w).alloc (Nat.le_refl _) _) hb1).alloc (by rw [size_alloc] at hsz; omega) _; clear hb1)
      | (go_at_call 154; (with_reducible refine (hro.out _ _).mono ?_); rintro e w2 ⟨rfl, hb2⟩; have hbb2 := below_then hbb hb2; clear hb2))
    go_ret3
    exact ⟨rfl, by first | exact hbb2 | exact hbb⟩
  · clear hbad
    go_enter Tryz.func108, Tryz.ntmps108
    go_wp2_with (first
      | (go_at_call 153; (with_reducible refine (hk.out _).mono ?_); rintro e w1 ⟨d, rfl, hd, hb1⟩; have hsz := hb1.size; have hbb : Below w.heap.size w (w1.alloc (.cells #[.int .i64 M, .int .i64 C, .int .i64 S, .int .i64 ((M : Int) - 1)] 240)) := (below_then ((Below.refl w.heap.size w).alloc (Nat.le_refl _) _) hb1).alloc (by rw [size_alloc] at hsz; omega) _; clear hb1)
      | (go_at_call 154; (with_reducible refine (hro.out _ _).mono ?_); rintro e w2 ⟨rfl, hb2⟩; have hbb2 := below_then hbb hb2; clear hb2))
    go_ret3
    exact ⟨rfl, by first | exact hbb2 | exact hbb⟩
  · clear hbad
    go_enter Tryz.func108, Tryz.ntmps108
    go_wp2_with (first
      | (go_at_call 153; (with_reducible refine (hk.out _).mono ?_); rintro e w1 ⟨d, rfl, hd, hb1⟩; have hsz := hb1.size; have hbb : Below w.heap.size w (w1.alloc (.cells #[.int .i64 M, .int .i64 C, .int .i64 S, .int .i64 ((M : Int) - 1)] 240)) := (below_then ((Below.refl w.heap.size w).alloc (Nat.le_refl _) _) hb1).alloc (by rw [size_alloc] at hsz; omega) _; clear hb1)
      | (go_at_call 154; (with_reducible refine (hro.out _ _).mono ?_); rintro e w2 ⟨rfl, hb2⟩; have hbb2 := below_then hbb hb2; clear hb2))
    go_ret3
    exact ⟨rfl, by first | exact hbb2 | exact hbb⟩
  · simp at hbad

theorem bad_any {M C S : Nat} (m r : Int) (d : List UInt8) : patBad M C S ⟨m, r, d⟩ = patBad M C S ⟨m, r, []⟩ := rfl

/-- geom.At, of any member and row: an error as the patch's. -/
theorem geom_At_any (M C S : Nat) (m r : Int) (w : World) (h : geoIs M C S = true) : Calls Tryz.prog 108 #[geo M C S, .int .i64 m, .int .i64 r] w fun e w' => (∃ b p, e = .returned (.tuple #[.int .i64 b, .bool p, .int .u16 (if patBad M C S ⟨m, r, []⟩ = true then 3 else 0)])) ∧ Below w.heap.size w w' := by
  by_cases hb : patBad M C S ⟨m, r, []⟩ = true
  · rw [if_pos hb]
    exact (geom_At_no M C S m r w h hb).mono fun e w' ⟨x1, x2⟩ => ⟨⟨_, _, x1⟩, x2⟩
  · rw [if_neg hb]
    have hq : patBad M C S ⟨m, r, []⟩ = false := by simpa using hb
    unfold patBad at hq
    simp only [Bool.or_eq_false_iff, decide_eq_false_iff_not] at hq
    obtain ⟨q1, q2, q3, q4⟩ := hq
    obtain ⟨m', rfl⟩ := Int.eq_ofNat_of_zero_le (by omega : 0 ≤ m)
    obtain ⟨r', rfl⟩ := Int.eq_ofNat_of_zero_le (by omega : 0 ≤ r)
    exact geom_at_ok M C S m' r' w h (by omega) (by omega)

end Go.Proofs.YtpegbgomnpinfaaGreat

/- plan.Solve where it refuses; sums refused; the document's exclusive or of two rows. -/
set_option linter.unusedVariables false
namespace Go.Proofs.YtpegbgomnpinfaaGreat
open Go.RowKit

set_option maxRecDepth 100000 in
set_option maxHeartbeats 1000000 in
theorem xor_add_no (g gb n : Nat) (f : Nat → UInt8) (many : Int) (v : Value) (m : List UInt8) (w : World) (h : SumAt w g gb n f many) (hn : n ≤ 4096) (hv : Seg w v m) (hm : m.length ≠ n) (hml : m.length ≤ 300000) :
    Calls Tryz.prog 104 #[.pointer (some ⟨g, 0, none⟩), v] w fun e w' => e = .returned (.int .u16 4) ∧ w' = w := by
  obtain ⟨va, vc, rfl⟩ := hv.shape
  have c0 : w.cell? ⟨g, 0, none⟩ = some (.slice (some ⟨gb, 0, none⟩) n n) := h.sum.cell 0
  have hne : ((m.length : Int) != (n : Int)) = true := by simp; omega
  clear h hv hm
  go_enter Tryz.func104, Tryz.ntmps104
  go_wp2
  go_ret
  exact ⟨rfl, rfl⟩

set_option maxRecDepth 100000 in
set_option maxHeartbeats 2000000 in
theorem geom_At_form (m c s b r : Int) (w : World) (h : geoIs m c s = false) : Calls Tryz.prog 108 #[geo m c s, .int .i64 b, .int .i64 r] w fun e w' => e = .returned (.tuple #[.int .i64 0, .bool false, .int .u16 60]) ∧ Below w.heap.size w w' := by
  have hk := Lib.hid (fun W => geom_of m c s W)
  unfold geoCode at hk
  rw [h] at hk
  simp only [Bool.false_eq_true, if_false] at hk
  unfold geo shp at *
  go_enter Tryz.func108, Tryz.ntmps108
  go_wp2_with (go_at_call 153; (with_reducible refine (hk.out _).mono ?_); rintro e w1 ⟨d, rfl, hd, hb1⟩; have hsz := hb1.size; have hbb : Below w.heap.size w (w1.alloc (.cells #[.int .i64 m, .int .i64 c, .int .i64 s, .int .i64 d] 240)) := (below_then ((Below.refl w.heap.size w).alloc (Nat.le_refl _) _) hb1).alloc (by rw [size_alloc] at hsz; omega) _; clear hb1)
  go_ret3
  exact ⟨rfl, hbb⟩

/-- Is the k-th row, if it is asked, of another length? -/
def shortBut (mem : Int) (ls : List (List UInt8)) (k : Nat) : Bool := ((k : Int) != mem) && decide ((ls.getD k []).length ≠ 128)
/-- Solve's code. -/
def solveCode (m c s row mem : Int) (ls : List (List UInt8)) : Nat :=
  if geoIs m c s = false then 60 else
  if patBad m.toNat c.toNat s.toNat ⟨mem, row, []⟩ = true then 3 else
  if (ls.length : Int) ≠ m then 1 else
  if (List.range ls.length).any (shortBut mem ls) = true then 4 else 0
theorem solve_le (m c s row mem : Int) (ls : List (List UInt8)) : solveCode m c s row mem ls ≤ 60 := by
  unfold solveCode
  repeat (first | split | omega)

set_option maxRecDepth 100000 in
set_option maxHeartbeats 4000000 in
theorem plan_Solve_no (m c s row mem : Int) (vrd : Value) (ls : List (List UInt8)) (w : World) (hls : Segs w vrd ls) (hfew : ls.length ≤ 300000) (hll : ∀ l ∈ ls, l.length ≤ 300000) (hz : solveCode m c s row mem ls ≠ 0) :
    Calls Tryz.prog 34 #[geo m c s, .int .i64 row, .int .i64 mem, vrd] w fun e w' => e = .returned (.tuple #[.slice none 0 0, .int .u16 (solveCode m c s row mem ls : Nat)]) ∧ Below w.heap.size w w' := by
  have hb0 : Below w.heap.size w (w.alloc (.cells #[.int .i64 m, .int .i64 c, .int .i64 s] 23)) := (Below.refl _ _).alloc (Nat.le_refl _) _
  have HG0 : Hid (At (w.alloc (.cells #[.int .i64 m, .int .i64 c, .int .i64 s] 23)) w.heap.size #[.int .i64 m, .int .i64 c, .int .i64 s] 23) := At.new _ _ _
  have HB0 := Lib.hid hb0
  cases hg : geoIs m c s
  · have HE : Hid (solveCode m c s row mem ls = 60) := by show solveCode m c s row mem ls = 60; unfold solveCode; rw [if_pos hg]
    have hat := Lib.hid (fun W => geom_At_form m c s mem row W hg)
    obtain ⟨sa, sc, rfl⟩ := hls.shape
    rw [HE.out]
    clear hls hll hz hb0 hg
    unfold geo at *
    go_enter Tryz.func34, Tryz.ntmps34
    go_wp2_with (go_at_call 108; (with_reducible refine (hat.out _).mono ?_); rintro e w1 ⟨rfl, hb1⟩; have HB1 := Lib.hid (below_then HB0.out hb1); clear hb1)
    go_ret2
    exact ⟨rfl, HB1.out⟩
  · obtain ⟨h1, h2, h3, h4, h5, h6⟩ := (geoIs_iff m c s).1 hg
    obtain ⟨M, rfl⟩ := Int.eq_ofNat_of_zero_le (by omega : 0 ≤ m)
    obtain ⟨C, rfl⟩ := Int.eq_ofNat_of_zero_le (by omega : 0 ≤ c)
    obtain ⟨S, rfl⟩ := Int.eq_ofNat_of_zero_le (by omega : 0 ≤ s)
    have hat := Lib.hid (fun W => geom_At_any M C S mem row W hg)
    have hco : solveCode M C S row mem ls = if patBad M C S ⟨mem, row, []⟩ = true then 3 else if (ls.length : Int) ≠ (M : Int) then 1 else if (List.range ls.length).any (shortBut mem ls) = true then 4 else 0 := by
      unfold solveCode
      rw [if_neg (by simp [hg])]
      rfl
    rw [hco] at hz ⊢
    clear hco
    cases hbad : patBad M C S ⟨mem, row, []⟩
    · simp only [hbad, Bool.false_eq_true, if_false] at hat hz ⊢
      by_cases hlm : (ls.length : Int) = (M : Int)
      · rw [if_neg (by simp [hlm])] at hz ⊢
        have hany : (List.range ls.length).any (shortBut mem ls) = true := by
          cases e : (List.range ls.length).any (shortBut mem ls)
          · rw [e] at hz; simp at hz
          · rfl
        rw [if_pos hany]
        have HANY := Lib.hid hany
        have hnew := Lib.hid (fun W => xor_new 128 W (by omega))
        simp only [show ((128 : Nat) : Int) = 128 from rfl] at hnew
        have HLS := Lib.hid hls
        have HLL := Lib.hid hll
        have hlm2 : ls.length = M := by omega
        obtain ⟨sa, sc, rfl⟩ := hls.shape
        rw [hlm2]
        have hne : ((M : Int) != (M : Int)) = false := by simp
        have HLM := Lib.hid hlm2
        clear hls hll hz hb0 hany hlm hlm2
        unfold geo at *
        go_enter Tryz.func34, Tryz.ntmps34
        go_wp2_with (first
          | (go_at_call 108; (with_reducible refine (hat.out _).mono ?_); rintro e w1 ⟨⟨zb, zp, rfl⟩, hb1⟩; have hg1 := HG0.out.below hb1 HG0.out.lt; have c0 := hg1.cell 0; have HB1 := Lib.hid (below_then HB0.out hb1); clear hg1 hb1)
          | (go_at_call 103; (with_reducible refine (hnew.out _).mono ?_); rintro e w7 ⟨g, gb, rfl, hsum, hg1, hg2, hb7⟩; have HS7 := Lib.hid hsum; have HB7 := Lib.hid hb7; clear hsum hb7 c0))
        have HSS := Lib.hid (HLS.out.below HB1.out)
        clear HLS hne hat hnew HG0 HB0
        go_loopw [39] (fun t wr => ∃ (k : Nat) (many : Int) (f : Nat → UInt8), k ≤ M ∧ t = .int .i64 k ∧ 0 ≤ many ∧ many ≤ k ∧ (List.range k).any (shortBut mem ls) = false ∧ SumAt wr g gb 128 f many ∧ Below w1.heap.size w1 wr) (fun t _ => M - (intOf t).toNat)
        case atStart => exact ⟨0, 0, _, by omega, rfl, by omega, by omega, rfl, HS7.out, HB7.out⟩
        case round =>
          obtain ⟨k, many, f, hk', rfl, hm0, hm1, hno, hs, hbw⟩ := hrel
          have HS := Lib.hid hs
          have HBW := Lib.hid hbw
          have HNO := Lib.hid hno
          clear hs HS7 HB7 hno
          have hM16 : M ≤ 16 := by omega
          by_cases hkn : k < M
          · have K1 : Hid (k + 1 ≤ M) := hkn
            have hkl : k < ls.length := by have := HLM.out; omega
            obtain ⟨sb, so, sc', hve, hslt, hsx⟩ := Segs.full (HSS.out.below hbw) (by omega)
            simp only [Value.slice.injEq] at hve
            obtain ⟨rfl, hq0, rfl⟩ := hve
            clear hq0
            obtain ⟨u, d0, hu⟩ := hsx k hkl
            have hgl : ls.getD k [] = ls[k]'hkl := by rw [List.getD_eq_getElem?_getD, List.getElem?_eq_getElem hkl]; rfl
            have hlen := HLL.out _ (List.getElem_mem hkl)
            rw [← hgl] at hu hlen
            have hst : (List.range (k + 1)).any (shortBut mem ls) = shortBut mem ls k := by rw [List.range_succ, List.any_append, HNO.out]; simp
            have HST := Lib.hid hst
            obtain ⟨ua, uc, rfl⟩ := hu.shape
            clear hst
            by_cases hkk : (k : Int) = mem
            · have hq : ((k : Int) != mem) = false := by simp [hkk]
              have HSB : Hid (shortBut mem ls k = false) := by show shortBut mem ls k = false; unfold shortBut; rw [hq]; rfl
              clear hsx hu hgl hkk
              generalize (ls.getD k []).length = un at *
              as_aux_lemma =>
                go_wp2
                exact ⟨⟨k + 1, many, f, K1.out, by go_num, hm0, by omega, HST.out.trans HSB.out, HS.out, HBW.out⟩, by simp [intOf]; omega⟩
            · have hq : ((k : Int) != mem) = true := by simp [hkk]
              by_cases hl128 : (ls.getD k []).length = 128
              · have HSB : Hid (shortBut mem ls k = false) := by show shortBut mem ls k = false; unfold shortBut; rw [hl128]; simp
                obtain ⟨b6, o6, c6, hv6, hb6⟩ : ∃ b6 o6 c6, (Value.slice ua (ls.getD k []).length uc) = .slice (some ⟨b6, o6, none⟩) (ls.getD k []).length c6 ∧ b6 < w1.heap.size := by
                  obtain ⟨sb', so', sc'', hve', hslt', hsx'⟩ := Segs.full HSS.out (by omega)
                  simp only [Value.slice.injEq, Option.some.injEq, Addr.mk.injEq, and_true] at hve'
                  obtain ⟨⟨rfl, rfl⟩, -, rfl⟩ := hve'
                  obtain ⟨u', e1, e2⟩ := hsx' k hkl
                  have e3 := (hbw.cell (p := ⟨sb, so + k, none⟩) hslt').trans e1
                  rw [d0] at e3
                  simp only [Option.some.injEq] at e3
                  rw [← e3, ← hgl] at e2
                  obtain ⟨b6, o6, c6, h1, h2, -⟩ := Seg.full e2 (by omega)
                  exact ⟨b6, o6, c6, h1, h2⟩
                simp only [Value.slice.injEq, true_and] at hv6
                obtain ⟨rfl, rfl⟩ := hv6
                have hAdd := Lib.hid (xor_add g gb 128 _ many (.slice (some ⟨b6, o6, none⟩) (ls.getD k []).length uc) (ls.getD k []) wr HS.out (by omega) hu hl128 (fun a q c hv => by simp only [Value.slice.injEq, Option.some.injEq] at hv; rw [← hv.1]; show b6 ≠ gb; omega) (by omega) (by omega))
                rw [hl128] at d0 hAdd
                clear hsx hu hgl hl128 hlen
                as_aux_lemma =>
                  go_wp2_with (go_at_call 104; (with_reducible refine hAdd.out.mono ?_); rintro e w8 ⟨rfl, hs8, hc8⟩)
                  exact ⟨⟨k + 1, many + 1, _, K1.out, by go_num, by omega, by omega, HST.out.trans HSB.out, hs8, Chg.own HBW.out hc8 (fun q hq => by rcases hq with rfl | rfl <;> assumption)⟩, by simp [intOf]; omega⟩
              · have hAdd := Lib.hid (xor_add_no g gb 128 f many (.slice ua (ls.getD k []).length uc) (ls.getD k []) wr HS.out (by omega) hu hl128 hlen)
                clear hsx hu hgl hl128
                generalize (ls.getD k []).length = un at *
                as_aux_lemma =>
                  go_wp2_with (go_at_call 104; (with_reducible refine hAdd.out.mono ?_); rintro e w8 ⟨rfl, rfl⟩)
                  go_ret2
                  exact ⟨rfl, below_then HB1.out HBW.out⟩
          · exfalso
            have h1 := HANY.out
            have h2 := HNO.out
            have e : k = ls.length := by have := HLM.out; omega
            rw [e, h1] at h2
            cases h2
      · rw [if_pos hlm] at hz ⊢
        have hne : ((ls.length : Int) != (M : Int)) = true := by simpa using hlm
        obtain ⟨sa, sc, rfl⟩ := hls.shape
        clear hls hll hz hb0 hlm
        unfold geo at *
        go_enter Tryz.func34, Tryz.ntmps34
        go_wp2_with (first
          | (go_at_call 108; (with_reducible refine (hat.out _).mono ?_); rintro e w1 ⟨⟨zb, zp, rfl⟩, hb1⟩; have hg1 := HG0.out.below hb1 HG0.out.lt; have c0 := hg1.cell 0; have HB1 := Lib.hid (below_then HB0.out hb1); clear hg1 hb1))
        go_ret2
        exact ⟨rfl, HB1.out⟩
    · simp only [hbad, if_true] at hat hz ⊢
      obtain ⟨sa, sc, rfl⟩ := hls.shape
      clear hls hll hz hb0
      unfold geo at *
      go_enter Tryz.func34, Tryz.ntmps34
      go_wp2_with (first
        | (go_at_call 108; (with_reducible refine (hat.out _).mono ?_); rintro e w1 ⟨⟨zb, zp, rfl⟩, hb1⟩; have HB1 := Lib.hid (below_then HB0.out hb1); clear hb1))
      go_ret2
      exact ⟨rfl, HB1.out⟩

set_option maxRecDepth 100000 in
set_option maxHeartbeats 2000000 in
/-- Two rows of one length, laid together. -/
theorem ref_mixed (va vb : Value) (f : Nat → UInt8) (n : Nat) (lb : List UInt8) (w : World) (ha : Seg w va (sumL f n)) (hb : Seg w vb lb) (hl : lb.length = n) (hn : n ≤ 4096) :
    Calls Tryz.prog 112 #[va, vb] w fun e w' => (∃ v, e = .returned v ∧ w'.ownsRow w.heap.size 5 1 v n (ucells (sumL (fun i => f i ^^^ lb.getD i 0) n))) ∧ Below w.heap.size w w' := by
  have HA := Lib.hid ha
  have HB := Lib.hid hb
  obtain ⟨aa, ac, hae⟩ := ha.shape
  rw [sumL_length] at hae
  subst hae
  obtain ⟨ba, bc, rfl⟩ := hb.shape
  rw [hl]
  have HL := Lib.hid hl
  clear ha hb hl
  go_enter Tryz.func112, Tryz.ntmps112
  go_wp2_with fail
  go_loopw [5, 6] (fun x q wx => ∃ k : Nat, k ≤ n ∧ q = .int .i64 k ∧ wx.ownsRow w.heap.size 5 1 x k (ucells (sumL (fun i => f i ^^^ lb.getD i 0) k)) ∧ Below w.heap.size w wx) (fun _ q _ => n - (intOf q).toNat)
  case atStart => exact ⟨0, by omega, rfl, World.ownsRow_nil _ _ _ _, Below.refl _ _⟩
  case round =>
    obtain ⟨k, hk, rfl, hown, hbw⟩ := hrel
    have HO := Lib.hid hown
    have HBW := Lib.hid hbw
    clear hown
    by_cases hkn : k < n
    · have K1 : Hid (k + 1 ≤ n) := hkn
      obtain ⟨b1, o1, rfl, hb1, h1⟩ := Seg.full' HA.out (by rw [sumL_length]; omega)
      have hbz := HB.out
      rw [HL.out] at hbz
      obtain ⟨b2, o2, rfl, hb2, h2⟩ := Seg.full' hbz (by have := HL.out; omega)
      have c1 := h1 k (by rw [sumL_length]; exact hkn)
      have c2 := h2 k (by have := HL.out; omega)
      have e1 : (sumL f n)[k]'(by rw [sumL_length]; exact hkn) = f k := by simp [sumL]
      rw [e1] at c1
      have HG : Hid (lb.getD k 0 = lb[k]'(by have := HL.out; omega)) := by
        show lb.getD k 0 = _
        rw [List.getD_eq_getElem?_getD, List.getElem?_eq_getElem (by have := HL.out; omega)]; rfl
      have HSUM : Hid (ucells (sumL (fun i => f i ^^^ lb.getD i 0) (k + 1)) = ucells (sumL (fun i => f i ^^^ lb.getD i 0) k) ++ [.int .u8 (((f k ^^^ lb.getD k 0).toNat : Nat) : Int)]) := by
        show _ = _
        unfold sumL ucells
        rw [List.range_succ, List.map_append, List.map_append]
        rfl
      rw [HG.out] at HSUM
      clear h1 h2 hbz e1 HG
      generalize f k = x at *
      generalize (lb[k]'(by have := HL.out; omega)) = y at *
      have hbx := bits_xor8 x y
      obtain ⟨z, hz⟩ : ∃ z : Nat, z = (x ^^^ y).toNat := ⟨_, rfl⟩
      rw [← hz] at hbx HSUM
      clear hz
      have HK : Hid (∀ X, Below w.heap.size w X → X.cell? ⟨b1, o1 + k, none⟩ = some (.int .u8 ((x.toNat : Nat) : Int)) ∧ X.cell? ⟨b2, o2 + k, none⟩ = some (.int .u8 ((y.toNat : Nat) : Int))) := fun X hX =>
        ⟨(hX.cell (p := ⟨b1, o1 + k, none⟩) hb1).trans c1, (hX.cell (p := ⟨b2, o2 + k, none⟩) hb2).trans c2⟩
      have HOD : Hid (wr.drew.ownsRow w.heap.size 5 1 u5 k (ucells (sumL (fun i => f i ^^^ lb.getD i 0) k))) := ownsRow_below HO.out (Below.refl _ _).drew (Nat.le_refl _)
      have HOA : Hid ((wr.drew.alloc (.cells #[.int .u8 (z : Int)] 5)).ownsRow w.heap.size 5 1 u5 k (ucells (sumL (fun i => f i ^^^ lb.getD i 0) k))) := ownsRow_below HOD.out ((Below.refl _ _).alloc (Nat.le_refl _) _) (Nat.le_refl _)
      have HD : Hid (Below w.heap.size w wr.drew) := HBW.out.drew
      have HDA : Hid (Below w.heap.size w (wr.drew.alloc (.cells #[.int .u8 (z : Int)] 5))) := HD.out.alloc HD.out.size _
      have HNEW := Lib.hid (new_one wr.drew (.int .u8 (z : Int)) 5)
      clear c1 c2
      go_wp2_with fail
      go_region_held3 (fun w' => w'.cell? ⟨b1, o1 + k, none⟩ = some (.int .u8 ((x.toNat : Nat) : Int)) ∧ w'.cell? ⟨b2, o2 + k, none⟩ = some (.int .u8 ((y.toNat : Nat) : Int)))
        (first | with_reducible exact HK.out _ HBW.out | with_reducible exact HK.out _ HD.out | exact HK.out _ HDA.out | with_reducible exact HK.out _ HB4.out)
        (first
          | (rw [if_pos (by rfl)]; refine wp_append_keeps _ _ 53 5 1 1 rfl slice_bytes w.heap.size u5 k _ rfl HOA.out _ 1 1 [.int .u8 (z : Int)] rfl rfl (HNEW.out _ rfl) (by intro u hu; rw [List.mem_singleton] at hu; subst hu; rfl) (by unfold maxLen; omega) (by omega) HDA.out.size (by omega) ?_; intro v' w10 hrow10 hvb10 hc10; have HB4 : Hid (Below w.heap.size w w10) := Chg.own HDA.out hc10 (fun q hq => (HOA.out.lt q hq).1); have HROW := Lib.hid hrow10; clear hrow10 hvb10 hc10))
      go_wp2_with fail
      go_roundw
      case measure => simp [intOf]; omega
      exact ⟨k + 1, K1.out, by go_num, by rw [HSUM.out]; exact HROW.out, HB4.out⟩
    · obtain rfl : k = n := by omega
      go_wp2_with fail
      go_ret
      exact ⟨⟨_, rfl, HO.out⟩, HBW.out⟩

end Go.Proofs.YtpegbgomnpinfaaGreat
