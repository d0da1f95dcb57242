/- spindleref13's Work, where it refuses. -/
import Derived.Test.YtpegbgomnpinfaaGreatWrkH
import Derived.Test.YtpegbgomnpinfaaGreatPlyP
import Derived.Test.YtpegbgomnpinfaaGreatMrg12
import Derived.Test.YtpegbgomnpinfaaGreatWrkT
set_option linter.unusedVariables false
namespace Go.Proofs.YtpegbgomnpinfaaGreat
open Go.RowKit

set_option maxRecDepth 100000 in
set_option maxHeartbeats 2000000 in
theorem ref_Work_form (m c s r md par : Int) (ad : Option Addr) (nd cd' : Nat) (aq ar al : Option Addr) (nq cq nr cr nl cl : Nat) (w : World) (h : geoIs m c s = false) :
    Calls Tryz.prog 39 #[geo m c s, .slice ad nd cd', planVal r md par (.slice aq nq cq) (.slice ar nr cr), .slice al nl cl] w fun e w' => e = .returned (.tuple #[.slice none 0 0, .int .i64 60]) ∧ Below w.heap.size w w' := by
  have hk := Lib.hid (fun W => ref_check m c s W)
  unfold geoCode at hk
  rw [h] at hk
  simp only [Bool.false_eq_true, if_false] at hk
  have HB0 : Hid (Below w.heap.size w ((w.alloc (.cells #[.int .i64 m, .int .i64 c, .int .i64 s] 23)).alloc (.cells #[.int .i64 r, .int .u8 md, .int .i64 par, .slice aq nq cq, .slice ar nr cr] 75))) := ((Below.refl _ _).alloc (Nat.le_refl _) _).alloc (by rw [size_alloc]; omega) _
  unfold geo planVal at *
  go_enter Tryz.func39, Tryz.ntmps39
  go_wp2_with (go_at_call 44; (with_reducible refine (hk.out _).mono ?_); rintro e w1 ⟨rfl, hb1⟩; have HB1 := Lib.hid (below_then HB0.out hb1); clear hb1)
  go_ret2
  exact ⟨rfl, HB1.out⟩

set_option maxRecDepth 100000 in
set_option maxHeartbeats 4000000 in
theorem ref_Work_ref (m c s r md par : Int) (vd vq vr : Value) (l : List Bool) (ps : List Pat) (zl : List Int) (al : Option Addr) (nl cl : Nat) (w : World) (hg : geoIs m c s = true) (hd : BooSeg w vd l) (hq : PSeg w vq ps) (hz : ZSeg w vr zl) (hn : ps.length ≤ 300000) (hzl : zl.length ≤ 1000000) (h : planCode m c s l ps ≠ 0) :
    Calls Tryz.prog 39 #[geo m c s, vd, planVal r md par vq vr, .slice al nl cl] w fun e w' => e = .returned (.tuple #[.slice none 0 0, .int .i64 1]) ∧ Below w.heap.size w w' := by
  have hk := Lib.hid (fun W => ref_check m c s W)
  unfold geoCode at hk
  rw [hg] at hk
  simp only [if_true] at hk
  have hle := code_le m c s l ps
  have hof : Hid (∀ W, Below w.heap.size w W → _) := fun W hW => ref_Of_no m c s vd vq l ps W (hd.below hW) (hq.below hW) h
  have hsp : Hid (∀ W, Below w.heap.size w W → _) := fun W hW => ref_samePlan r md par 0 0 0 vq vr (.slice none 0 0) (.slice none 0 0) ps [] zl [] W (hq.below hW) (PSeg.nil _) (hz.below hW) (ZSeg.nil _) hn (by simp) hzl (by simp) (fun e => List.eq_nil_of_length_eq_zero e) (fun p hp => by cases hp)
  generalize planCode m c s l ps = cd at *
  generalize (decide (ps.length = ([] : List Pat).length) && headIs r md par 0 0 0 zl []) = sb at *
  have hne : ((cd : Int) != 0) = true := by simp; omega
  obtain ⟨da, dc, rfl⟩ := hd.shape
  obtain ⟨qa, qc, rfl⟩ := hq.shape
  obtain ⟨ra, rc, rfl⟩ := hz.shape
  obtain ⟨w0, hw0⟩ : ∃ w0, w0 = (w.alloc (.cells #[.int .i64 m, .int .i64 c, .int .i64 s] 23)).alloc (.cells #[.int .i64 r, .int .u8 md, .int .i64 par, .slice qa ps.length qc, .slice ra zl.length rc] 75) := ⟨_, rfl⟩
  have HB0 : Hid (Below w.heap.size w w0) := by rw [hw0]; exact ((Below.refl _ _).alloc (Nat.le_refl _) _).alloc (by rw [size_alloc]; omega) _
  have HG0 : Hid (At w0 w.heap.size #[.int .i64 m, .int .i64 c, .int .i64 s] 23) := by rw [hw0]; exact (At.new _ _ _).alloc _
  have HP0 : Hid (At w0 (w.heap.size + 1) #[.int .i64 r, .int .u8 md, .int .i64 par, .slice qa ps.length qc, .slice ra zl.length rc] 75) := by rw [hw0]; exact At.new2 _ _ _ _
  clear hd hq hz h
  unfold geo planVal noPlan at *
  go_enter Tryz.func39, Tryz.ntmps39
  go_upto_region 1 with fail
  rw [← hw0]
  clear hw0
  have c0 := HG0.out.cell 0
  have c1 := HG0.out.cell 1
  have c2 := HG0.out.cell 2
  go_wp2_with (first
    | (go_at_call 44; (with_reducible refine (hk.out _).mono ?_); rintro e w1 ⟨rfl, hb1⟩; clear c0 c1 c2; have hg1 := HG0.out.below hb1 HG0.out.lt; have hp1 := HP0.out.below hb1 HP0.out.lt; have c0 := hg1.cell 0; have c1 := hg1.cell 1; have c2 := hg1.cell 2; have c3 := hp1.cell 3; have HP1 := Lib.hid hp1; have HB1 := Lib.hid (below_then HB0.out hb1); clear hg1 hp1 hb1)
    | (go_at_call 26; (with_reducible refine (hof.out _ HB1.out).mono ?_); rintro e w4 ⟨rfl, hb4⟩; have HB5 := Lib.hid ((below_then HB1.out hb4).alloc (below_then HB1.out hb4).size (.cells #[.int .i64 0, .int .u8 0, .int .i64 0, .slice none 0 0, .slice none 0 0] 75)); have hA5 := (HP1.out.below hb4 HP1.out.lt).alloc (.cells #[.int .i64 0, .int .u8 0, .int .i64 0, .slice none 0 0, .slice none 0 0] 75); have hQ5 := At.new w4 #[.int .i64 0, .int .u8 0, .int .i64 0, .slice none 0 0, .slice none 0 0] 75; have a0 := hA5.cell 0; have a1 := hA5.cell 1; have a2 := hA5.cell 2; have a3 := hA5.cell 3; have a4 := hA5.cell 4; have b0 := hQ5.cell 0; have b1 := hQ5.cell 1; have b2 := hQ5.cell 2; have b3 := hQ5.cell 3; have b4 := hQ5.cell 4; clear hA5 hQ5 hb4 c0 c1 c2 c3)
    | (go_at_call 111; (with_reducible refine (hsp.out _ HB5.out).mono ?_); rintro e w6 ⟨rfl, hb6⟩; have HB6 := Lib.hid (below_then HB5.out hb6); clear hb6))
  go_ret2
  exact ⟨rfl, HB6.out⟩

theorem orow_pseg {w : World} {B : Nat} {v : Value} {X : List OP} {ps : List Pat} (h : ORow w B v X) (e : X.map (·.1) = ps) (hl : ps.length ≤ 16) : PSeg w v ps := by
  have hx := congrArg List.length e
  rw [List.length_map] at hx
  have := h.pseg (by omega)
  rwa [e] at this
theorem orow_trow {w : World} {B : Nat} {v : Value} {X : List OP} (h : ORow w B v X) : TRow w v X := ⟨rebase_row h.row (Nat.zero_le _), fun x hx => rebase_row (h.dat x hx) (Nat.zero_le _)⟩
theorem head_reads {r md par r' md' par' : Int} {zl zl' : List Int} (h : headIs r md par r' md' par' zl zl' = true) : zl = zl' := by
  unfold headIs at h
  simp only [Bool.and_eq_true, decide_eq_true_eq] at h
  exact h.2.2.2
theorem head_is {r md par r' md' par' : Int} {zl zl' : List Int} (h : headIs r md par r' md' par' zl zl' = true) : r = r' ∧ md = md' ∧ par = par' := by
  unfold headIs at h
  simp only [Bool.and_eq_true, decide_eq_true_eq] at h
  exact ⟨h.1, h.2.1, h.2.2.1⟩

set_option maxRecDepth 100000 in
set_option maxHeartbeats 8000000 in
theorem ref_Work_bad (M C S rr : Nat) (r md par : Int) (vd vq vr vrd : Value) (l : List Bool) (ps : List Pat) (zl : List Int) (ls : List (List UInt8)) (w : World) (ok : PlanOk M C S (bitOf l) ps rr) (hl : l.length = M) (hz0 : planCode M C S l ps = 0) (z : Int) (hgz : GoneIs (bitOf l) M z) (hzl : zl.length ≤ 1000000) (hlf : ls.length ≤ 300000) (hll : ∀ l ∈ ls, l.length ≤ 300000)
    (hd : BooSeg w vd l) (hq : PSeg w vq ps) (hz : ZSeg w vr zl) (hls : Segs w vrd ls) (L : List Nat) (hL : L = readsOf ps (parOf M C rr) M (modeOf M ps (parOf M C rr) z))
    (bad : headIs r md par rr (modeOf M ps (parOf M C rr) z : Nat) (parOf M C rr : Nat) zl (L.map fun x : Nat => (x : Int)) = false ∨ ls.length ≠ M) :
    Calls Tryz.prog 39 #[geo M C S, vd, planVal r md par vq vr, vrd] w fun e w' => e = .returned (.tuple #[.slice none 0 0, .int .i64 1]) ∧ Below w.heap.size w w' := by
  have h16 := (geoIs_iff M C S).1 ok.hg
  have hfew := ok.few
  have hLl : L.length ≤ 16 := by rw [hL]; have := readsOf_length ps (parOf M C rr) M (modeOf M ps (parOf M C rr) z); omega
  have hk := Lib.hid (fun W => ref_check M C S W)
  unfold geoCode at hk
  rw [ok.hg] at hk
  simp only [if_true] at hk
  have hof : Hid (∀ W, Below w.heap.size w W → _) := fun W hW => ref_Of_ok M C S rr vd vq l ps W ok hl hz0 (hd.below hW) (hq.below hW) z hgz
  rw [← hL] at hof
  have HOK := Lib.hid ok
  generalize parOf M C rr = qpar at *
  generalize modeOf M ps qpar z = qmd at *
  have hlk : Hid (∀ (W : World) vq' vr', Below w.heap.size w W → PSeg W vq' ps → ZSeg W vr' (L.map fun x : Nat => (x : Int)) → _) := fun W vq' vr' hW h1 h2 => ref_samePlan r md par rr qmd qpar vq vr vq' vr' ps ps zl _ W (hq.below hW) h1 (hz.below hW) h2 (by omega) (by omega) hzl (by rw [List.length_map]; omega) (fun _ => rfl) ok.len
  rw [decide_eq_true rfl, Bool.true_and] at hlk
  generalize hhd : headIs r md par rr qmd qpar zl (L.map fun x : Nat => (x : Int)) = hb at *
  have HD := Lib.hid hd
  obtain ⟨qa, qc, rfl⟩ := hq.shape
  obtain ⟨da, dc, rfl⟩ := hd.shape
  obtain ⟨ra, rc, rfl⟩ := hz.shape
  obtain ⟨sa, sc, rfl⟩ := hls.shape
  rw [hl] at hof ⊢
  have hps : ps.length ≤ 16 := by omega
  obtain ⟨w0, hw0⟩ : ∃ w0, w0 = (w.alloc (.cells #[.int .i64 M, .int .i64 C, .int .i64 S] 23)).alloc (.cells #[.int .i64 r, .int .u8 md, .int .i64 par, .slice qa ps.length qc, .slice ra zl.length rc] 75) := ⟨_, rfl⟩
  have HB0 : Hid (Below w.heap.size w w0) := by rw [hw0]; exact ((Below.refl _ _).alloc (Nat.le_refl _) _).alloc (by rw [size_alloc]; omega) _
  have HG0 : Hid (At w0 w.heap.size #[.int .i64 M, .int .i64 C, .int .i64 S] 23) := by rw [hw0]; exact (At.new _ _ _).alloc _
  have HP0 : Hid (At w0 (w.heap.size + 1) #[.int .i64 r, .int .u8 md, .int .i64 par, .slice qa ps.length qc, .slice ra zl.length rc] 75) := by rw [hw0]; exact At.new2 _ _ _ _
  have HLQ : Hid (hb = false ∨ ((ls.length : Int) != (M : Int)) = true) := bad.imp id (fun h => by simp; omega)
  clear hd hq hz hls hL bad hgz hhd ok
  unfold geo planVal at *
  go_enter Tryz.func39, Tryz.ntmps39
  go_upto_region 1 with fail
  rw [← hw0]
  clear hw0
  have c0 := HG0.out.cell 0
  have c1 := HG0.out.cell 1
  have c2 := HG0.out.cell 2
  cases hb
  · go_upto_region 6 with (first
      | (go_at_call 44; (with_reducible refine (hk.out _).mono ?_); rintro e w1 ⟨rfl, hb1⟩; clear c0 c1 c2; have hg1 := HG0.out.below hb1 HG0.out.lt; have hp1 := HP0.out.below hb1 HP0.out.lt; have c0 := hg1.cell 0; have c1 := hg1.cell 1; have c2 := hg1.cell 2; have c3 := hp1.cell 3; have HP1 := Lib.hid hp1; have HG1 := Lib.hid hg1; have HB1 := Lib.hid (below_then HB0.out hb1); clear hg1 hp1 hb1)
      | (go_at_call 26; (with_reducible refine (hof.out _ HB1.out).mono ?_); rintro e w4 ⟨⟨vq', vr', XQ, rfl, hor, hxq, hri⟩, hb4⟩; have hpr : PSeg w4 vq' ps := orow_pseg hor hxq hps; have htq := orow_trow hor; have HXQ := Lib.hid hxq; clear hor hxq; obtain ⟨qa', qc', rfl⟩ := hpr.shape; obtain ⟨ra', rc', rfl⟩ := ownsRow_shape hri; have hal := (Below.refl w4.heap.size w4).alloc (Nat.le_refl _) (.cells #[.int .i64 rr, .int .u8 qmd, .int .i64 qpar, .slice qa' ps.length qc', .slice ra' L.length rc'] 75); have HB5 := Lib.hid (below_then (below_then HB1.out hb4) hal); have hA5 := (HP1.out.below hb4 HP1.out.lt).alloc (.cells #[.int .i64 rr, .int .u8 qmd, .int .i64 qpar, .slice qa' ps.length qc', .slice ra' L.length rc'] 75); have HG5 := Lib.hid ((HG1.out.below hb4 HG1.out.lt).alloc (.cells #[.int .i64 rr, .int .u8 qmd, .int .i64 qpar, .slice qa' ps.length qc', .slice ra' L.length rc'] 75)); have hQ5 := At.new w4 #[.int .i64 rr, .int .u8 qmd, .int .i64 qpar, .slice qa' ps.length qc', .slice ra' L.length rc'] 75; have a0 := hA5.cell 0; have a1 := hA5.cell 1; have a2 := hA5.cell 2; have a3 := hA5.cell 3; have a4 := hA5.cell 4; have b0 := hQ5.cell 0; have b1 := hQ5.cell 1; have b2 := hQ5.cell 2; have b3 := hQ5.cell 3; have b4 := hQ5.cell 4; have HPR5 := Lib.hid (hpr.below hal); have HTQ5 := Lib.hid (htq.below hal); clear htq; have HRI5 := Lib.hid (ownsRow_below hri hal (Nat.le_refl _)); have HA5 := Lib.hid hA5; have HQ5 := Lib.hid hQ5; have HL5 := Lib.hid (hlk.out _ _ _ HB5.out HPR5.out (zseg_of_members HRI5.out)); clear hA5 hQ5 hpr hri hb4 hal c0 c1 c2 c3)
      | (go_at_call 111; (with_reducible refine HL5.out.mono ?_); rintro e w6 ⟨rfl, hb6⟩; have HB6 := Lib.hid (below_then HB5.out hb6); have HG6 := Lib.hid (HG5.out.below hb6 HG5.out.lt); have HA6 := Lib.hid (HA5.out.below hb6 HA5.out.lt); have HQ6 := Lib.hid (HQ5.out.below hb6 HQ5.out.lt); have HPR6 := Lib.hid (HPR5.out.below hb6); have HTQ6 := Lib.hid (HTQ5.out.below hb6); have HRI6 := Lib.hid (iseg_of_members (ownsRow_below HRI5.out hb6 (Nat.le_refl _))); clear hb6 a0 a1 a2 a3 a4 b0 b1 b2 b3 b4 HL5))
    go_wp2
    go_ret2
    exact ⟨rfl, HB6.out⟩
  · have hne := HLQ.out.resolve_left (by simp)
    go_upto_region 6 with (first
      | (go_at_call 44; (with_reducible refine (hk.out _).mono ?_); rintro e w1 ⟨rfl, hb1⟩; clear c0 c1 c2; have hg1 := HG0.out.below hb1 HG0.out.lt; have hp1 := HP0.out.below hb1 HP0.out.lt; have c0 := hg1.cell 0; have c1 := hg1.cell 1; have c2 := hg1.cell 2; have c3 := hp1.cell 3; have HP1 := Lib.hid hp1; have HG1 := Lib.hid hg1; have HB1 := Lib.hid (below_then HB0.out hb1); clear hg1 hp1 hb1)
      | (go_at_call 26; (with_reducible refine (hof.out _ HB1.out).mono ?_); rintro e w4 ⟨⟨vq', vr', XQ, rfl, hor, hxq, hri⟩, hb4⟩; have hpr : PSeg w4 vq' ps := orow_pseg hor hxq hps; have htq := orow_trow hor; have HXQ := Lib.hid hxq; clear hor hxq; obtain ⟨qa', qc', rfl⟩ := hpr.shape; obtain ⟨ra', rc', rfl⟩ := ownsRow_shape hri; have hal := (Below.refl w4.heap.size w4).alloc (Nat.le_refl _) (.cells #[.int .i64 rr, .int .u8 qmd, .int .i64 qpar, .slice qa' ps.length qc', .slice ra' L.length rc'] 75); have HB5 := Lib.hid (below_then (below_then HB1.out hb4) hal); have hA5 := (HP1.out.below hb4 HP1.out.lt).alloc (.cells #[.int .i64 rr, .int .u8 qmd, .int .i64 qpar, .slice qa' ps.length qc', .slice ra' L.length rc'] 75); have HG5 := Lib.hid ((HG1.out.below hb4 HG1.out.lt).alloc (.cells #[.int .i64 rr, .int .u8 qmd, .int .i64 qpar, .slice qa' ps.length qc', .slice ra' L.length rc'] 75)); have hQ5 := At.new w4 #[.int .i64 rr, .int .u8 qmd, .int .i64 qpar, .slice qa' ps.length qc', .slice ra' L.length rc'] 75; have a0 := hA5.cell 0; have a1 := hA5.cell 1; have a2 := hA5.cell 2; have a3 := hA5.cell 3; have a4 := hA5.cell 4; have b0 := hQ5.cell 0; have b1 := hQ5.cell 1; have b2 := hQ5.cell 2; have b3 := hQ5.cell 3; have b4 := hQ5.cell 4; have HPR5 := Lib.hid (hpr.below hal); have HTQ5 := Lib.hid (htq.below hal); clear htq; have HRI5 := Lib.hid (ownsRow_below hri hal (Nat.le_refl _)); have HA5 := Lib.hid hA5; have HQ5 := Lib.hid hQ5; have HL5 := Lib.hid (hlk.out _ _ _ HB5.out HPR5.out (zseg_of_members HRI5.out)); clear hA5 hQ5 hpr hri hb4 hal c0 c1 c2 c3)
      | (go_at_call 111; (with_reducible refine HL5.out.mono ?_); rintro e w6 ⟨rfl, hb6⟩; have HB6 := Lib.hid (below_then HB5.out hb6); have HG6 := Lib.hid (HG5.out.below hb6 HG5.out.lt); have HA6 := Lib.hid (HA5.out.below hb6 HA5.out.lt); have HQ6 := Lib.hid (HQ5.out.below hb6 HQ5.out.lt); have HPR6 := Lib.hid (HPR5.out.below hb6); have HTQ6 := Lib.hid (HTQ5.out.below hb6); have HRI6 := Lib.hid (iseg_of_members (ownsRow_below HRI5.out hb6 (Nat.le_refl _))); clear hb6 a0 a1 a2 a3 a4 b0 b1 b2 b3 b4 HL5))
    have e0 := HG6.out.cell 0
    go_wp2
    go_ret2
    exact ⟨rfl, HB6.out⟩

set_option maxRecDepth 100000 in
set_option maxHeartbeats 8000000 in
theorem ref_Work_short (M C S rr : Nat) (r md par : Int) (vd vq vr vrd : Value) (l : List Bool) (ps : List Pat) (zl : List Int) (ls : List (List UInt8)) (w : World) (ok : PlanOk M C S (bitOf l) ps rr) (hl : l.length = M) (hz0 : planCode M C S l ps = 0) (z : Int) (hgz : GoneIs (bitOf l) M z) (hzl : zl.length ≤ 1000000) (hlf : ls.length ≤ 300000) (hll : ∀ l ∈ ls, l.length ≤ 300000)
    (hd : BooSeg w vd l) (hq : PSeg w vq ps) (hz : ZSeg w vr zl) (hls : Segs w vrd ls) (L : List Nat) (hL : L = readsOf ps (parOf M C rr) M (modeOf M ps (parOf M C rr) z))
    (hhd : headIs r md par rr (modeOf M ps (parOf M C rr) z : Nat) (parOf M C rr : Nat) zl (L.map fun x : Nat => (x : Int)) = true) (hlm : ls.length = M) (hLm : ∀ m ∈ L, m < M) (hshort : ∃ m ∈ L, (ls.getD m []).length ≠ 128) :
    Calls Tryz.prog 39 #[geo M C S, vd, planVal r md par vq vr, vrd] w fun e w' => e = .returned (.tuple #[.slice none 0 0, .int .i64 4]) ∧ Below w.heap.size w w' := by
  have h16 := (geoIs_iff M C S).1 ok.hg
  have hfew := ok.few
  have hLl : L.length ≤ 16 := by rw [hL]; have := readsOf_length ps (parOf M C rr) M (modeOf M ps (parOf M C rr) z); omega
  have hk := Lib.hid (fun W => ref_check M C S W)
  unfold geoCode at hk
  rw [ok.hg] at hk
  simp only [if_true] at hk
  have hof : Hid (∀ W, Below w.heap.size w W → _) := fun W hW => ref_Of_ok M C S rr vd vq l ps W ok hl hz0 (hd.below hW) (hq.below hW) z hgz
  rw [← hL] at hof
  have HOK := Lib.hid ok
  generalize parOf M C rr = qpar at *
  generalize modeOf M ps qpar z = qmd at *
  have hlk : Hid (∀ (W : World) vq' vr', Below w.heap.size w W → PSeg W vq' ps → ZSeg W vr' (L.map fun x : Nat => (x : Int)) → _) := fun W vq' vr' hW h1 h2 => ref_samePlan r md par rr qmd qpar vq vr vq' vr' ps ps zl _ W (hq.below hW) h1 (hz.below hW) h2 (by omega) (by omega) hzl (by rw [List.length_map]; omega) (fun _ => rfl) ok.len
  rw [decide_eq_true rfl, Bool.true_and] at hlk
  rw [hhd] at hlk
  have HLS := Lib.hid hls
  have HLL := Lib.hid hll
  have HLM := Lib.hid hlm
  have HLMM := Lib.hid hLm
  have HSH := Lib.hid hshort
  have HD := Lib.hid hd
  obtain ⟨qa, qc, rfl⟩ := hq.shape
  obtain ⟨da, dc, rfl⟩ := hd.shape
  obtain rfl := head_reads hhd
  have HZZ := Lib.hid hz
  obtain ⟨ra, rc, hze⟩ := hz.shape
  rw [List.length_map] at hze
  subst hze
  obtain ⟨sa, sc, rfl⟩ := hls.shape
  rw [hl] at hof ⊢
  rw [hlm] at ⊢
  have hps : ps.length ≤ 16 := by omega
  obtain ⟨w0, hw0⟩ : ∃ w0, w0 = (w.alloc (.cells #[.int .i64 M, .int .i64 C, .int .i64 S] 23)).alloc (.cells #[.int .i64 r, .int .u8 md, .int .i64 par, .slice qa ps.length qc, .slice ra L.length rc] 75) := ⟨_, rfl⟩
  have HB0 : Hid (Below w.heap.size w w0) := by rw [hw0]; exact ((Below.refl _ _).alloc (Nat.le_refl _) _).alloc (by rw [size_alloc]; omega) _
  have HG0 : Hid (At w0 w.heap.size #[.int .i64 M, .int .i64 C, .int .i64 S] 23) := by rw [hw0]; exact (At.new _ _ _).alloc _
  have HP0 : Hid (At w0 (w.heap.size + 1) #[.int .i64 r, .int .u8 md, .int .i64 par, .slice qa ps.length qc, .slice ra L.length rc] 75) := by rw [hw0]; exact At.new2 _ _ _ _
  clear hd hq hz hls hL hgz hhd ok hll hlm hLm hshort
  unfold geo planVal at *
  go_enter Tryz.func39, Tryz.ntmps39
  go_upto_region 1 with fail
  rw [← hw0]
  clear hw0
  have c0 := HG0.out.cell 0
  have c1 := HG0.out.cell 1
  have c2 := HG0.out.cell 2
  go_upto_region 6 with (first
    | (go_at_call 44; (with_reducible refine (hk.out _).mono ?_); rintro e w1 ⟨rfl, hb1⟩; clear c0 c1 c2; have hg1 := HG0.out.below hb1 HG0.out.lt; have hp1 := HP0.out.below hb1 HP0.out.lt; have c0 := hg1.cell 0; have c1 := hg1.cell 1; have c2 := hg1.cell 2; have c3 := hp1.cell 3; have HP1 := Lib.hid hp1; have HG1 := Lib.hid hg1; have HB1 := Lib.hid (below_then HB0.out hb1); clear hg1 hp1 hb1)
    | (go_at_call 26; (with_reducible refine (hof.out _ HB1.out).mono ?_); rintro e w4 ⟨⟨vq', vr', XQ, rfl, hor, hxq, hri⟩, hb4⟩; have hpr : PSeg w4 vq' ps := orow_pseg hor hxq hps; have htq := orow_trow hor; have HXQ := Lib.hid hxq; clear hor hxq; obtain ⟨qa', qc', rfl⟩ := hpr.shape; obtain ⟨ra', rc', rfl⟩ := ownsRow_shape hri; have hal := (Below.refl w4.heap.size w4).alloc (Nat.le_refl _) (.cells #[.int .i64 rr, .int .u8 qmd, .int .i64 qpar, .slice qa' ps.length qc', .slice ra' L.length rc'] 75); have HB5 := Lib.hid (below_then (below_then HB1.out hb4) hal); have hA5 := (HP1.out.below hb4 HP1.out.lt).alloc (.cells #[.int .i64 rr, .int .u8 qmd, .int .i64 qpar, .slice qa' ps.length qc', .slice ra' L.length rc'] 75); have HG5 := Lib.hid ((HG1.out.below hb4 HG1.out.lt).alloc (.cells #[.int .i64 rr, .int .u8 qmd, .int .i64 qpar, .slice qa' ps.length qc', .slice ra' L.length rc'] 75)); have hQ5 := At.new w4 #[.int .i64 rr, .int .u8 qmd, .int .i64 qpar, .slice qa' ps.length qc', .slice ra' L.length rc'] 75; have a0 := hA5.cell 0; have a1 := hA5.cell 1; have a2 := hA5.cell 2; have a3 := hA5.cell 3; have a4 := hA5.cell 4; have b0 := hQ5.cell 0; have b1 := hQ5.cell 1; have b2 := hQ5.cell 2; have b3 := hQ5.cell 3; have b4 := hQ5.cell 4; have HPR5 := Lib.hid (hpr.below hal); have HTQ5 := Lib.hid (htq.below hal); clear htq; have HRI5 := Lib.hid (ownsRow_below hri hal (Nat.le_refl _)); have HA5 := Lib.hid hA5; have HQ5 := Lib.hid hQ5; have HL5 := Lib.hid (hlk.out _ _ _ HB5.out HPR5.out (zseg_of_members HRI5.out)); clear hA5 hQ5 hpr hri hb4 hal c0 c1 c2 c3)
    | (go_at_call 111; (with_reducible refine HL5.out.mono ?_); rintro e w6 ⟨rfl, hb6⟩; have HB6 := Lib.hid (below_then HB5.out hb6); have HG6 := Lib.hid (HG5.out.below hb6 HG5.out.lt); have HA6 := Lib.hid (HA5.out.below hb6 HA5.out.lt); have HQ6 := Lib.hid (HQ5.out.below hb6 HQ5.out.lt); have HPR6 := Lib.hid (HPR5.out.below hb6); have HTQ6 := Lib.hid (HTQ5.out.below hb6); have HRI6 := Lib.hid (iseg_of_members (ownsRow_below HRI5.out hb6 (Nat.le_refl _))); clear hb6 a0 a1 a2 a3 a4 b0 b1 b2 b3 b4 HL5))
  have e0 := HG6.out.cell 0
  have hne : ((M : Int) != (M : Int)) = false := by simp
  go_wp2
  have HSS := Lib.hid (HLS.out.below HB6.out)
  have HZ6 := Lib.hid (HZZ.out.below HB6.out)
  clear HLS hne hlk hof hk HG0 HP0 HB0 e0 HG6 HG5 HG1 HP1 HB1 HB5 HA5 HQ5 HPR5 HRI5 HTQ5
  go_loopw [13] (fun t wr => ∃ k : Nat, k ≤ L.length ∧ t = .int .i64 k ∧ (∀ m ∈ L.take k, (ls.getD m []).length = 128) ∧ wr = w6) (fun t _ => L.length - (intOf t).toNat)
  case atStart => exact ⟨0, by omega, rfl, fun m hm => by simp at hm, rfl⟩
  case round =>
    obtain ⟨k, hk', rfl, hall, rfl⟩ := hrel
    have HALL := Lib.hid hall
    have x4 := HA6.out.cell 4
    clear hall
    by_cases hkn : k < L.length
    · have K1 : Hid (k + 1 ≤ L.length) := hkn
      obtain ⟨b, o, c', hve0, hlt, hx⟩ := HZ6.out.full (by rw [List.length_map]; omega)
      simp only [Value.slice.injEq] at hve0
      obtain ⟨rfl, hq1, rfl⟩ := hve0
      have c0 := hx k (by rw [List.length_map]; exact hkn)
      rw [List.getElem_map] at c0
      have hm1 := HLMM.out _ (List.getElem_mem hkn)
      have HTK : Hid (L.take (k + 1) = L.take k ++ [L[k]'hkn]) := List.take_succ_eq_append_getElem hkn
      generalize hmm : L[k]'hkn = m at *
      have hls := HLM.out
      obtain ⟨sb, so, sc', hve, hslt, hsx⟩ := Segs.full HSS.out (by omega)
      simp only [Value.slice.injEq] at hve
      obtain ⟨rfl, hq0, rfl⟩ := hve
      clear hq0 hq1
      have hml : m < ls.length := by omega
      obtain ⟨u, d0, hu⟩ := hsx m hml
      have hgl : ls.getD m [] = ls[m]'hml := by rw [List.getD_eq_getElem?_getD, List.getElem?_eq_getElem hml]; rfl
      have hlen := HLL.out _ (List.getElem_mem hml)
      rw [← hgl] at hu hlen
      have hk0 : (0 : Int) ≤ (m : Int) := Int.natCast_nonneg _
      have hk1 : (m : Int) < (M : Int) := by omega
      obtain ⟨ua, uc, rfl⟩ := hu.shape
      by_cases hm2 : (ls.getD m []).length = 128
      · have HN : Hid (∀ x ∈ L.take (k + 1), (ls.getD x []).length = 128) := fun x hx => by
          rw [HTK.out] at hx
          rcases List.mem_append.1 hx with hx | hx
          · exact HALL.out x hx
          · rw [List.mem_singleton] at hx
            rw [hx]; exact hm2
        have hq2 : (((ls.getD m []).length : Int) != 128) = false := by rw [hm2]; rfl
        clear hx hsx hu hgl hm2 hls hmm
        generalize (ls.getD m []).length = un at *
        as_aux_lemma =>
          go_wp2
          exact ⟨⟨k + 1, K1.out, by go_num, HN.out, trivial⟩, by simp [intOf]; omega⟩
      · have hq2 : (((ls.getD m []).length : Int) != 128) = true := bne_iff_ne.2 (fun e => hm2 (by omega))
        clear hx hsx hu hgl hm2 hls hmm
        generalize (ls.getD m []).length = un at *
        as_aux_lemma =>
          go_wp2
          go_ret2
          exact ⟨rfl, HB6.out⟩
    · exfalso
      obtain ⟨m, hm, hm2⟩ := HSH.out
      exact hm2 (HALL.out m (by rw [List.take_of_length_le (by omega)]; exact hm))

end Go.Proofs.YtpegbgomnpinfaaGreat
