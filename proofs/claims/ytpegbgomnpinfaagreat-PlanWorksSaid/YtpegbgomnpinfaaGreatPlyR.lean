/- PlanPlans: the answers; what is lent; the walk of what is not too much. -/
import Derived.Test.YtpegbgomnpinfaaGreatPlyP
import Derived.Test.YtpegbgomnpinfaaGreatPlyC
import Derived.Test.YtpegbgomnpinfaaGreatMrg11
import Derived.Test.YtpegbgomnpinfaaGreatMrg17
set_option linter.unusedVariables false
namespace Go.Proofs.YtpegbgomnpinfaaGreat
open Go.RowKit

def planAgg (r md par : Int) (vq vr : Value) : Value := .agg #[.int .i64 r, .int .u8 md, .int .i64 par, vq, vr]

/-- What plan.Of and the document's Of answer. -/
structure PlanAns (m c s : Int) (l : List Bool) (ps : List Pat) (r md par : Int) (qs : List Pat) (rl : List Nat) (cd : Nat) : Prop where
  few : qs.length ≤ 16
  rfew : rl.length ≤ 16
  code : cd ≤ 200
  prog : ∀ vd vp w, BooSeg w vd l → PSeg w vp ps → Calls Tryz.prog 22 #[geo m c s, vd, vp] w fun e w' => (∃ vq vr X, e = .returned (.tuple #[planAgg r md par vq vr, .int .u16 cd]) ∧ ORow w' w.heap.size vq X ∧ X.map (·.1) = qs ∧ w'.ownsRow w.heap.size 3 1 vr rl.length (mcells rl)) ∧ Below w.heap.size w w'
  doc : ∀ vd vp w, BooSeg w vd l → PSeg w vp ps → Calls Tryz.prog 26 #[geo m c s, vd, vp] w fun e w' => (∃ vq vr, e = .returned (.tuple #[planAgg r md par vq vr, .int .i64 cd]) ∧ PSeg w' vq qs ∧ ISeg w' vr rl) ∧ Below w.heap.size w w'
theorem ISeg.nil (w : World) : ISeg w (.slice none 0 0) [] := ⟨none, 0, rfl, .inl rfl⟩
theorem plan_ans (m c s : Int) (l : List Bool) (ps : List Pat) : ∃ r md par qs rl cd, PlanAns m c s l ps r md par qs rl cd := by
  by_cases hz : planCode m c s l ps = 0
  · obtain ⟨M, C, S, r, rfl, rfl, rfl, hl, ok⟩ := plan_ok_of hz
    obtain ⟨z, hgz⟩ := gone_is (bitOf l) M
    have h16 := (geoIs_iff M C S).1 ok.hg
    have hfew := ok.few
    refine ⟨r, (modeOf M ps (parOf M C r) z : Nat), (parOf M C r : Nat), ps, readsOf ps (parOf M C r) M (modeOf M ps (parOf M C r) z), 0, by omega, by have := readsOf_length ps (parOf M C r) M (modeOf M ps (parOf M C r) z); omega, by omega, fun vd vp w hd hp => ?_, fun vd vp w hd hp => ?_⟩
    · have hb : BSeg w vd (bitOf l) M := by have h := hd.bseg; rwa [hl] at h
      refine (plan_Of M C S r vd vp (bitOf l) ps w ok hb hp z hgz).mono fun e w' ⟨vq, vr, dv, x1, x2, x3, x4⟩ => ⟨⟨vq, vr, orowOf ps dv, x1, x2.orow, orowOf_pats ps dv, x3⟩, x4⟩
    · exact (ref_Of_ok M C S r vd vp l ps w ok hl hz hd hp z hgz).mono fun e w' ⟨⟨vq, vr, X, x1, x2, xm, x3⟩, x4⟩ => ⟨⟨vq, vr, x1, by have h := x2.pseg (by have e := congrArg List.length xm; rw [List.length_map] at e; omega); rw [xm] at h; exact h, iseg_of_members x3⟩, x4⟩
  · refine ⟨0, 0, 0, [], [], planCode m c s l ps, by simp, by simp, by have := code_le m c s l ps; omega, fun vd vp w hd hp => ?_, fun vd vp w hd hp => ?_⟩
    · exact (plan_Of_code m c s vd vp l ps w hd hp hz).mono fun e w' ⟨x1, x2⟩ => ⟨⟨.slice none 0 0, .slice none 0 0, [], x1, ORow.nil _ _, rfl, World.ownsRow_nil _ _ _ _⟩, x2⟩
    · exact (ref_Of_no m c s vd vp l ps w hd hp hz).mono fun e w' ⟨x1, x2⟩ => ⟨⟨.slice none 0 0, .slice none 0 0, x1, PSeg.nil _, ISeg.nil _⟩, x2⟩

theorem lent_lowP {w : World} {lo : Nat} {v : Value} {Y : List OP} (h : LPats w lo v Y) : ∀ y ∈ Y, ∀ q, y.2.ownBlock = some q → q < w.heap.size := fun y hy q hq => by
  obtain ⟨g, -, e, ha⟩ := h.dat y hy
  rw [e] at hq
  simp only [Value.ownBlock, Option.some.injEq] at hq
  exact hq ▸ ha.lt

/-- What the lent patches give. -/
structure LentUseP (w0 w1 : World) (vu : Value) (us : List Pat) (go co : Nat) : Prop where
  seg : PSeg w1 (.slice (some ⟨go, 0, none⟩) us.length co) us
  whole : ∀ W, Below w1.heap.size w1 W → Calls Tryz.prog 23 #[.slice (some ⟨go, 0, none⟩) us.length co, vu] W fun e w' => e = .returned (.bool true) ∧ Below W.heap.size W w'
  spoil : ∀ W, Below w1.heap.size w1 W → Calls Tryz.prog 25 #[.slice (some ⟨go, 0, none⟩) us.length co] W fun e w' => e = .returned (.tuple #[]) ∧ Chg (fun k => w0.heap.size ≤ k ∧ k < w1.heap.size) W w'
theorem lent_useP {w0 w1 : World} {vu : Value} {us : List Pat} {go co : Nat} {Y : List OP} (hY : Y.map (·.1) = us) (hL : LPats w1 w0.heap.size (.slice (some ⟨go, 0, none⟩) (Y.length + 2) co) Y) (hn : us.length ≤ 300000) (hl : ∀ u ∈ us, u.d.length ≤ 300000) (hv : PSeg w1 vu us) : LentUseP w0 w1 vu us go co := by
  have hyl : Y.length = us.length := by rw [← hY, List.length_map]
  have hy2 : ∀ y ∈ Y, y.1.d.length ≤ 300000 := fun y hy => hl _ (by rw [← hY]; exact List.mem_map_of_mem hy)
  have hs := hL.pseg (by omega) hy2
  rw [hY, hyl] at hs
  refine ⟨hs, fun W hW => ?_, fun W hW => ?_⟩
  · have h := whole_pats w0.heap.size go co vu Y W (hL.below hW) (by rw [hY]; exact hv.below hW) (by omega) hy2
    rw [hyl] at h
    exact h
  · have h := spoil_pats w0.heap.size w1.heap.size go co Y W (hL.below hW) (by omega) hy2 hL.lt (lent_lowP hL)
    rw [hyl] at h
    exact h

/-- A plan of the call's own, in a box. -/
structure PlanBox (wx : World) (g B : Nat) (r md par : Int) (vq vr : Value) (X : List OP) (rl : List Nat) : Prop where
  box : At wx g #[.int .i64 r, .int .u8 md, .int .i64 par, vq, vr] 75
  row : ORow wx B vq X
  reads : wx.ownsRow B 3 1 vr rl.length (mcells rl)
theorem PlanBox.below {wx wy : World} {g B : Nat} {r md par : Int} {vq vr : Value} {X : List OP} {rl : List Nat} (h : PlanBox wx g B r md par vq vr X rl) (hb : Below wx.heap.size wx wy) : PlanBox wy g B r md par vq vr X rl :=
  ⟨h.box.below hb h.box.lt, h.row.below hb, ownsRow_below h.reads hb (Nat.le_refl _)⟩
theorem PlanBox.mod {S : Nat → Prop} {wx wy : World} {g B : Nat} {r md par : Int} {vq vr : Value} {X : List OP} {rl : List Nat} (h : PlanBox wx g B r md par vq vr X rl) (hc : Chg S wx wy) (hg : B ≤ g) (hS : ∀ k, B ≤ k → ¬ S k) : PlanBox wy g B r md par vq vr X rl :=
  ⟨h.box.mod hc (hS g hg), h.row.mod hc (fun q hq => hS q (h.row.row.lt q hq).1) (fun x hx q hq => hS q ((h.row.dat x hx).lt q hq).1), ownsRow_mod h.reads hc (fun q hq => hS q (h.reads.lt q hq).1)⟩

theorem PlanBox.off {wx wy : World} {g1 g2 B1 : Nat} {r md par r' md' par' : Int} {vq vr vq' vr' : Value} {X X' : List OP} {rl rl' : List Nat} (h1 : PlanBox wx g1 B1 r md par vq vr X rl) (h2 : PlanBox wy g2 wx.heap.size r' md' par' vq' vr' X' rl') :
    OffAll [vq] vq' ∧ (∀ x ∈ X', OffAll (X.map (·.2)) x.2) ∧ OffAll [vr] vr' := by
  refine ⟨fun y hy g hg e => ?_, fun x hx y hy g hg e => ?_, fun y hy g hg e => ?_⟩
  · rw [List.mem_singleton] at hy
    subst hy
    have a := (h1.row.row.lt g hg).2
    have b := (h2.row.row.lt g e).1
    omega
  · obtain ⟨z, hz, rfl⟩ := List.mem_map.1 hy
    have a := ((h1.row.dat z hz).lt g hg).2
    have b := ((h2.row.dat x hx).lt g e).1
    omega
  · rw [List.mem_singleton] at hy
    subst hy
    have a := (h1.reads.lt g hg).2
    have b := (h2.reads.lt g e).1
    omega
theorem PlanBox.new {w0 wx : World} {r md par : Int} {vq vr : Value} {X : List OP} {rl : List Nat} (h1 : ORow wx w0.heap.size vq X) (h2 : wx.ownsRow w0.heap.size 3 1 vr rl.length (mcells rl)) : PlanBox (wx.alloc (.cells #[.int .i64 r, .int .u8 md, .int .i64 par, vq, vr] 75)) wx.heap.size w0.heap.size r md par vq vr X rl :=
  ⟨At.new _ _ _, h1.below ((Below.refl _ _).alloc (Nat.le_refl _) _), ownsRow_below h2 ((Below.refl _ _).alloc (Nat.le_refl _) _) (Nat.le_refl _)⟩
theorem OffAll.nil (x : Value) : OffAll [] x := fun y hy => by cases hy

set_option maxRecDepth 100000 in
set_option maxHeartbeats 16000000 in
theorem plans_all (m c s : Int) (vd vp : Value) (l : List Bool) (ps : List Pat) (w : World) (hd : BooSeg w vd l) (hp : PSeg w vp ps)
    (hknown : ∀ W, Calls Tryz.prog 28 #[] W fun e w' => e = .returned (.bool true) ∧ Below W.heap.size W w')
    (hm1 : muchIs (ps.map (·.d.length)) = false) (hl1 : l.length ≤ 1000) :
    Calls Tryz.prog 4 #[geo m c s, vd, vp] w fun e w' => e = .returned (.bool true) ∧ Below w.heap.size w w' := by
  obtain ⟨r, md, par, qs, rl, cd, ans⟩ := plan_ans m c s l ps
  have HANS := Lib.hid ans
  have hqs := ans.few
  have hrl := ans.rfew
  have hcd := ans.code
  obtain ⟨w0, hw0⟩ : ∃ w0, w0 = w.alloc (.cells #[.int .i64 m, .int .i64 c, .int .i64 s] 23) := ⟨_, rfl⟩
  have hb0 : Below w.heap.size w w0 := by rw [hw0]; exact (Below.refl _ _).alloc (Nat.le_refl _) _
  have HG0 : Hid (At w0 w.heap.size #[.int .i64 m, .int .i64 c, .int .i64 s] 23) := by rw [hw0]; exact At.new _ _ _
  have hmp : Hid (∀ W, Below w.heap.size w W → _) := fun W hW => much_pats vp ps W (hp.below hW)
  rw [hm1] at hmp
  obtain ⟨hfew, hlen0⟩ := much_few hm1
  rw [List.length_map] at hfew
  have hl3 : ∀ u ∈ ps, u.d.length ≤ 300000 := fun u hu => hlen0 _ (List.mem_map_of_mem hu)
  have HL3 := Lib.hid hl3
  have hlent : Hid (∀ W, Below w.heap.size w W → _) := fun W hW => lent_pats vp ps W (hp.below hW) hfew hl3
  have hlb : Hid (∀ W, Below w.heap.size w W → _) := fun W hW => lent_bools vd l W (by omega) (hd.below hW)
  have hwb : Hid (∀ lo u W, LentB W lo u l → Below w.heap.size w W → _) := fun lo u W hu hW => whole_bools lo u vd l W (by omega) hu (hd.below hW)
  have HOF : Hid (∀ vd' vp' W, BooSeg W vd' l → PSeg W vp' ps → _) := ans.prog
  have HRF : Hid (∀ W, Below w.heap.size w W → _) := fun W hW => ans.doc vd vp W (hd.below hW) (hp.below hW)
  have HKN := Lib.hid hknown
  have HD := Lib.hid hd
  have HP := Lib.hid hp
  have HB0 := Lib.hid hb0
  have hw0l : w.heap.size < w0.heap.size := by rw [hw0, size_alloc]; omega
  have HW0L := Lib.hid hw0l
  have hlong : decide ((1000 : Int) < (l.length : Int)) = false := decide_eq_false (by omega)
  obtain ⟨pa, pc, rfl⟩ := hp.shape
  obtain ⟨da, dc, rfl⟩ := hd.shape
  clear hd hp hm1 hknown hlen0 hl3 hb0 hw0l ans
  unfold geo planAgg at *
  go_enter Tryz.func4, Tryz.ntmps4
  go_upto_region 1 with fail
  rw [← hw0]
  clear hw0
  have c0 := HG0.out.cell 0
  have c1 := HG0.out.cell 1
  have c2 := HG0.out.cell 2
  go_upto_region 5 with (first
    | (go_at_call 19; (with_reducible refine (hmp.out _ HB0.out).mono ?_); rintro e w1 ⟨rfl, rfl⟩)
    | (go_at_call 20; (with_reducible refine (hlent.out _ HB0.out).mono ?_); rintro e w1 ⟨⟨go, co, Y, rfl, hY, hL⟩, hb1⟩; have HB1 := Lib.hid (below_then HB0.out hb1); have HLU := Lib.hid (lent_useP hY hL hfew HL3.out (HP.out.below HB1.out)); have HS1 := Lib.hid hb1.size; have HG1 := Lib.hid (HG0.out.below hb1 HG0.out.lt); clear c0 c1 c2 hY hL hb1)
    | (go_at_call 21; (with_reducible refine (hlb.out _ HB1.out).mono ?_); rintro e w2 ⟨rfl, hat2, hb2⟩; have HB2 := Lib.hid (below_then HB1.out hb2); have HW2 := Lib.hid hb2; have HLB2 : Hid (LentB w2 w1.heap.size (.slice (some ⟨w1.heap.size, 0, none⟩) l.length (l.length + 2)) l) := ⟨w1.heap.size, Nat.le_refl _, rfl, hat2⟩; have HG2 := Lib.hid (HG1.out.below hb2 HG1.out.lt); clear hat2 hb2))
  have c0 := HG2.out.cell 0
  have c1 := HG2.out.cell 1
  have c2 := HG2.out.cell 2
  have HO1 := Lib.hid (HOF.out _ _ _ HLB2.out.seg (HLU.out.seg.below HW2.out))
  go_upto_region 6 with (first
    | (go_at_call 22; (with_reducible refine HO1.out.mono ?_); rintro e w3 ⟨⟨vq1, vr1, X1, rfl, hx1, hm1, hr1⟩, hb3⟩; have HM1 := Lib.hid hm1; have HW3 := Lib.hid hb3; obtain ⟨qa1, qc1, rfl⟩ := ownsRow_shape hx1.row; obtain ⟨ra1, rc1, rfl⟩ := ownsRow_shape hr1; have HX1 := Lib.hid hx1; have HR1 := Lib.hid hr1; clear hx1 hm1 hr1 hb3 c0 c1 c2))
  obtain ⟨w3b, hw3b⟩ : ∃ w3b, w3b = w3.alloc (.cells #[.int .i64 r, .int .u8 md, .int .i64 par, .slice qa1 X1.length qc1, .slice ra1 rl.length rc1] 75) := ⟨_, rfl⟩
  have HPB1 : Hid (PlanBox w3b w3.heap.size w2.heap.size r md par (.slice qa1 X1.length qc1) (.slice ra1 rl.length rc1) X1 rl) := by rw [hw3b]; exact PlanBox.new HX1.out HR1.out
  have HW3b : Hid (Below w2.heap.size w2 w3b) := by rw [hw3b]; exact HW3.out.alloc HW3.out.size _
  rw [← hw3b]
  clear hw3b
  have hs32 : w2.heap.size ≤ w3.heap.size := HW3.out.size
  have HG3 := Lib.hid (HG2.out.below HW3b.out HG2.out.lt)
  have HB3 := Lib.hid (below_then HB2.out HW3b.out)
  have HLB3 := Lib.hid (HLB2.out.below HW3b.out)
  have HW13 := Lib.hid (below_then HW2.out HW3b.out)
  have hs21 : w1.heap.size ≤ w2.heap.size := HW2.out.size
  generalize w3.heap.size = g1 at *
  clear HX1 HR1 HW3 HG0 HG1 HG2 HO1 HB0 HB2 HW2 HLB2
  have c0 := HG3.out.cell 0
  have c1 := HG3.out.cell 1
  have c2 := HG3.out.cell 2
  have HO2 := Lib.hid (HOF.out _ _ _ HLB3.out.seg (HLU.out.seg.below HW13.out))
  go_upto_region 7 with (first
    | (go_at_call 22; (with_reducible refine HO2.out.mono ?_); rintro e w4 ⟨⟨vq2, vr2, X2, rfl, hx2, hm2, hr2⟩, hb4⟩; have HM2 := Lib.hid hm2; have HW4 := Lib.hid hb4; obtain ⟨qa2, qc2, rfl⟩ := ownsRow_shape hx2.row; obtain ⟨ra2, rc2, rfl⟩ := ownsRow_shape hr2; have HX2 := Lib.hid hx2; have HR2 := Lib.hid hr2; clear hx2 hm2 hr2 hb4 c0 c1 c2))
  obtain ⟨w4b, hw4b⟩ : ∃ w4b, w4b = w4.alloc (.cells #[.int .i64 r, .int .u8 md, .int .i64 par, .slice qa2 X2.length qc2, .slice ra2 rl.length rc2] 75) := ⟨_, rfl⟩
  have HPB2 : Hid (PlanBox w4b w4.heap.size w3b.heap.size r md par (.slice qa2 X2.length qc2) (.slice ra2 rl.length rc2) X2 rl) := by rw [hw4b]; exact PlanBox.new HX2.out HR2.out
  have HW4b : Hid (Below w3b.heap.size w3b w4b) := by rw [hw4b]; exact HW4.out.alloc HW4.out.size _
  rw [← hw4b]
  clear hw4b
  have hs43 : w3b.heap.size ≤ w4.heap.size := HW4.out.size
  have HG4 := Lib.hid (HG3.out.below HW4b.out HG3.out.lt)
  have HB4 := Lib.hid (below_then HB3.out HW4b.out)
  have HLB4 := Lib.hid (HLB3.out.below HW4b.out)
  have HW14 := Lib.hid (below_then HW13.out HW4b.out)
  have HPB14 := Lib.hid (HPB1.out.below HW4b.out)
  have HOFF := Lib.hid (HPB1.out.off HPB2.out)
  have hs3b : w2.heap.size ≤ w3b.heap.size := HW3b.out.size
  generalize w4.heap.size = g2 at *
  clear HX2 HR2 HW4 HG3 HO2 HB3 HW3b HLB3 HOF HANS HPB1 HW13
  go_upto_region 9 with (first
    | (go_at_call 23; (with_reducible refine (HLU.out.whole _ HW14.out).mono ?_); rintro e w5 ⟨rfl, hb5⟩; have HB5 := Lib.hid (below_then HB4.out hb5); have HLB5 := Lib.hid (HLB4.out.below hb5); have HW15 := Lib.hid (below_then HW14.out hb5); have HW45 := Lib.hid hb5; clear hb5)
    | (go_at_call 24; (with_reducible refine (hwb.out _ _ _ HLB5.out HB5.out).mono ?_); rintro e w6 ⟨rfl, hb6⟩; have HB6 := Lib.hid (below_then HB5.out hb6); have HW16 := Lib.hid (below_then HW15.out hb6); have HW46 := Lib.hid (below_then HW45.out hb6); clear hb6)
    | (go_at_call 25; (with_reducible refine (HLU.out.spoil _ HW16.out).mono ?_); rintro e w7 ⟨rfl, hc7⟩; have HPB17 := Lib.hid ((HPB14.out.below HW46.out).mod hc7 hs32 (fun k hk e => by omega)); have HPB27 := Lib.hid ((HPB2.out.below HW46.out).mod hc7 hs43 (fun k hk e => by omega)); have HG7 := Lib.hid ((HG4.out.below HW46.out HG4.out.lt).mod hc7 (fun e => by have := HW0L.out; omega)); have HB7 := Lib.hid (Chg.own HB6.out hc7 (fun k hk => by have := HW0L.out; omega)); clear hc7))
  clear HG4 HB4 HLB4 HW14 HPB14 HPB2 HB5 HLB5 HW15 HW45 HB6 HW16 HW46 HLU hwb hlb hlent hmp HW4b
  have c0 := HG7.out.cell 0
  have c1 := HG7.out.cell 1
  have c2 := HG7.out.cell 2
  go_upto_region 10 with (first
    | (go_at_call 26; (with_reducible refine (HRF.out _ HB7.out).mono ?_); rintro e w8 ⟨⟨vq3, vr3, rfl, hx3, hr3⟩, hb8⟩; have HW8 := Lib.hid hb8; obtain ⟨qa3, qc3, rfl⟩ := hx3.shape; obtain ⟨ra3, rc3, rfl⟩ := hr3.shape; have HX3 := Lib.hid hx3; have HR3 := Lib.hid hr3; clear hx3 hr3 hb8 c0 c1 c2))
  obtain ⟨w8b, hw8b⟩ : ∃ w8b, w8b = w8.alloc (.cells #[.int .i64 r, .int .u8 md, .int .i64 par, .slice qa3 qs.length qc3, .slice ra3 rl.length rc3] 75) := ⟨_, rfl⟩
  have HA8 : Hid (At w8b w8.heap.size #[.int .i64 r, .int .u8 md, .int .i64 par, .slice qa3 qs.length qc3, .slice ra3 rl.length rc3] 75) := by rw [hw8b]; exact At.new _ _ _
  have HAL8 : Hid (Below w8.heap.size w8 w8b) := by rw [hw8b]; exact (Below.refl _ _).alloc (Nat.le_refl _) _
  rw [← hw8b]
  clear hw8b
  have HX38 := Lib.hid (HX3.out.below HAL8.out)
  have HR38 := Lib.hid (HR3.out.below HAL8.out)
  have HPB18 := Lib.hid ((HPB17.out.below HW8.out).below HAL8.out)
  have HPB28 := Lib.hid ((HPB27.out.below HW8.out).below HAL8.out)
  have HB8 := Lib.hid (below_then (below_then HB7.out HW8.out) HAL8.out)
  generalize w8.heap.size = g3 at *
  clear HG7 HPB17 HPB27 HX3 HR3 HW8 HAL8 HB7 HRF
  go_upto_region 11 with fail
  obtain ⟨w9, hw9⟩ : ∃ w9, w9 = w8b.alloc (.cells (bookC (.slice none 0 0) (.slice none 0 0) (.slice none 0 0)) 51) := ⟨_, rfl⟩
  have HBK9 : Hid (Bk w9 w8b.heap.size [] [] []) := by
    rw [hw9]
    exact ⟨_, _, _, At.new _ _ _, World.ownsRow_nil _ _ _ _, World.ownsRow_nil _ _ _ _, World.ownsRow_nil _ _ _ _, fun x hx => (by cases hx), fun x hx => (by cases hx), fun x hx => (by cases hx), List.Pairwise.nil, List.Pairwise.nil, List.Pairwise.nil⟩
  have HK9 : Hid (Below w8b.heap.size w8b w9) := by rw [hw9]; exact (Below.refl _ _).alloc (Nat.le_refl _) _
  have hkk : w9 = w8b.alloc (.cells #[.slice none 0 0, .slice none 0 0, .slice none 0 0, .slice none 0 0, .slice none 0 0, .slice none 0 0, .slice none 0 0, .slice none 0 0, .slice none 0 0, .slice none 0 0, .slice none 0 0, .slice none 0 0] 51) := hw9
  rw [← hkk]
  clear hkk hw9
  have hX1l : X1.length = qs.length := by rw [← HM1.out, List.length_map]
  have hX2l : X2.length = qs.length := by rw [← HM2.out, List.length_map]
  have hX116 : X1.length ≤ 16 := by omega
  have hX216 : X2.length ≤ 16 := by omega
  clear hX1l hX2l
  have HPB19 := Lib.hid (HPB18.out.below HK9.out)
  have HCP1 := Lib.hid (book_plan (n := rl.length) r md par HBK9.out (by simp; omega) (by simp) (by simp) (HPB19.out.row.lower (Nat.zero_le _)) (by omega) (OffAll.nil _) (fun x hx => OffAll.nil _) (rebase_row HPB19.out.reads (Nat.zero_le _)) (by rw [mcells_length]; omega) (OffAll.nil _))
  simp only [List.nil_append] at HCP1
  have x0 := HPB19.out.box.cell 0
  have x1 := HPB19.out.box.cell 1
  have x2 := HPB19.out.box.cell 2
  have x3 := HPB19.out.box.cell 3
  have x4 := HPB19.out.box.cell 4
  go_upto_region 12 with (first
    | (go_at_call 27; (with_reducible refine HCP1.out.mono ?_); rintro e w10 ⟨rfl, hk10, hc10⟩; have HBK10 := Lib.hid hk10; have HK10 := Lib.hid (HK9.out.trans (bks_below hc10 HK9.out.size)); clear hk10 hc10 x0 x1 x2 x3 x4))
  have HPB210 := Lib.hid (HPB28.out.below HK10.out)
  have HCP2 := Lib.hid (book_plan (n := rl.length) r md par HBK10.out (by rw [List.length_map]; omega) (by simp) (by simp) (HPB210.out.row.lower (Nat.zero_le _)) (by omega) HOFF.out.1 HOFF.out.2.1 (rebase_row HPB210.out.reads (Nat.zero_le _)) (by rw [mcells_length]; omega) HOFF.out.2.2)
  have x0 := HPB210.out.box.cell 0
  have x1 := HPB210.out.box.cell 1
  have x2 := HPB210.out.box.cell 2
  have x3 := HPB210.out.box.cell 3
  have x4 := HPB210.out.box.cell 4
  go_upto_region 13 with (first
    | (go_at_call 27; (with_reducible refine HCP2.out.mono ?_); rintro e w11 ⟨rfl, hk11, hc11⟩; have HBK11 := Lib.hid hk11; have HK11 := Lib.hid (HK10.out.trans (bks_below hc11 HK10.out.size)); clear hk11 hc11 x0 x1 x2 x3 x4))
  clear HCP1 HCP2 HPB19 HPB210 HBK9 HBK10 HK9 HK10 HOFF
  have HPS1 : Hid (∀ W, Below w8b.heap.size w8b W → PSeg W (.slice qa1 X1.length qc1) qs ∧ ISeg W (.slice ra1 rl.length rc1) rl) := fun W hW => by
    have h := HPB18.out.below hW
    have h1 := h.row.pseg (by omega)
    rw [HM1.out] at h1
    exact ⟨h1, iseg_of_members h.reads⟩
  have HPS2 : Hid (∀ W, Below w8b.heap.size w8b W → PSeg W (.slice qa2 X2.length qc2) qs ∧ ISeg W (.slice ra2 rl.length rc2) rl) := fun W hW => by
    have h := HPB28.out.below hW
    have h1 := h.row.pseg (by omega)
    rw [HM2.out] at h1
    exact ⟨h1, iseg_of_members h.reads⟩
  have HSP1 : Hid (∀ W, Below w8b.heap.size w8b W → _) := fun W hW => same_plan r md par _ _ _ _ qs rl W (HPS1.out W hW).1 (HX38.out.below hW) (HPS1.out W hW).2 (HR38.out.below hW) (by omega)
  have HSP2 : Hid (∀ W, Below w8b.heap.size w8b W → _) := fun W hW => same_plan r md par _ _ _ _ qs rl W (HPS2.out W hW).1 (HX38.out.below hW) (HPS2.out W hW).2 (HR38.out.below hW) (by omega)
  have HCL : Hid (∀ W, Below w8b.heap.size w8b W → At W g1 #[.int .i64 r, .int .u8 md, .int .i64 par, .slice qa1 X1.length qc1, .slice ra1 rl.length rc1] 75 ∧ At W g2 #[.int .i64 r, .int .u8 md, .int .i64 par, .slice qa2 X2.length qc2, .slice ra2 rl.length rc2] 75 ∧ At W g3 #[.int .i64 r, .int .u8 md, .int .i64 par, .slice qa3 qs.length qc3, .slice ra3 rl.length rc3] 75) := fun W hW => ⟨(HPB18.out.below hW).box, (HPB28.out.below hW).box, HA8.out.below hW HA8.out.lt⟩
  have HLOW : Hid (∀ k, InAny (X1.map (·.2) ++ X2.map (·.2)) k ∨ InAny ([.slice ra1 rl.length rc1] ++ [.slice ra2 rl.length rc2]) k ∨ InAny ([.slice qa1 X1.length qc1] ++ [.slice qa2 X2.length qc2]) k → w.heap.size ≤ k) := fun k hk => by
    have hw2 : w.heap.size ≤ w2.heap.size := by have := HB1.out.size; omega
    rcases hk with ⟨y, hy, e⟩ | ⟨y, hy, e⟩ | ⟨y, hy, e⟩
    · rcases List.mem_append.1 hy with hy | hy
      · obtain ⟨z, hz, rfl⟩ := List.mem_map.1 hy
        have := ((HPB18.out.row.dat z hz).lt k e).1
        omega
      · obtain ⟨z, hz, rfl⟩ := List.mem_map.1 hy
        have := ((HPB28.out.row.dat z hz).lt k e).1
        omega
    · rcases List.mem_append.1 hy with hy | hy
      · rw [List.mem_singleton] at hy
        subst hy
        have := (HPB18.out.reads.lt k e).1
        omega
      · rw [List.mem_singleton] at hy
        subst hy
        have := (HPB28.out.reads.lt k e).1
        omega
    · rcases List.mem_append.1 hy with hy | hy
      · rw [List.mem_singleton] at hy
        subst hy
        have := (HPB18.out.row.row.lt k e).1
        omega
      · rw [List.mem_singleton] at hy
        subst hy
        have := (HPB28.out.row.row.lt k e).1
        omega
  have HOWN : Hid (∀ W, Bk W w8b.heap.size (X1.map (·.2) ++ X2.map (·.2)) ([.slice ra1 rl.length rc1] ++ [.slice ra2 rl.length rc2]) ([.slice qa1 X1.length qc1] ++ [.slice qa2 X2.length qc2]) → _) := fun W h => book_own h (by rw [List.length_append, List.length_map, List.length_map]; omega) (by simp) (by simp)
  have hcc : ((cd : Int) == (cd : Int)) = true := by simp
  have HBK11' : Hid (Bk w11 w8b.heap.size (X1.map (·.2) ++ X2.map (·.2)) ([.slice ra1 rl.length rc1] ++ [.slice ra2 rl.length rc2]) ([.slice qa1 X1.length qc1] ++ [.slice qa2 X2.length qc2])) := HBK11.out
  clear HPB18 HPB28 HX38 HR38 HPS1 HPS2 HA8 HM1 HM2 HBK11
  go_wp2_with (first
    | (go_at_call 28; (with_reducible refine (HKN.out _).mono ?_); rintro e w12 ⟨rfl, hb12⟩; have HK12 := Lib.hid (HK11.out.trans (hb12.mono HK11.out.size)); have HBK12 := Lib.hid (HBK11'.out.below hb12); obtain ⟨a1, a2, a3⟩ := HCL.out _ HK12.out; have x0 := a1.cell 0; have x1 := a1.cell 1; have x2 := a1.cell 2; have x3 := a1.cell 3; have x4 := a1.cell 4; have y0 := a3.cell 0; have y1 := a3.cell 1; have y2 := a3.cell 2; have y3 := a3.cell 3; have y4 := a3.cell 4; clear hb12 a1 a2 a3)
    | (go_at_call 29; (with_reducible refine (HSP2.out _ HK13.out).mono ?_); rintro e w14 ⟨rfl, hb14⟩; have HK14 := Lib.hid (HK13.out.trans (hb14.mono HK13.out.size)); have HBK14 := Lib.hid (HBK13.out.below hb14); have HO14 := Lib.hid (HOWN.out _ HBK14.out); clear hb14 x0 x1 x2 x3 x4 y0 y1 y2 y3 y4)
    | (go_at_call 29; (with_reducible refine (HSP1.out _ HK12.out).mono ?_); rintro e w13 ⟨rfl, hb13⟩; have HK13 := Lib.hid (HK12.out.trans (hb13.mono HK12.out.size)); have HBK13 := Lib.hid (HBK12.out.below hb13); clear x0 x1 x2 x3 x4 y0 y1 y2 y3 y4; obtain ⟨a1, a2, a3⟩ := HCL.out _ HK13.out; have x0 := a2.cell 0; have x1 := a2.cell 1; have x2 := a2.cell 2; have x3 := a2.cell 3; have x4 := a2.cell 4; have y0 := a3.cell 0; have y1 := a3.cell 1; have y2 := a3.cell 2; have y3 := a3.cell 3; have y4 := a3.cell 4; clear hb13 a1 a2 a3)
    | (go_at_call 18; (with_reducible refine HO14.out.mono ?_); rintro e w15 ⟨rfl, hc15⟩; have HE := Lib.hid (Chg.own (below_then HB8.out HK14.out) hc15 HLOW.out); clear hc15))
  go_ret
  exact ⟨rfl, HE.out⟩

end Go.Proofs.YtpegbgomnpinfaaGreat
