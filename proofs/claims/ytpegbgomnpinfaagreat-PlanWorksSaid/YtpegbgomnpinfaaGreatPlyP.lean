/- spindleref13's Of: how a row is written; where it is refused. -/
import Derived.Test.YtpegbgomnpinfaaGreatMrg15
import Derived.Test.YtpegbgomnpinfaaGreatPlnI
import Derived.Deep.RegionHeld3
import Derived.Deep.CutRange
import Derived.Deep.CutBlock
set_option linter.unusedVariables false
namespace Go.Proofs.YtpegbgomnpinfaaGreat
open Go.RowKit

set_option maxRecDepth 100000 in
set_option maxHeartbeats 1000000 in
theorem ref_Of_no (m c s : Int) (vd vp : Value) (l : List Bool) (ps : List Pat) (w : World) (hd : BooSeg w vd l) (hp : PSeg w vp ps) (hz : planCode m c s l ps ≠ 0) :
    Calls Tryz.prog 26 #[geo m c s, vd, vp] w fun e w' => e = .returned (.tuple #[noPlan, .int .i64 (planCode m c s l ps : Nat)]) ∧ Below w.heap.size w w' := by
  obtain ⟨w0, hw0⟩ : ∃ w0, w0 = (w.alloc (.cells #[.int .i64 m, .int .i64 c, .int .i64 s] 23)).alloc (.cells #[.int .i64 0, .int .u8 0, .int .i64 0, .slice none 0 0, .slice none 0 0] 75) := ⟨_, rfl⟩
  have HB0 : Hid (Below w.heap.size w w0) := by rw [hw0]; exact ((Below.refl _ _).alloc (Nat.le_refl _) _).alloc (by rw [size_alloc]; omega) _
  have HF0 : Hid (∀ W, Below w.heap.size w W → _) := fun W hW => ref_faults m c s vd vp l ps W (hd.below hW) (hp.below hW)
  have HR0 : Hid (At w0 (w.heap.size + 1) #[.int .i64 0, .int .u8 0, .int .i64 0, .slice none 0 0, .slice none 0 0] 75) := by rw [hw0]; exact At.new2 _ _ _ _
  have HG0 : Hid (At w0 w.heap.size #[.int .i64 m, .int .i64 c, .int .i64 s] 23) := by rw [hw0]; exact (At.new _ _ _).alloc _
  have hle := code_le m c s l ps
  obtain ⟨cd, hcd⟩ : ∃ cd : Nat, cd = planCode m c s l ps := ⟨_, rfl⟩
  rw [← hcd] at hz hle HF0 ⊢
  have hne : ((cd : Int) != 0) = true := by simp; omega
  obtain ⟨da, dc, rfl⟩ := hd.shape
  obtain ⟨pa, pc, rfl⟩ := hp.shape
  subst hw0
  clear hd hp hcd hz
  unfold geo noPlan at *
  go_enter Tryz.func26, Tryz.ntmps26
  go_wp2_with (go_at_call 93; (with_reducible refine (HF0.out _ HB0.out).mono ?_); rintro e w1 ⟨rfl, hb1⟩; have HB1 := Lib.hid (below_then HB0.out hb1); have hR1 := HR0.out.below hb1 HR0.out.lt; have HR1 := Lib.hid hR1; have d0 := hR1.cell 0; have d1 := hR1.cell 1; have d2 := hR1.cell 2; have d3 := hR1.cell 3; have d4 := hR1.cell 4; have f0 := hR1.free 0; have f1 := hR1.free 1; have f2 := hR1.free 2; have f3 := hR1.free 3; have f4 := hR1.free 4; clear hb1 hR1)
  have HF := ((((HR1.out.set 0 (.int .i64 0)).set 1 (.int .u8 0)).set 2 (.int .i64 0)).set 3 (.slice none 0 0)).set 4 (.slice none 0 0)
  have r0 := HF.cell 0
  have r1 := HF.cell 1
  have r2 := HF.cell 2
  have r3 := HF.cell 3
  have r4 := HF.cell 4
  clear d0 d1 d2 d3 d4 f0 f1 f2 f3 f4
  go_wp2
  (try simp only [Exit.inBlock, Exit.then])
  refine bodyPost_ret (v := .tuple #[.agg #[.int .i64 0, .int .u8 0, .int .i64 0, .slice none 0 0, .slice none 0 0], .int .i64 cd]) ?_ rfl ⟨rfl, ((((HB1.out.setCell (p := ⟨w.heap.size + 1, 0, none⟩) (Nat.le_succ _) _).setCell (p := ⟨w.heap.size + 1, 1, none⟩) (Nat.le_succ _) _).setCell (p := ⟨w.heap.size + 1, 2, none⟩) (Nat.le_succ _) _).setCell (p := ⟨w.heap.size + 1, 3, none⟩) (Nat.le_succ _) _).setCell (p := ⟨w.heap.size + 1, 4, none⟩) (Nat.le_succ _) _⟩
  rw [results_cell_tmp rfl]
  go_simp
  try rfl

/-- What stands while the document makes a plan. -/
structure OfAt (w wx : World) (M C S pb : Nat) (r par md : Int) (vq vr : Value) : Prop where
  g : At wx w.heap.size #[.int .i64 M, .int .i64 C, .int .i64 S] 23
  res : At wx (w.heap.size + 1) #[.int .i64 0, .int .u8 0, .int .i64 0, .slice none 0 0, .slice none 0 0] 75
  box : At wx pb #[.int .i64 r, .int .u8 md, .int .i64 par, vq, vr] 75
  bel : Below w.heap.size w wx
  big : w.heap.size + 2 ≤ pb
theorem OfAt.below {w wx wy : World} {M C S pb : Nat} {r par md : Int} {vq vr : Value} (h : OfAt w wx M C S pb r par md vq vr) (hb : Below wx.heap.size wx wy) : OfAt w wy M C S pb r par md vq vr :=
  ⟨h.g.below hb h.g.lt, h.res.below hb h.res.lt, h.box.below hb h.box.lt, below_then h.bel hb, h.big⟩

theorem OfAt.setm {w wx : World} {M C S pb : Nat} {r par md : Int} {vq vr : Value} (h : OfAt w wx M C S pb r par md vq vr) (m : Int) : OfAt w (wx.setCell ⟨pb, 1, none⟩ (.int .u8 m)) M C S pb r par m vq vr ∧ Chg (fun q => q = pb) wx (wx.setCell ⟨pb, 1, none⟩ (.int .u8 m)) := by
  have hc : Chg (fun q => q = pb) wx (wx.setCell ⟨pb, 1, none⟩ (.int .u8 m)) := Chg.setCell (S := fun q => q = pb) (Chg.refl _ _) ⟨pb, 1, none⟩ (.inl rfl) _
  have hb := h.big
  exact ⟨⟨h.g.mod hc (by omega), h.res.mod hc (by omega), h.box.set 1 _, h.bel.setCell (p := ⟨pb, 1, none⟩) (by show w.heap.size ≤ pb; omega) _, hb⟩, hc⟩
theorem OfAt.setr {w wx : World} {M C S pb : Nat} {r par md : Int} {vq vr : Value} (h : OfAt w wx M C S pb r par md vq vr) (u : Value) : OfAt w (wx.setCell ⟨pb, 4, none⟩ u) M C S pb r par md vq u ∧ Chg (fun q => q = pb) wx (wx.setCell ⟨pb, 4, none⟩ u) := by
  have hc : Chg (fun q => q = pb) wx (wx.setCell ⟨pb, 4, none⟩ u) := Chg.setCell (S := fun q => q = pb) (Chg.refl _ _) ⟨pb, 4, none⟩ (.inl rfl) _
  have hb := h.big
  exact ⟨⟨h.g.mod hc (by omega), h.res.mod hc (by omega), h.box.set 4 _, h.bel.setCell (p := ⟨pb, 4, none⟩) (by show w.heap.size ≤ pb; omega) _, hb⟩, hc⟩
theorem ORow.boxed {wx wy : World} {B pb : Nat} {v : Value} {X : List OP} {cs : Array Value} (h : ORow wx B v X) (ha : At wx pb cs 75) (hc : Chg (fun q => q = pb) wx wy) : ORow wy B v X :=
  h.mod hc (fun g hg e => own_ne_at h.row ha (by decide) (e ▸ hg)) (fun y hy g hg e => own_ne_at (h.dat y hy) ha (by decide) (e ▸ hg))

theorem pick_yes {g o q : Bool} (h : (g || (!o && q)) = true) : g = true ∨ (o = false ∧ q = true) := by cases g <;> cases o <;> cases q <;> simp_all
theorem pick_no {g o q : Bool} (h : (g || (!o && q)) = false) : ¬ (g = true ∨ (o = false ∧ q = true)) := by cases g <;> cases o <;> cases q <;> simp_all

set_option maxRecDepth 100000 in
set_option maxHeartbeats 16000000 in
theorem ref_Of_ok (M C S r : Nat) (vd vp : Value) (l : List Bool) (ps : List Pat) (w : World) (ok : PlanOk M C S (bitOf l) ps r) (hl : l.length = M) (hz0 : planCode M C S l ps = 0) (hd : BooSeg w vd l) (hp : PSeg w vp ps) (z : Int) (hz : GoneIs (bitOf l) M z) :
    Calls Tryz.prog 26 #[geo M C S, vd, vp] w fun e w' => (∃ vq vr X, e = .returned (.tuple #[.agg #[.int .i64 r, .int .u8 (modeOf M ps (parOf M C r) z : Nat), .int .i64 (parOf M C r : Nat), vq, vr], .int .i64 0]) ∧
      ORow w' w.heap.size vq X ∧ X.map (·.1) = ps ∧ w'.ownsRow w.heap.size 3 1 vr (readsOf ps (parOf M C r) M (modeOf M ps (parOf M C r) z)).length (mcells (readsOf ps (parOf M C r) M (modeOf M ps (parOf M C r) z)))) ∧ Below w.heap.size w w' := by
  obtain ⟨h1, h2, h3, h4, h5, h6⟩ := (geoIs_iff M C S).1 ok.hg
  have hM16 : M ≤ 16 := by omega
  have hfew := ok.few
  have hn0 := ok.ne
  have hn16 : ps.length ≤ 16 := by omega
  have hmk := modeK_is ok hz
  have hpl : parOf M C r < M := by unfold parOf; omega
  have HF0 : Hid (∀ W, Below w.heap.size w W → Calls Tryz.prog 93 #[geo M C S, vd, vp] W fun e w' => e = .returned (.int .i64 0) ∧ Below W.heap.size W w') := fun W hW => (ref_faults M C S vd vp l ps W (hd.below hW) (hp.below hW)).mono fun e w' ⟨x1, x2⟩ => ⟨by rw [x1, hz0]; rfl, x2⟩
  have HPA : Hid (∀ W, Calls Tryz.prog 94 #[geo M C S, .int .i64 r] W _) := fun W => ref_parity M C S r W ok.hg ok.hr
  have HHAS : Hid (∀ (m : Nat) W, Below w.heap.size w W → Calls Tryz.prog 95 #[vp, .int .i64 m] W _) := fun m W hW => ref_has vp ps m W (hp.below hW)
  have HRES : Hid (∀ (par : Nat) W, Below w.heap.size w W → Calls Tryz.prog 96 #[geo M C S, .int .i64 par, vp] W _) := fun par W hW => ref_rest M par C S vp ps W (hp.below hW) hM16
  have HSAM : Hid (∀ (par : Nat) W, Below w.heap.size w W → Calls Tryz.prog 97 #[geo M C S, .int .i64 par, vp] W _) := fun par W hW => ref_same M par C S vp ps W (hp.below hW) hM16
  have HD := Lib.hid hd
  have HP := Lib.hid hp
  have HO := Lib.hid ok
  obtain ⟨w0, hw0⟩ : ∃ w0, w0 = (w.alloc (.cells #[.int .i64 M, .int .i64 C, .int .i64 S] 23)).alloc (.cells #[.int .i64 0, .int .u8 0, .int .i64 0, .slice none 0 0, .slice none 0 0] 75) := ⟨_, rfl⟩
  have HB0 : Hid (Below w.heap.size w w0) := by rw [hw0]; exact ((Below.refl _ _).alloc (Nat.le_refl _) _).alloc (by rw [size_alloc]; omega) _
  have HR0 : Hid (At w0 (w.heap.size + 1) #[.int .i64 0, .int .u8 0, .int .i64 0, .slice none 0 0, .slice none 0 0] 75) := by rw [hw0]; exact At.new2 _ _ _ _
  have HG0 : Hid (At w0 w.heap.size #[.int .i64 M, .int .i64 C, .int .i64 S] 23) := by rw [hw0]; exact (At.new _ _ _).alloc _
  obtain ⟨pa, pc, rfl⟩ := hp.shape
  have hrow0 : ∀ p ∈ ps, p.r = (r : Int) := ok.rows
  obtain ⟨par, hpe⟩ : ∃ par, par = parOf M C r := ⟨_, rfl⟩
  rw [← hpe] at hmk hpl HPA ⊢
  have HMK := Lib.hid hmk
  clear hpe
  obtain ⟨b, o, rfl, hlt, hx⟩ := PSeg.full hp hn0
  have HX := Lib.hid hx
  have HX0 := (hx 0 hn0).r
  rw [hrow0 _ (List.getElem_mem hn0), Nat.zero_mul, Nat.add_zero] at HX0
  have HQ1 : Hid (∀ X, Below w.heap.size w X → X.cell? ⟨b, o + 1, none⟩ = some (.int .i64 r)) := fun X hX => (hX.cell (p := ⟨b, o + 1, none⟩) hlt).trans HX0
  obtain ⟨da, dc, rfl⟩ := hd.shape
  clear hd hp ok hx HX0 hrow0 hmk
  rw [hl] at HF0 ⊢
  generalize modeOf M ps par z = md at *
  unfold geo at *
  go_enter Tryz.func26, Tryz.ntmps26
  go_upto_region 1 with fail
  rw [← hw0]
  clear hw0
  have c0 := HG0.out.cell 0
  have c1 := HG0.out.cell 1
  have c2 := HG0.out.cell 2
  go_wp2_with (go_at_call 93; (with_reducible refine (HF0.out _ HB0.out).mono ?_); rintro e w1 ⟨rfl, hb1⟩; have HB1 := Lib.hid (below_then HB0.out hb1); have HG1 := Lib.hid (HG0.out.below hb1 HG0.out.lt); have HR1 := Lib.hid (HR0.out.below hb1 HR0.out.lt); clear hb1)
  clear c0 c1 c2
  have HK : Hid (∀ X, Below w1.heap.size w1 X → X.cell? ⟨w.heap.size, 0, none⟩ = some (.int .i64 M) ∧ X.cell? ⟨w.heap.size, 1, none⟩ = some (.int .i64 C) ∧ X.cell? ⟨w.heap.size, 2, none⟩ = some (.int .i64 S) ∧ X.cell? ⟨b, o + 1, none⟩ = some (.int .i64 r)) := fun X hX => by
    have h := HG1.out.below hX HG1.out.lt
    exact ⟨h.cell 0, h.cell 1, h.cell 2, HQ1.out _ (below_then HB1.out hX)⟩
  go_region_held3 (fun w' => w'.cell? ⟨w.heap.size, 0, none⟩ = some (.int .i64 M) ∧ w'.cell? ⟨w.heap.size, 1, none⟩ = some (.int .i64 C) ∧ w'.cell? ⟨w.heap.size, 2, none⟩ = some (.int .i64 S) ∧ w'.cell? ⟨b, o + 1, none⟩ = some (.int .i64 r))
    (first | with_reducible exact HK.out _ (Below.refl _ _) | with_reducible exact HK.out _ (Below.refl _ _).drew | with_reducible exact HK.out _ HB3.out)
    (first | (go_at_call 94; (with_reducible refine (HPA.out _).mono ?_); rintro e w3 ⟨rfl, hb3⟩; have HB3 : Hid (Below w1.heap.size w1 w3) := (Below.refl _ _).drew.trans hb3; have HG3 := Lib.hid (HG1.out.below HB3.out HG1.out.lt); have HR3 := Lib.hid (HR1.out.below HB3.out HR1.out.lt); have HW3 := Lib.hid (below_then HB1.out HB3.out); clear hb3))
  have q1 := HQ1.out _ HW3.out
  have hgl : w.heap.size + 1 < w3.heap.size := HR3.out.lt
  have HOF : Hid (OfAt w (w3.alloc (.cells #[.int .i64 r, .int .u8 0, .int .i64 par, .slice none 0 0, .slice none 0 0] 75)) M C S w3.heap.size r par 0 (.slice none 0 0) (.slice none 0 0)) :=
    ⟨HG3.out.alloc _, HR3.out.alloc _, At.new _ _ _, HW3.out.alloc HW3.out.size _, by omega⟩
  clear HK HB3 HG3 HR3 HG1 HR1 HB1 HB0 HG0 HR0
  go_upto_region 6 with fail
  have hpb : w.heap.size + 2 ≤ w3.heap.size := by omega
  generalize w3.alloc (.cells #[.int .i64 r, .int .u8 0, .int .i64 par, .slice none 0 0, .slice none 0 0] 75) = W1 at *
  generalize w3.heap.size = pb at *
  clear q1 hgl HW3
  go_wp2
  go_loopw [12, 13, 14] (fun g t q wx => ∃ k : Nat, k ≤ M ∧ q = .int .i64 k ∧ g = .bool (givK (bitOf l) ps k) ∧ t = .bool (othK (bitOf l) ps par k) ∧ OfAt w wx M C S pb r par 0 (.slice none 0 0) (.slice none 0 0)) (fun _ _ q _ => M - (intOf q).toNat)
  case atStart => exact ⟨0, by omega, rfl, rfl, rfl, HOF.out⟩
  case round =>
    obtain ⟨k, hk, rfl, rfl, rfl, hof⟩ := hrel
    have HT := Lib.hid hof
    have c0 := hof.g.cell 0
    clear hof HOF
    by_cases hkM : k < M
    · have K1 : Hid (k + 1 ≤ M) := hkM
      have HC := Lib.hid (HHAS.out k wr HT.out.bel)
      obtain ⟨db, do', dc', hve, hltd, hxd⟩ := BooSeg.full (HD.out.below HT.out.bel) (by omega)
      simp only [Value.slice.injEq] at hve
      obtain ⟨rfl, -, rfl⟩ := hve
      have d0 := hxd k (by omega)
      rw [← bit_at] at d0
      have HGS := Lib.hid (givK_succ (bitOf l) ps k)
      have HTS := Lib.hid (othK_succ (bitOf l) ps par k)
      generalize givK (bitOf l) ps k = g at *
      generalize othK (bitOf l) ps par k = t at *
      generalize hxx : bitOf l k = x at *
      generalize givenIn ps (k : Int) = i at *
      clear hxd hxx
      as_aux_lemma =>
        obtain ⟨pq, hpq, hpi⟩ : ∃ pq : Bool, (k == par) = pq ∧ ((k : Int) != (par : Int)) = !pq := by
          by_cases hp : k = par
          · exact ⟨true, by simp [hp], by simp [hp]⟩
          · exact ⟨false, by simp [hp], by simp; omega⟩
        rw [hpq] at HTS
        clear hpq
        go_upto_region 12 with (go_at_call 95; (with_reducible refine HC.out.mono ?_); rintro e w2 ⟨rfl, hb2⟩; have HT2 := Lib.hid (HT.out.below hb2); have d2 := (hb2.cell (p := ⟨db, do' + k, none⟩) hltd).trans d0; clear hb2 d0 c0)
        go_cut [12] from 50 to 59 (fun s wx => s = .bool (g || (x && i)) ∧ wx = w2)
        case first =>
          clear hpi
          cases g <;> cases x <;> cases i
          all_goals
            go_wp2
            go_meet
            exact ⟨rfl, rfl⟩
        case rest =>
          obtain ⟨rfl, rfl⟩ := hcut
          go_upto_region 13 with fail
          rw [← HGS.out]
          cases t <;> cases x <;> cases i
          all_goals
            go_wp2
            exact ⟨⟨k + 1, K1.out, by go_num, rfl, by rw [HTS.out]; cases pq <;> rfl, HT2.out⟩, by simp [intOf]; omega⟩
    · obtain rfl : k = M := by omega
      generalize givK (bitOf l) ps k = gv at *
      generalize othK (bitOf l) ps par k = ot at *
      obtain ⟨wo, rfl⟩ : ∃ wo : World, wo = wr := ⟨_, rfl⟩
      obtain ⟨M, rfl⟩ : ∃ M : Nat, M = k := ⟨_, rfl⟩
      go_wp2
      go_loopw [16] (fun q wx => ∃ (k : Nat) (vq : Value) (X : List OP), k ≤ ps.length ∧ q = .int .i64 k ∧ X.map (·.1) = ps.take k ∧ ORow wx w.heap.size vq X ∧ OfAt w wx M C S pb r par 0 vq (.slice none 0 0)) (fun q _ => ps.length - (intOf q).toNat)
      case atStart => exact ⟨0, .slice none 0 0, [], by omega, rfl, by simp, ORow.nil _ _, HT.out⟩
      case round =>
        obtain ⟨k, vq, X, hk2, rfl, hX, hor, hof⟩ := hrel
        have HMP := Lib.hid hX
        have HOR := Lib.hid hor
        have HT2 := Lib.hid hof
        have hXk : X.length = k := by
          have h := congrArg List.length hX
          rw [List.length_map, List.length_take] at h
          omega
        have HXK := Lib.hid hXk
        have hXs : X.length ≤ 16 := by omega
        clear hX hor hof HT c0 hXk
        by_cases hkn : k < ps.length
        · as_aux_lemma =>
            have K1 : Hid (k + 1 ≤ ps.length) := hkn
            obtain ⟨e0, e1, u, e2, hu⟩ := HX.out k hkn
            have hlen := HO.out.len _ (List.getElem_mem hkn)
            obtain ⟨y, hye⟩ : ∃ y, ps[k]'hkn = y := ⟨_, rfl⟩
            have HYE := Lib.hid hye
            rw [hye] at e0 e1 hu hlen
            clear hye
            obtain ⟨xm, xr, dd⟩ := y
            simp only at e0 e1 hu hlen
            obtain ⟨ua, uc, rfl⟩ := hu.shape
            obtain ⟨ub, uo, rfl, -, -⟩ := Seg.full' hu (by omega)
            have HLEN := Lib.hid hlen
            have hl0 : 0 < dd.length := by omega
            have hl1 : dd.length ≤ 128 := by omega
            clear hlen
            have HSW : Hid (∀ W, Below w.heap.size w W → W.cell? ⟨b, o + k * 3, none⟩ = some (.int .i64 xm) ∧ W.cell? ⟨b, o + k * 3 + 1, none⟩ = some (.int .i64 xr)) := fun W hW =>
              ⟨(hW.cell (p := ⟨b, o + k * 3, none⟩) hlt).trans e0, (hW.cell (p := ⟨b, o + k * 3 + 1, none⟩) hlt).trans e1⟩
            have e2' := (HT2.out.bel.cell (p := ⟨b, o + k * 3 + 2, none⟩) hlt).trans e2
            have HUC := Lib.hid (hu.below HT2.out.bel).cells
            have hwz := HT2.out.bel.size
            clear e0 e1 e2 hu
            go_upto_region 19 with (refine wpList_append_keeps rfl _ _ 53 5 1 1 rfl slice_bytes wr.heap.size (.slice none 0 0) 0 [] rfl (World.ownsRow_nil _ _ _ _) ⟨ub, uo, none⟩ dd.length uc (ucells dd) rfl (by rw [ucells_length]; omega) (HUC.out.2.2 _ rfl) (ucells_one dd) (by unfold maxLen; omega) (by omega) (Nat.le_refl _) (by omega) ?_; intro vb w5 hrow5 hvb5 hc5 hkk5; rw [Nat.zero_add, List.nil_append, HLEN.out] at hrow5; have HB5 : Hid (Below wr.heap.size wr w5) := hc5.belowAll (fun k _ e => by cases e); have HVB5 := Lib.hid hrow5; obtain ⟨va, vc, rfl⟩ := ownsRow_shape hrow5; clear hrow5 hvb5 hc5 hkk5)
            clear e2'
            have HT5 := Lib.hid (HT2.out.below HB5.out)
            have HO5 := Lib.hid (HOR.out.below HB5.out)
            have HBW5 : Hid (Below w.heap.size w w5) := below_then HT2.out.bel HB5.out
            have HTD : Hid (OfAt w w5.drew M C S pb r par 0 vq (.slice none 0 0)) := HT5.out.below (Below.refl _ _).drew
            have HOD : Hid (ORow w5.drew w.heap.size vq X) := HO5.out.below (Below.refl _ _).drew
            have HBD : Hid (Below w.heap.size w w5.drew) := HBW5.out.drew
            have HVD : Hid (w5.drew.ownsRow w.heap.size 5 1 (.slice va 128 vc) 128 (ucells dd)) := ownsRow_below (rebase_row HVB5.out hwz) (Below.refl _ _).drew (Nat.le_refl _)
            have HB7 : Hid (Below w.heap.size w (w5.drew.alloc (.cells #[.int .i64 xm, .int .i64 xr, .slice va 128 vc] 153))) := HBD.out.alloc HBD.out.size _
            have HAL : Hid (Below w5.drew.heap.size w5.drew (w5.drew.alloc (.cells #[.int .i64 xm, .int .i64 xr, .slice va 128 vc] 153))) := (Below.refl _ _).alloc (Nat.le_refl _) _
            have HT7 := Lib.hid (HTD.out.below HAL.out)
            have HO7 := Lib.hid (HOD.out.below HAL.out)
            have HVB7 := Lib.hid (ownsRow_below HVD.out HAL.out (Nat.le_refl _))
            have HAP : Hid (∀ y ∈ X, ∀ g, y.2.ownBlock = some g → (Value.slice va 128 vc).ownBlock ≠ some g) := fun y hy g hg e => by
              have h1 := ((HOR.out.dat y hy).lt g hg).2
              have h2 := (HVB5.out.lt g e).1
              omega
            have HNEW := Lib.hid (new_three w5.drew (.int .i64 xm) (.int .i64 xr) (.slice va 128 vc) 153)
            have HMX : Hid ((X ++ [((⟨xm, xr, dd⟩ : Pat), Value.slice va 128 vc)]).map (·.1) = ps.take (k + 1)) := by
              show _ = _
              rw [List.map_append, HMP.out, List.take_succ_eq_append_getElem hkn, HYE.out]
              rfl
            have p3 := HTD.out.box.cell 3
            have p3b := HT7.out.box.cell 3
            have p3c := (HT5.out.below ((Below.refl w5.heap.size w5).alloc (Nat.le_refl _) (.cells #[.int .i64 xm, .int .i64 xr, .slice va 128 vc] 153))).box.cell 3
            have p3' : w5.cell? ⟨pb, 3, none⟩ = some vq := HT5.out.box.cell 3
            clear HUC HLEN hl0 hl1 HT5 HO5 HT2 HOR HVB5 HBW5 HB5
            refine wp_region_held_drew (S := fun w' => w'.cell? ⟨b, o + k * 3, none⟩ = some (.int .i64 xm) ∧ w'.cell? ⟨b, o + k * 3 + 1, none⟩ = some (.int .i64 xr)) (by kernel_rfl) (HSW.out _ HBD.out) (fun hHeld => ?_)
            refine wpAnyH_take (i := 0) (v := (.pointer (some ⟨pb, 3, none⟩))) rfl (by kernel_rfl) (by kernel_rfl) (by kernel_rfl) (fun _ _ _ h => h) (Or.inl ⟨by rfl, fun w hSw => by go_simp⟩) hHeld ?_
            (try simp only [Act.put, List.setIfInBounds_toArray, List.set_cons_zero, List.set_cons_succ, List.getElem_toArray, List.getElem_cons_zero])
            refine wpAnyH_take (i := 2) (v := (.slice (some ⟨b, o, none⟩) ps.length pc)) rfl (by kernel_rfl) (by kernel_rfl) (by kernel_rfl) (fun _ _ _ h => h) (Or.inl ⟨by rfl, fun w hSw => by go_simp⟩) hHeld ?_
            (try simp only [Act.put, List.setIfInBounds_toArray, List.set_cons_zero, List.set_cons_succ, List.getElem_toArray, List.getElem_cons_succ, List.getElem_cons_zero])
            refine wpAnyH_take (i := 3) (v := (.int .i64 (k : Int))) rfl (by kernel_rfl) (by kernel_rfl) (by kernel_rfl) (fun _ _ _ h => h) (Or.inl ⟨by rfl, fun w hSw => by go_simp⟩) hHeld ?_
            (try simp only [Act.put, List.setIfInBounds_toArray, List.set_cons_zero, List.set_cons_succ, List.getElem_toArray, List.getElem_cons_succ, List.getElem_cons_zero])
            refine wpAnyH_take (i := 4) (v := (.pointer (some ⟨b, o + k * 3, none⟩))) rfl (by kernel_rfl) (by kernel_rfl) (by kernel_rfl) (fun _ _ _ h => h) (Or.inl ⟨by rfl, fun w hSw => by go_simp⟩) hHeld ?_
            (try simp only [Act.put, List.setIfInBounds_toArray, List.set_cons_zero, List.set_cons_succ, List.getElem_toArray, List.getElem_cons_succ, List.getElem_cons_zero])
            refine wpAnyH_take (i := 5) (v := (.pointer (some ⟨b, o + k * 3, none⟩))) rfl (by kernel_rfl) (by kernel_rfl) (by kernel_rfl) (fun _ _ _ h => h) (Or.inl ⟨by rfl, fun w hSw => by go_simp⟩) hHeld ?_
            (try simp only [Act.put, List.setIfInBounds_toArray, List.set_cons_zero, List.set_cons_succ, List.getElem_toArray, List.getElem_cons_succ, List.getElem_cons_zero])
            refine wpAnyH_take (i := 6) (v := (.int .i64 xm)) rfl (by kernel_rfl) (by kernel_rfl) (by kernel_rfl) (fun _ _ _ h => h) (Or.inl ⟨by rfl, fun w hSw => by go_simp⟩) hHeld ?_
            (try simp only [Act.put, List.setIfInBounds_toArray, List.set_cons_zero, List.set_cons_succ, List.getElem_toArray, List.getElem_cons_succ, List.getElem_cons_zero])
            refine wpAnyH_take (i := 7) (v := (.slice (some ⟨b, o, none⟩) ps.length pc)) rfl (by kernel_rfl) (by kernel_rfl) (by kernel_rfl) (fun _ _ _ h => h) (Or.inl ⟨by rfl, fun w hSw => by go_simp⟩) hHeld ?_
            (try simp only [Act.put, List.setIfInBounds_toArray, List.set_cons_zero, List.set_cons_succ, List.getElem_toArray, List.getElem_cons_succ, List.getElem_cons_zero])
            refine wpAnyH_take (i := 8) (v := (.int .i64 (k : Int))) rfl (by kernel_rfl) (by kernel_rfl) (by kernel_rfl) (fun _ _ _ h => h) (Or.inl ⟨by rfl, fun w hSw => by go_simp⟩) hHeld ?_
            (try simp only [Act.put, List.setIfInBounds_toArray, List.set_cons_zero, List.set_cons_succ, List.getElem_toArray, List.getElem_cons_succ, List.getElem_cons_zero])
            refine wpAnyH_take (i := 9) (v := (.pointer (some ⟨b, o + k * 3, none⟩))) rfl (by kernel_rfl) (by kernel_rfl) (by kernel_rfl) (fun _ _ _ h => h) (Or.inl ⟨by rfl, fun w hSw => by go_simp⟩) hHeld ?_
            (try simp only [Act.put, List.setIfInBounds_toArray, List.set_cons_zero, List.set_cons_succ, List.getElem_toArray, List.getElem_cons_succ, List.getElem_cons_zero])
            refine wpAnyH_take (i := 10) (v := (.pointer (some ⟨b, o + k * 3 + 1, none⟩))) rfl (by kernel_rfl) (by kernel_rfl) (by kernel_rfl) (fun _ _ _ h => h) (Or.inl ⟨by rfl, fun w hSw => by go_simp⟩) hHeld ?_
            (try simp only [Act.put, List.setIfInBounds_toArray, List.set_cons_zero, List.set_cons_succ, List.getElem_toArray, List.getElem_cons_succ, List.getElem_cons_zero])
            refine wpAnyH_take (i := 11) (v := (.int .i64 xr)) rfl (by kernel_rfl) (by kernel_rfl) (by kernel_rfl) (fun _ _ _ h => h) (Or.inl ⟨by rfl, fun w hSw => by go_simp⟩) hHeld ?_
            (try simp only [Act.put, List.setIfInBounds_toArray, List.set_cons_zero, List.set_cons_succ, List.getElem_toArray, List.getElem_cons_succ, List.getElem_cons_zero])
            refine wpAnyH_take (i := 12) (v := (.slice va 128 vc)) rfl (by kernel_rfl) (by kernel_rfl) (by kernel_rfl) (fun _ _ _ h => h) (Or.inl ⟨by rfl, fun w hSw => by go_simp⟩) hHeld ?_
            (try simp only [Act.put, List.setIfInBounds_toArray, List.set_cons_zero, List.set_cons_succ, List.getElem_toArray, List.getElem_cons_succ, List.getElem_cons_zero])
            refine wpAnyH_take (i := 13) (v := (.agg #[.int .i64 xm, .int .i64 xr, .slice va 128 vc])) rfl (by kernel_rfl) (by kernel_rfl) (by kernel_rfl) (fun _ _ _ h => h) (Or.inl ⟨by rfl, fun w hSw => by go_simp⟩) hHeld ?_
            (try simp only [Act.put, List.setIfInBounds_toArray, List.set_cons_zero, List.set_cons_succ, List.getElem_toArray, List.getElem_cons_succ, List.getElem_cons_zero])
            refine wpAnyH_ready (rs := [1, 14]) (by kernel_rfl) (by simp) ?_
            refine AllReadyH.cons (o := { dst := some 90, op := Op.load 69 (Operand.tmp 89), type := 69, pos := "ref.go:183", after := #[{ on := 0, ground := Ground.data }], guard := none }) rfl (fun K hK => ?_) (AllReadyH.cons (o := { dst := some 103, op := Op.buildSlice 69 1 #[(0, Operand.tmp 102)], type := 69, pos := "ref.go:183", after := #[{ on := 13, ground := Ground.data }], guard := none }) rfl (fun K hK => ?_) AllReadyH.nil)
            · go_simp
              refine hK.out _ _ (HSW.out _ HBD.out) (fun hHeld => ?_)
              clear hK K
              (try simp only [Act.put, List.setIfInBounds_toArray, List.set_cons_zero, List.set_cons_succ, List.getElem_toArray, List.getElem_cons_succ, List.getElem_cons_zero])
              refine wpAnyH_ready (rs := [14]) (by kernel_rfl) (by simp) ?_
              refine AllReadyH.cons (o := { dst := some 103, op := Op.buildSlice 69 1 #[(0, Operand.tmp 102)], type := 69, pos := "ref.go:183", after := #[{ on := 13, ground := Ground.data }], guard := none }) rfl (fun K hK => ?_) AllReadyH.nil
              go_simp
              refine hK.out _ _ (HSW.out _ HB7.out) (fun hHeld => ?_)
              clear hK K
              (try simp only [Act.put, List.setIfInBounds_toArray, List.set_cons_zero, List.set_cons_succ, List.getElem_toArray, List.getElem_cons_succ, List.getElem_cons_zero])
              refine wpAnyH_ready (rs := [15]) (by kernel_rfl) (by simp) ?_
              refine AllReadyH.cons (o := { dst := some 104, op := Op.call { callee := Callee.builtin Builtin.append, args := #[Operand.tmp 90, Operand.tmp 103], argTypes := #[69, 69] }, type := 69, pos := "ref.go:183", after := #[{ on := 1, ground := Ground.data }, { on := 14, ground := Ground.data }], guard := none }) rfl (fun K hK => ?_) AllReadyH.nil
              rw [if_pos (by rfl)]
              refine wp_append_keeps _ _ 69 153 3 40 rfl slice_pats w.heap.size vq X.length _ rfl HO7.out.row _ 1 1 [.int .i64 xm, .int .i64 xr, .slice va 128 vc] rfl rfl (HNEW.out _ rfl) (by intro u hu; simp at hu; rcases hu with rfl | rfl | rfl <;> rfl) (by unfold maxLen; omega) (by omega) HB7.out.size (by omega) ?_
              intro v' w10 hrow10 hvb10 hc10
              have hbx : At w10 pb #[.int .i64 r, .int .u8 0, .int .i64 par, vq, .slice none 0 0] 75 := HT7.out.box.mod hc10 (own_ne_at HO7.out.row HT7.out.box (by decide))
              have HB10 : Hid (Below w.heap.size w w10) := Chg.own HB7.out hc10 (fun q hq => (HO7.out.row.lt q hq).1)
              have p3 := hbx.cell 3
              have p3f := hbx.free 3
              have HBX := Lib.hid hbx
              have HORN := Lib.hid (HO7.out.snoc (x := (⟨xm, xr, dd⟩, .slice va 128 vc)) hc10 HVB7.out HAP.out hrow10)
              have HTG := Lib.hid (HT7.out.g.mod hc10 (own_ne_at HO7.out.row HT7.out.g (by decide)))
              have HTR := Lib.hid (HT7.out.res.mod hc10 (own_ne_at HO7.out.row HT7.out.res (by decide)))
              obtain ⟨va2, vc2, rfl⟩ := ownsRow_shape hrow10
              clear hrow10 hvb10 hc10 hbx
              refine hK.out _ _ (HSW.out _ HB10.out) (fun hHeld => ?_)
              clear hK K
              (try simp only [Act.put, List.setIfInBounds_toArray, List.set_cons_zero, List.set_cons_succ])
              refine wpAnyH_take (i := 16) (v := (.pointer (some ⟨pb, 3, none⟩))) rfl (by kernel_rfl) (by kernel_rfl) (by kernel_rfl) (fun _ _ _ h => h) (Or.inl ⟨by rfl, fun w hSw => by go_simp⟩) hHeld ?_
              (try simp only [Act.put, List.setIfInBounds_toArray, List.set_cons_zero, List.set_cons_succ, List.getElem_toArray, List.getElem_cons_succ, List.getElem_cons_zero])
              refine wpAnyH_ready (rs := [17]) (by kernel_rfl) (by simp) ?_
              refine AllReadyH.cons (o := { dst := none, op := Op.store 69 (Operand.tmp 105) (Operand.tmp 104), type := 0, pos := "ref.go:183", after := #[{ on := 16, ground := Ground.data }, { on := 15, ground := Ground.data }, { on := 15, ground := Ground.chain }, { on := 0, ground := Ground.phase }, { on := 1, ground := Ground.phase }, { on := 2, ground := Ground.phase }, { on := 3, ground := Ground.phase }, { on := 4, ground := Ground.phase }, { on := 5, ground := Ground.phase }, { on := 6, ground := Ground.phase }, { on := 7, ground := Ground.phase }, { on := 8, ground := Ground.phase }, { on := 9, ground := Ground.phase }, { on := 10, ground := Ground.phase }, { on := 11, ground := Ground.phase }, { on := 12, ground := Ground.phase }, { on := 13, ground := Ground.phase }, { on := 14, ground := Ground.phase }, { on := 15, ground := Ground.phase }], guard := none }) rfl (fun K hK => ?_) AllReadyH.nil
              have HB11 : Hid (Below w.heap.size w (w10.setCell ⟨pb, 3, none⟩ (.slice va2 (X.length + 1) vc2))) := HB10.out.setCell (p := ⟨pb, 3, none⟩) (by show w.heap.size ≤ pb; omega) _
              go_simp
              refine hK.out _ _ (HSW.out _ HB11.out) (fun hHeld => ?_)
              clear hK K
              (try simp only [Act.put, List.setIfInBounds_toArray, List.set_cons_zero, List.set_cons_succ, List.getElem_toArray, List.getElem_cons_succ, List.getElem_cons_zero])
              refine wpAnyH_done (by kernel_rfl) ?_ _
              clear p3 p3f
              go_wp2
              go_roundw
              case measure => simp [intOf]; omega
              have hst : Chg (fun q => q = pb) w10 (w10.setCell ⟨pb, 3, none⟩ (.slice va2 (X.length + 1) vc2)) := Chg.setCell (S := fun q => q = pb) (Chg.refl _ _) ⟨pb, 3, none⟩ (.inl rfl) _
              refine ⟨k + 1, .slice va2 (X.length + 1) vc2, X ++ [(⟨xm, xr, dd⟩, .slice va 128 vc)], K1.out, by go_num, HMX.out, HORN.out.mod hst (fun q hq e => own_ne_at HORN.out.row HBX.out (by decide) (e ▸ hq)) (fun y hy q hq e => own_ne_at (HORN.out.dat y hy) HBX.out (by decide) (e ▸ hq)), HTG.out.mod hst (by omega), HTR.out.mod hst (by omega), HBX.out.set 3 _, HB11.out, hpb⟩
            · go_simp
              refine hK.out _ _ (HSW.out _ HB7.out) (fun hHeld => ?_)
              clear hK K
              (try simp only [Act.put, List.setIfInBounds_toArray, List.set_cons_zero, List.set_cons_succ, List.getElem_toArray, List.getElem_cons_succ, List.getElem_cons_zero])
              refine wpAnyH_ready (rs := [1]) (by kernel_rfl) (by simp) ?_
              refine AllReadyH.cons (o := { dst := some 90, op := Op.load 69 (Operand.tmp 89), type := 69, pos := "ref.go:183", after := #[{ on := 0, ground := Ground.data }], guard := none }) rfl (fun K hK => ?_) AllReadyH.nil
              go_simp
              refine hK.out _ _ (HSW.out _ HB7.out) (fun hHeld => ?_)
              clear hK K
              (try simp only [Act.put, List.setIfInBounds_toArray, List.set_cons_zero, List.set_cons_succ, List.getElem_toArray, List.getElem_cons_succ, List.getElem_cons_zero])
              refine wpAnyH_ready (rs := [15]) (by kernel_rfl) (by simp) ?_
              refine AllReadyH.cons (o := { dst := some 104, op := Op.call { callee := Callee.builtin Builtin.append, args := #[Operand.tmp 90, Operand.tmp 103], argTypes := #[69, 69] }, type := 69, pos := "ref.go:183", after := #[{ on := 1, ground := Ground.data }, { on := 14, ground := Ground.data }], guard := none }) rfl (fun K hK => ?_) AllReadyH.nil
              rw [if_pos (by rfl)]
              refine wp_append_keeps _ _ 69 153 3 40 rfl slice_pats w.heap.size vq X.length _ rfl HO7.out.row _ 1 1 [.int .i64 xm, .int .i64 xr, .slice va 128 vc] rfl rfl (HNEW.out _ rfl) (by intro u hu; simp at hu; rcases hu with rfl | rfl | rfl <;> rfl) (by unfold maxLen; omega) (by omega) HB7.out.size (by omega) ?_
              intro v' w10 hrow10 hvb10 hc10
              have hbx : At w10 pb #[.int .i64 r, .int .u8 0, .int .i64 par, vq, .slice none 0 0] 75 := HT7.out.box.mod hc10 (own_ne_at HO7.out.row HT7.out.box (by decide))
              have HB10 : Hid (Below w.heap.size w w10) := Chg.own HB7.out hc10 (fun q hq => (HO7.out.row.lt q hq).1)
              have p3 := hbx.cell 3
              have p3f := hbx.free 3
              have HBX := Lib.hid hbx
              have HORN := Lib.hid (HO7.out.snoc (x := (⟨xm, xr, dd⟩, .slice va 128 vc)) hc10 HVB7.out HAP.out hrow10)
              have HTG := Lib.hid (HT7.out.g.mod hc10 (own_ne_at HO7.out.row HT7.out.g (by decide)))
              have HTR := Lib.hid (HT7.out.res.mod hc10 (own_ne_at HO7.out.row HT7.out.res (by decide)))
              obtain ⟨va2, vc2, rfl⟩ := ownsRow_shape hrow10
              clear hrow10 hvb10 hc10 hbx
              refine hK.out _ _ (HSW.out _ HB10.out) (fun hHeld => ?_)
              clear hK K
              (try simp only [Act.put, List.setIfInBounds_toArray, List.set_cons_zero, List.set_cons_succ])
              refine wpAnyH_take (i := 16) (v := (.pointer (some ⟨pb, 3, none⟩))) rfl (by kernel_rfl) (by kernel_rfl) (by kernel_rfl) (fun _ _ _ h => h) (Or.inl ⟨by rfl, fun w hSw => by go_simp⟩) hHeld ?_
              (try simp only [Act.put, List.setIfInBounds_toArray, List.set_cons_zero, List.set_cons_succ, List.getElem_toArray, List.getElem_cons_succ, List.getElem_cons_zero])
              refine wpAnyH_ready (rs := [17]) (by kernel_rfl) (by simp) ?_
              refine AllReadyH.cons (o := { dst := none, op := Op.store 69 (Operand.tmp 105) (Operand.tmp 104), type := 0, pos := "ref.go:183", after := #[{ on := 16, ground := Ground.data }, { on := 15, ground := Ground.data }, { on := 15, ground := Ground.chain }, { on := 0, ground := Ground.phase }, { on := 1, ground := Ground.phase }, { on := 2, ground := Ground.phase }, { on := 3, ground := Ground.phase }, { on := 4, ground := Ground.phase }, { on := 5, ground := Ground.phase }, { on := 6, ground := Ground.phase }, { on := 7, ground := Ground.phase }, { on := 8, ground := Ground.phase }, { on := 9, ground := Ground.phase }, { on := 10, ground := Ground.phase }, { on := 11, ground := Ground.phase }, { on := 12, ground := Ground.phase }, { on := 13, ground := Ground.phase }, { on := 14, ground := Ground.phase }, { on := 15, ground := Ground.phase }], guard := none }) rfl (fun K hK => ?_) AllReadyH.nil
              have HB11 : Hid (Below w.heap.size w (w10.setCell ⟨pb, 3, none⟩ (.slice va2 (X.length + 1) vc2))) := HB10.out.setCell (p := ⟨pb, 3, none⟩) (by show w.heap.size ≤ pb; omega) _
              go_simp
              refine hK.out _ _ (HSW.out _ HB11.out) (fun hHeld => ?_)
              clear hK K
              (try simp only [Act.put, List.setIfInBounds_toArray, List.set_cons_zero, List.set_cons_succ, List.getElem_toArray, List.getElem_cons_succ, List.getElem_cons_zero])
              refine wpAnyH_done (by kernel_rfl) ?_ _
              clear p3 p3f
              go_wp2
              go_roundw
              case measure => simp [intOf]; omega
              have hst : Chg (fun q => q = pb) w10 (w10.setCell ⟨pb, 3, none⟩ (.slice va2 (X.length + 1) vc2)) := Chg.setCell (S := fun q => q = pb) (Chg.refl _ _) ⟨pb, 3, none⟩ (.inl rfl) _
              refine ⟨k + 1, .slice va2 (X.length + 1) vc2, X ++ [(⟨xm, xr, dd⟩, .slice va 128 vc)], K1.out, by go_num, HMX.out, HORN.out.mod hst (fun q hq e => own_ne_at HORN.out.row HBX.out (by decide) (e ▸ hq)) (fun y hy q hq e => own_ne_at (HORN.out.dat y hy) HBX.out (by decide) (e ▸ hq)), HTG.out.mod hst (by omega), HTR.out.mod hst (by omega), HBX.out.set 3 _, HB11.out, hpb⟩
        · obtain rfl : k = ps.length := by omega
          have HXP : Hid (X.map (·.1) = ps) := by have h := HMP.out; rw [List.take_length] at h; exact h
          obtain ⟨wo, rfl⟩ : ∃ wo : World, wo = wr := ⟨_, rfl⟩
          have HORO := Lib.hid HOR.out
          have HTO := Lib.hid HT2.out
          have b1 := HTO.out.box.cell 1
          have f1 := HTO.out.box.free 1
          have k0 := HTO.out.g.cell 0
          obtain ⟨db, do', dc', hve, hltd, hxd⟩ := BooSeg.full (HD.out.below HTO.out.bel) (by omega)
          simp only [Value.slice.injEq] at hve
          obtain ⟨rfl, -, rfl⟩ := hve
          have d0 := hxd par (by omega)
          rw [← bit_at] at d0
          have HMK2 := Lib.hid HMK.out
          clear hxd HMP HOR HT2 HMK HXK
          generalize bitOf l par = xp at *
          go_upto_block 4 with fail
          go_cut [112] from 106 to 149 (fun _ wx => ∃ vr, OfAt w wx M C S pb r par md vq vr ∧ ORow wx w.heap.size vq X ∧ wx.ownsRow w.heap.size 3 1 vr (readsOf ps par M md).length (mcells (readsOf ps par M md)))
          case first =>
            by_cases q0 : ps.length = M - 1
            · have hmd : md = 1 := by rw [← HMK2.out]; unfold modeK; rw [if_pos q0]
              have q1 : ((ps.length : Int) == (M : Int) - 1) = true := by simp; omega
              have HF := Lib.hid (HTO.out.setm 1)
              have HN : Hid (readsOf ps par M 1 = ([] : List Nat)) := rfl
              subst hmd
              clear q0
              as_aux_lemma =>
                go_wp2
                go_meet
                exact ⟨.slice none 0 0, HF.out.1, HORO.out.boxed HTO.out.box HF.out.2, by rw [HN.out]; exact World.ownsRow_nil _ _ _ _⟩
            · have q1 : ((ps.length : Int) == (M : Int) - 1) = false := by simp; omega
              cases xp
              · have hrest : ∀ (hgo : gv = true ∨ (ot = false ∧ M - 1 - ps.length < ps.length + 1)), md = 3 := fun hgo => by rw [← HMK2.out]; unfold modeK; rw [if_neg q0, if_neg (by simp), if_pos hgo]
                have hmod : ∀ (hgo : ¬ (gv = true ∨ (ot = false ∧ M - 1 - ps.length < ps.length + 1))), md = 2 := fun hgo => by rw [← HMK2.out]; unfold modeK; rw [if_neg q0, if_neg (by simp), if_neg hgo]
                obtain ⟨Q, q2, q3⟩ : ∃ Q : Bool, (Q = true ↔ M - 1 - ps.length < ps.length + 1) ∧ decide ((M : Int) - 1 - (ps.length : Int) < (ps.length : Int) + 1) = Q := by
                  by_cases q2 : M - 1 - ps.length < ps.length + 1
                  · exact ⟨true, by simp [q2], decide_eq_true (by omega)⟩
                  · exact ⟨false, by simp [q2], decide_eq_false (by omega)⟩
                have HQ2 := Lib.hid q2
                clear q2
                go_upto_region 26 with fail
                go_cut [126] from 127 to 143 (fun s wx => s = .bool (gv || (!ot && Q)) ∧ wx = wo)
                case first =>
                  cases gv <;> cases ot
                  all_goals
                    go_wp2
                    go_meet
                    exact ⟨by cases Q <;> rfl, rfl⟩
                case rest =>
                  obtain ⟨rfl, rfl⟩ := hcut
                  cases hR : (gv || (!ot && Q))
                  · have hmd : md = 2 := hmod (by rw [← HQ2.out]; exact pick_no hR)
                    have HF := Lib.hid (HTO.out.setm 2)
                    have k0' := HF.out.1.g.cell 0
                    have k1' := HF.out.1.g.cell 1
                    have k2' := HF.out.1.g.cell 2
                    have HCL := Lib.hid (HSAM.out par _ HF.out.1.bel)
                    have HRD : Hid (readsOf ps par M 2 = whichTo (isOld ps par) M) := rfl
                    have HORF := Lib.hid (HORO.out.boxed HTO.out.box HF.out.2)
                    have hwz := HF.out.1.bel.size
                    subst hmd
                    clear q0 hrest hmod
                    generalize whichTo (isOld ps par) M = RL at *
                    as_aux_lemma =>
                      go_wp2_with (go_at_call 97; (with_reducible refine HCL.out.mono ?_); rintro e w2 ⟨u, rfl, hown, hb2⟩; have HF2 := Lib.hid (HF.out.1.below hb2); have HOR3 := Lib.hid (HORF.out.below hb2); have HOW := Lib.hid (rebase_row hown hwz); have b4 := HF2.out.box.cell 4; have f4 := HF2.out.box.free 4; obtain ⟨ua, uc, rfl⟩ := ownsRow_shape hown; clear hown hb2)
                      have HG := Lib.hid (HF2.out.setr (.slice ua RL.length uc))
                      go_meet
                      exact ⟨_, HG.out.1, HOR3.out.boxed HF2.out.box HG.out.2, by rw [HRD.out]; exact ownsRow_mod HOW.out HG.out.2 (fun g hg e => own_ne_at HOW.out HF2.out.box (by decide) (e ▸ hg))⟩
                  · have hmd : md = 3 := hrest (by rw [← HQ2.out]; exact pick_yes hR)
                    have HF := Lib.hid (HTO.out.setm 3)
                    have k0' := HF.out.1.g.cell 0
                    have k1' := HF.out.1.g.cell 1
                    have k2' := HF.out.1.g.cell 2
                    have HCL := Lib.hid (HRES.out par _ HF.out.1.bel)
                    have HRD : Hid (readsOf ps par M 3 = whichTo (isRest ps par) M) := rfl
                    have HORF := Lib.hid (HORO.out.boxed HTO.out.box HF.out.2)
                    have hwz := HF.out.1.bel.size
                    subst hmd
                    clear q0 hrest hmod
                    generalize whichTo (isRest ps par) M = RL at *
                    as_aux_lemma =>
                      go_wp2_with (go_at_call 96; (with_reducible refine HCL.out.mono ?_); rintro e w2 ⟨u, rfl, hown, hb2⟩; have HF2 := Lib.hid (HF.out.1.below hb2); have HOR3 := Lib.hid (HORF.out.below hb2); have HOW := Lib.hid (rebase_row hown hwz); have b4 := HF2.out.box.cell 4; have f4 := HF2.out.box.free 4; obtain ⟨ua, uc, rfl⟩ := ownsRow_shape hown; clear hown hb2)
                      have HG := Lib.hid (HF2.out.setr (.slice ua RL.length uc))
                      go_meet
                      exact ⟨_, HG.out.1, HOR3.out.boxed HF2.out.box HG.out.2, by rw [HRD.out]; exact ownsRow_mod HOW.out HG.out.2 (fun g hg e => own_ne_at HOW.out HF2.out.box (by decide) (e ▸ hg))⟩
              · have hmd : md = 4 := by rw [← HMK2.out]; unfold modeK; rw [if_neg q0, if_pos rfl]
                have HF := Lib.hid (HTO.out.setm 4)
                have HN : Hid (readsOf ps par M 4 = ([] : List Nat)) := rfl
                subst hmd
                clear q0
                as_aux_lemma =>
                  go_wp2
                  go_meet
                  exact ⟨.slice none 0 0, HF.out.1, HORO.out.boxed HTO.out.box HF.out.2, by rw [HN.out]; exact World.ownsRow_nil _ _ _ _⟩
          case rest =>
            obtain ⟨vr, hof, hor, hown⟩ := hcut
            have HOF2 := Lib.hid hof
            have HOR2 := Lib.hid hor
            have HOWN2 := Lib.hid hown
            obtain ⟨va, vc, rfl⟩ := ownsRow_shape hor.row
            obtain ⟨ra, rc, rfl⟩ := ownsRow_shape hown
            have x0 := hof.box.cell 0
            have x1 := hof.box.cell 1
            have x2 := hof.box.cell 2
            have x3 := hof.box.cell 3
            have x4 := hof.box.cell 4
            have y0 := hof.res.cell 0
            have y1 := hof.res.cell 1
            have y2 := hof.res.cell 2
            have y3 := hof.res.cell 3
            have y4 := hof.res.cell 4
            have z0 := hof.res.free 0
            have z1 := hof.res.free 1
            have z2 := hof.res.free 2
            have z3 := hof.res.free 3
            have z4 := hof.res.free 4
            have HF := Lib.hid (((((hof.res.set 0 (.int .i64 r)).set 1 (.int .u8 md)).set 2 (.int .i64 par)).set 3 (.slice va X.length vc)).set 4 (.slice ra (readsOf ps par M md).length rc))
            clear hof hor hown b1 f1 k0 d0
            generalize hrl : (readsOf ps par M md).length = rl at *
            generalize hxl : X.length = xl at *
            have HCH : Hid (Chg (fun g => g = w.heap.size + 1) wc (((((wc.setCell ⟨w.heap.size + 1, 0, none⟩ (.int .i64 r)).setCell ⟨w.heap.size + 1, 1, none⟩ (.int .u8 md)).setCell ⟨w.heap.size + 1, 2, none⟩ (.int .i64 par)).setCell ⟨w.heap.size + 1, 3, none⟩ (.slice va xl vc)).setCell ⟨w.heap.size + 1, 4, none⟩ (.slice ra rl rc))) := Chg.setCell (S := fun g => g = w.heap.size + 1) (Chg.setCell (S := fun g => g = w.heap.size + 1) (Chg.setCell (S := fun g => g = w.heap.size + 1) (Chg.setCell (S := fun g => g = w.heap.size + 1) (Chg.setCell (S := fun g => g = w.heap.size + 1) (Chg.refl _ _) ⟨w.heap.size + 1, 0, none⟩ (.inl rfl) _) ⟨w.heap.size + 1, 1, none⟩ (.inl rfl) _) ⟨w.heap.size + 1, 2, none⟩ (.inl rfl) _) ⟨w.heap.size + 1, 3, none⟩ (.inl rfl) _) ⟨w.heap.size + 1, 4, none⟩ (.inl rfl) _
            go_wp2
            have r0 := HF.out.cell 0
            have r1 := HF.out.cell 1
            have r2 := HF.out.cell 2
            have r3 := HF.out.cell 3
            have r4 := HF.out.cell 4
            clear x0 x1 x2 x3 x4 y0 y1 y2 y3 y4 z0 z1 z2 z3 z4
            (try simp only [Exit.inBlock, Exit.then])
            refine bodyPost_ret (v := .tuple #[.agg #[.int .i64 r, .int .u8 md, .int .i64 par, .slice va xl vc, .slice ra rl rc], .int .i64 0]) ?_ rfl ⟨⟨_, _, X, rfl, ?_, HXP.out, ?_⟩, Chg.own HOF2.out.bel HCH.out (fun g hg => by omega)⟩
            · rw [results_cell_tmp rfl]
              go_simp
              try rfl
            · exact (HOR2.out.mod HCH.out (fun g hg e => own_ne_at HOR2.out.row HOF2.out.res (by decide) (e ▸ hg)) (fun y hy g hg e => own_ne_at (HOR2.out.dat y hy) HOF2.out.res (by decide) (e ▸ hg)))
            · have h := ownsRow_mod HOWN2.out HCH.out (fun g hg e => own_ne_at HOWN2.out HOF2.out.res (by decide) (e ▸ hg))
              rw [← hrl] at h ⊢
              exact h

end Go.Proofs.YtpegbgomnpinfaaGreat
