/- spindleref13: are two plans the same; plan.like, of any two with one row of patches. -/
import Derived.Test.YtpegbgomnpinfaaGreatMrg11
import Derived.Laws.IdiomStrings
set_option linter.unusedVariables false
namespace Go.Proofs.YtpegbgomnpinfaaGreat
open Go.RowKit

/-- Are two plans the same, their patches apart? -/
def headIs (r md par r' md' par' : Int) (zl zl' : List Int) : Bool := decide (r = r') && (decide (md = md') && (decide (par = par') && decide (zl = zl')))

theorem str_same (s : ByteArray) : (s != s) = false := by
  cases s with | mk d =>
  show (!((⟨d⟩ : ByteArray) == ⟨d⟩)) = false
  have h : ((⟨d⟩ : ByteArray) == ⟨d⟩) = true := by
    show (d == d) = true
    simp
  rw [h]
  rfl

set_option maxRecDepth 100000 in
set_option maxHeartbeats 8000000 in
theorem ref_samePlan (r md par r' md' par' : Int) (vq vr vq' vr' : Value) (ps ps' : List Pat) (zl zl' : List Int) (w : World) (hq : PSeg w vq ps) (hq' : PSeg w vq' ps') (hz : ZSeg w vr zl) (hz' : ZSeg w vr' zl')
    (hn : ps.length ≤ 300000) (hn' : ps'.length ≤ 300000) (hzl : zl.length ≤ 1000000) (hzl' : zl'.length ≤ 1000000) (hsame : ps.length = ps'.length → ps = ps') (hlen : ∀ p ∈ ps', p.d.length = 128) :
    Calls Tryz.prog 111 #[planVal r md par vq vr, planVal r' md' par' vq' vr'] w fun e w' => e = .returned (.bool (decide (ps.length = ps'.length) && headIs r md par r' md' par' zl zl')) ∧ Below w.heap.size w w' := by
  have HQ := Lib.hid hq
  have HQ' := Lib.hid hq'
  have HZ := Lib.hid hz
  have HZ' := Lib.hid hz'
  obtain ⟨a, c, rfl⟩ := hq.shape
  obtain ⟨a2, c2, rfl⟩ := hq'.shape
  obtain ⟨a3, c3, rfl⟩ := hz.shape
  obtain ⟨a4, c4, rfl⟩ := hz'.shape
  obtain ⟨w0, hw0⟩ : ∃ w0, w0 = (w.alloc (.cells #[.int .i64 r, .int .u8 md, .int .i64 par, .slice a ps.length c, .slice a3 zl.length c3] 75)).alloc (.cells #[.int .i64 r', .int .u8 md', .int .i64 par', .slice a2 ps'.length c2, .slice a4 zl'.length c4] 75) := ⟨_, rfl⟩
  have HB0 : Hid (Below w.heap.size w w0) := by rw [hw0]; exact ((Below.refl _ _).alloc (Nat.le_refl _) _).alloc (by rw [size_alloc]; omega) _
  have HA0 : Hid (At w0 w.heap.size #[.int .i64 r, .int .u8 md, .int .i64 par, .slice a ps.length c, .slice a3 zl.length c3] 75) := by rw [hw0]; exact (At.new _ _ _).alloc _
  have HC0 : Hid (At w0 (w.heap.size + 1) #[.int .i64 r', .int .u8 md', .int .i64 par', .slice a2 ps'.length c2, .slice a4 zl'.length c4] 75) := by rw [hw0]; exact At.new2 _ _ _ _
  obtain ⟨ans, hans⟩ : ∃ ans, ans = (decide (ps.length = ps'.length) && headIs r md par r' md' par' zl zl') := ⟨_, rfl⟩
  rw [← hans]
  have HANS := Lib.hid hans
  have HSAME := Lib.hid hsame
  have HLEN := Lib.hid hlen
  clear hq hq' hz hz' hsame hlen hans
  unfold planVal
  go_enter Tryz.func111, Tryz.ntmps111
  go_upto_region 1 with fail
  rw [← hw0]
  clear hw0
  have x0 := HA0.out.cell 0
  have x1 := HA0.out.cell 1
  have x2 := HA0.out.cell 2
  have x3 := HA0.out.cell 3
  have x4 := HA0.out.cell 4
  have y0 := HC0.out.cell 0
  have y1 := HC0.out.cell 1
  have y2 := HC0.out.cell 2
  have y3 := HC0.out.cell 3
  have y4 := HC0.out.cell 4
  by_cases e0 : ¬ r = r'
  · have n0 : (r != r') = true := by simpa using e0
    have HN : Hid (ans = false) := HANS.out.trans (by unfold headIs; rw [decide_eq_false e0]; simp)
    clear e0
    as_aux_lemma =>
      go_wp2
      go_ret
      exact ⟨by rw [HN.out]; rfl, HB0.out⟩
  replace e0 := Classical.not_not.1 e0
  by_cases e1 : ¬ md = md'
  · have n0 : (r != r') = false := by simpa using e0
    have n1 : (md != md') = true := by simpa using e1
    have HN : Hid (ans = false) := HANS.out.trans (by unfold headIs; rw [decide_eq_false e1]; simp)
    clear e0 e1
    as_aux_lemma =>
      go_wp2
      go_ret
      exact ⟨by rw [HN.out]; rfl, HB0.out⟩
  replace e1 := Classical.not_not.1 e1
  by_cases e2 : ¬ par = par'
  · have n0 : (r != r') = false := by simpa using e0
    have n1 : (md != md') = false := by simpa using e1
    have n2 : (par != par') = true := by simpa using e2
    have HN : Hid (ans = false) := HANS.out.trans (by unfold headIs; rw [decide_eq_false e2]; simp)
    clear e0 e1 e2
    as_aux_lemma =>
      go_wp2
      go_ret
      exact ⟨by rw [HN.out]; rfl, HB0.out⟩
  replace e2 := Classical.not_not.1 e2
  have n0 : (r != r') = false := by simpa using e0
  have n1 : (md != md') = false := by simpa using e1
  have n2 : (par != par') = false := by simpa using e2
  have HANS1 : Hid (ans = (decide (ps.length = ps'.length) && decide (zl = zl'))) := HANS.out.trans (by unfold headIs; rw [decide_eq_true e0, decide_eq_true e1, decide_eq_true e2]; simp)
  clear e0 e1 e2 HANS
  by_cases e3 : ¬ ps.length = ps'.length
  · have n3 : ((ps.length : Int) != (ps'.length : Int)) = true := by simp; omega
    have HN : Hid (ans = false) := HANS1.out.trans (by rw [decide_eq_false e3]; rfl)
    clear e3
    as_aux_lemma =>
      go_wp2
      go_ret
      exact ⟨by rw [HN.out]; rfl, HB0.out⟩
  replace e3 := Classical.not_not.1 e3
  obtain rfl := HSAME.out e3
  have HANS2 : Hid (ans = decide (zl = zl')) := HANS1.out.trans (by rw [decide_eq_true rfl]; rfl)
  have n3 : ((ps.length : Int) != (ps.length : Int)) = false := by simp
  clear e3 HANS1 HSAME
  by_cases e4 : ¬ zl.length = zl'.length
  · have n4 : ((zl.length : Int) != (zl'.length : Int)) = true := by simp; omega
    have HN : Hid (ans = false) := HANS2.out.trans (decide_eq_false fun e => e4 (by rw [e]))
    clear e4
    as_aux_lemma =>
      go_wp2
      go_ret
      exact ⟨by rw [HN.out]; rfl, HB0.out⟩
  replace e4 := Classical.not_not.1 e4
  have n4 : ((zl.length : Int) != (zl'.length : Int)) = false := by simp; omega
  have HE4 := Lib.hid e4
  clear e4
  go_wp2
  clear x0 x1 x2 x3 x4 y0 y1 y2 y3 y4
  go_loopw [5] (fun i wr => ∃ k : Nat, k ≤ ps.length ∧ i = .int .i64 k ∧ At wr w.heap.size #[.int .i64 r, .int .u8 md, .int .i64 par, .slice a ps.length c, .slice a3 zl.length c3] 75 ∧ At wr (w.heap.size + 1) #[.int .i64 r', .int .u8 md', .int .i64 par', .slice a2 ps.length c2, .slice a4 zl'.length c4] 75 ∧ Below w.heap.size w wr) (fun i _ => ps.length - (intOf i).toNat)
  case atStart => exact ⟨0, by omega, rfl, HA0.out, HC0.out, HB0.out⟩
  case round =>
    obtain ⟨k, hk, rfl, hA, hC, hB⟩ := hrel
    have HA := Lib.hid hA
    have HC := Lib.hid hC
    have HB := Lib.hid hB
    have x3 := hA.cell 3
    have y3 := hC.cell 3
    clear hA hC HA0 HC0 HB0
    by_cases hkn : k < ps.length
    · have K1 : Hid (k + 1 ≤ ps.length) := hkn
      obtain ⟨b1, o1, rfl, hl1, h1⟩ := PSeg.full (HQ.out.below hB) (by omega)
      obtain ⟨b2, o2, rfl, hl2, h2⟩ := PSeg.full (HQ'.out.below hB) (by omega)
      obtain ⟨p0, p1, u, p2, hu⟩ := h1 k hkn
      obtain ⟨q0, q1, u', q2, hu'⟩ := h2 k hkn
      have h128 := HLEN.out _ (List.getElem_mem hkn)
      obtain ⟨y, hye⟩ : ∃ y, ps[k]'hkn = y := ⟨_, rfl⟩
      rw [hye] at p0 p1 hu q0 q1 hu' h128
      obtain ⟨ym, yr, yd⟩ := y
      simp only at p0 p1 hu q0 q1 hu' h128
      obtain ⟨ua, uc, rfl⟩ := hu.shape
      obtain ⟨ua', uc', rfl⟩ := hu'.shape
      obtain ⟨ub, uo, rfl, hub, hux⟩ := Seg.full' hu (by omega)
      obtain ⟨ub', uo', rfl, hub', hux'⟩ := Seg.full' hu' (by omega)
      obtain ⟨s, hs⟩ : ∃ s : ByteArray, s = ⟨yd.toArray⟩ := ⟨_, rfl⟩
      have HCV : ∀ nq, (convert 53 9 (.slice (some ⟨ub, uo, none⟩) yd.length uc)).run Tryz.prog (wr.drewN nq) = .ok (.string s) (wr.drewN nq) := fun nq => by
        rw [hs]
        exact run_convert_bytes_back (wr.drewN nq) _ _ 5 ⟨ub, uo, none⟩ uc yd Tryz.underlying53 Tryz.underlying5 Tryz.underlying9 (fun j hj => by rw [Go.WideShapes.add_plain]; exact hux j hj)
      have HCV' : ∀ nq, (convert 53 9 (.slice (some ⟨ub', uo', none⟩) yd.length uc')).run Tryz.prog (wr.drewN nq) = .ok (.string s) (wr.drewN nq) := fun nq => by
        rw [hs]
        exact run_convert_bytes_back (wr.drewN nq) _ _ 5 ⟨ub', uo', none⟩ uc' yd Tryz.underlying53 Tryz.underlying5 Tryz.underlying9 (fun j hj => by rw [Go.WideShapes.add_plain]; exact hux' j hj)
      have hss := str_same s
      clear h1 h2 hu hu' hux hux' hye h128 hs
      generalize yd.length = n at *
      go_wp2
      go_quiet (fail)
      go_wp2
      go_roundw
      case rel => exact ⟨k + 1, K1.out, by rfl, HA.out.below (below_drewN (Below.refl _ _) _) HA.out.lt, HC.out.below (below_drewN (Below.refl _ _) _) HC.out.lt, below_drewN HB.out _⟩
      case measure =>
        (try simp [intOf])
        omega
    · obtain rfl : k = ps.length := by omega
      obtain ⟨wo, rfl⟩ : ∃ wo : World, wo = wr := ⟨_, rfl⟩
      go_wp2
      clear x3 y3
      go_loopw [6] (fun i wr => ∃ k : Nat, k ≤ zl.length ∧ i = .int .i64 k ∧ zl.take k = zl'.take k ∧ At wr w.heap.size #[.int .i64 r, .int .u8 md, .int .i64 par, .slice a ps.length c, .slice a3 zl.length c3] 75 ∧ At wr (w.heap.size + 1) #[.int .i64 r', .int .u8 md', .int .i64 par', .slice a2 ps.length c2, .slice a4 zl'.length c4] 75 ∧ Below w.heap.size w wr) (fun i _ => zl.length - (intOf i).toNat)
      case atStart => exact ⟨0, Nat.zero_le _, rfl, rfl, HA.out, HC.out, HB.out⟩
      case round =>
        obtain ⟨k, hk2, rfl, htake, hA, hC, hB2⟩ := hrel
        have HA2 := Lib.hid hA
        have HC2 := Lib.hid hC
        have HB2 := Lib.hid hB2
        have x4 := hA.cell 4
        have y4 := hC.cell 4
        have Htake := Lib.hid htake
        clear hA hC htake HA HC HB
        by_cases hlt : k < zl.length
        · have hlt' : k < zl'.length := by have := HE4.out; omega
          obtain ⟨b1, o1, c1', e1, hb1, h1⟩ := ZSeg.full (HZ.out.below hB2) (by omega)
          obtain ⟨b2, o2, c2', e2, hb2, h2⟩ := ZSeg.full (HZ'.out.below hB2) (by omega)
          simp only [Value.slice.injEq] at e1 e2
          obtain ⟨rfl, _, rfl⟩ := e1
          obtain ⟨rfl, _, rfl⟩ := e2
          have d1 := h1 k hlt
          have d2 := h2 k hlt'
          clear h1 h2
          by_cases heq : zl[k] = zl'[k]
          · have hx : ((zl[k] : Int) != zl'[k]) = false := by rw [heq]; simp
            have Hn := Lib.hid (take_eq_succ Htake.out hlt hlt' heq)
            generalize zl[k] = x at *
            generalize zl'[k] = y at *
            clear heq
            go_wp2
            go_quiet (fail)
            go_wp2
            go_roundw
            case rel => exact ⟨k + 1, by omega, by go_num, Hn.out, HA2.out.below (below_drewN (Below.refl _ _) _) HA2.out.lt, HC2.out.below (below_drewN (Below.refl _ _) _) HC2.out.lt, below_drewN HB2.out _⟩
            case measure => simp [intOf]; omega
          · have hx : ((zl[k] : Int) != zl'[k]) = true := by simp only [bne_iff_ne, ne_eq]; exact heq
            have Hn : Hid (ans = false) := HANS2.out.trans (decide_eq_false fun e => heq (by subst e; rfl))
            generalize zl[k] = x at *
            generalize zl'[k] = y at *
            clear heq
            go_wp2
            go_quiet (fail)
            go_wp2
            go_ret
            exact ⟨by rw [Hn.out]; rfl, below_drewN HB2.out _⟩
        · have Hn : Hid (ans = true) := HANS2.out.trans (decide_eq_true (by
            have h := Htake.out
            rw [List.take_of_length_le (by omega), List.take_of_length_le (by have := HE4.out; omega)] at h
            exact h))
          clear Htake
          go_wp2
          go_ret
          exact ⟨by rw [Hn.out]; rfl, HB2.out⟩

set_option maxRecDepth 100000 in
set_option maxHeartbeats 2000000 in
theorem plan_likeZ (r md par r' md' par' : Int) (vq vr vq' vr' : Value) (ps : List Pat) (zl zl' : List Int) (w : World) (hl : zl.length ≤ 1000000) (hl' : zl'.length ≤ 1000000) (h1 : PSeg w vq ps) (h2 : ZSeg w vr zl) (h3 : PSeg w vq' ps) (h4 : ZSeg w vr' zl') :
    Calls Tryz.prog 102 #[planVal r md par vq vr, planVal r' md' par' vq' vr'] w fun e w' => e = .returned (.bool (headIs r md par r' md' par' zl zl')) ∧ Below w.heap.size w w' := by
  obtain ⟨qa, qc, rfl⟩ := h1.shape
  obtain ⟨ra, rc, rfl⟩ := h2.shape
  obtain ⟨qa', qc', rfl⟩ := h3.shape
  obtain ⟨ra', rc', rfl⟩ := h4.shape
  have hpf := h1.few
  obtain ⟨w0, hw0⟩ : ∃ w0, w0 = (w.alloc (.cells #[.int .i64 r, .int .u8 md, .int .i64 par, .slice qa ps.length qc, .slice ra zl.length rc] 75)).alloc (.cells #[.int .i64 r', .int .u8 md', .int .i64 par', .slice qa' ps.length qc', .slice ra' zl'.length rc'] 75) := ⟨_, rfl⟩
  have hb0 : Below w.heap.size w w0 := by rw [hw0]; exact ((Below.refl _ _).alloc (Nat.le_refl _) _).alloc (by rw [size_alloc]; omega) _
  have HA : Hid (At w0 w.heap.size #[.int .i64 r, .int .u8 md, .int .i64 par, .slice qa ps.length qc, .slice ra zl.length rc] 75) := by rw [hw0]; exact (At.new _ _ _).alloc _
  have HB : Hid (At w0 (w.heap.size + 1) #[.int .i64 r', .int .u8 md', .int .i64 par', .slice qa' ps.length qc', .slice ra' zl'.length rc'] 75) := by rw [hw0]; exact At.new2 _ _ _ _
  have he := Lib.hid (equal_pats _ _ ps _ (h1.below hb0) (h3.below hb0))
  have hi := Lib.hid (fun (W : World) (hW : Below _ _ W) => equal_zs _ _ zl zl' W (by omega) (by omega) ((h2.below hb0).below hW) ((h4.below hb0).below hW))
  have HB0 := Lib.hid hb0
  obtain ⟨ans, hans⟩ : ∃ ans, ans = headIs r md par r' md' par' zl zl' := ⟨_, rfl⟩
  rw [← hans]
  have HANS := Lib.hid hans
  clear h1 h2 h3 h4 hans hb0
  unfold planVal
  go_enter Tryz.func102, Tryz.ntmps102
  go_upto_region 1 with fail
  rw [← hw0]
  clear hw0
  have x0 := HA.out.cell 0
  have x1 := HA.out.cell 1
  have x2 := HA.out.cell 2
  have x3 := HA.out.cell 3
  have y0 := HB.out.cell 0
  have y1 := HB.out.cell 1
  have y2 := HB.out.cell 2
  have y3 := HB.out.cell 3
  by_cases e0 : ¬ r = r'
  · have n0 : (r == r') = false := by simpa using e0
    have HN : Hid (ans = false) := HANS.out.trans (by unfold headIs; rw [decide_eq_false e0]; simp)
    clear e0
    as_aux_lemma =>
      go_wp2
      go_ret
      exact ⟨by rw [HN.out]; rfl, HB0.out⟩
  replace e0 := Classical.not_not.1 e0
  by_cases e1 : ¬ md = md'
  · have n0 : (r == r') = true := by simpa using e0
    have n1 : (md == md') = false := by simpa using e1
    have HN : Hid (ans = false) := HANS.out.trans (by unfold headIs; rw [decide_eq_false e1]; simp)
    clear e0 e1
    as_aux_lemma =>
      go_wp2
      go_ret
      exact ⟨by rw [HN.out]; rfl, HB0.out⟩
  replace e1 := Classical.not_not.1 e1
  by_cases e2 : ¬ par = par'
  · have n0 : (r == r') = true := by simpa using e0
    have n1 : (md == md') = true := by simpa using e1
    have n2 : (par == par') = false := by simpa using e2
    have HN : Hid (ans = false) := HANS.out.trans (by unfold headIs; rw [decide_eq_false e2]; simp)
    clear e0 e1 e2
    as_aux_lemma =>
      go_wp2
      go_ret
      exact ⟨by rw [HN.out]; rfl, HB0.out⟩
  replace e2 := Classical.not_not.1 e2
  have n0 : (r == r') = true := by simpa using e0
  have n1 : (md == md') = true := by simpa using e1
  have n2 : (par == par') = true := by simpa using e2
  have HANS1 : Hid (ans = decide (zl = zl')) := HANS.out.trans (by unfold headIs; rw [decide_eq_true e0, decide_eq_true e1, decide_eq_true e2]; simp)
  clear e0 e1 e2 HANS
  generalize decide (zl = zl') = zq at *
  go_wp2_with (first
    | (go_at_call 149; (with_reducible refine he.out.mono ?_); rintro e w1 ⟨rfl, hb1⟩; have HB1 := Lib.hid (below_then HB0.out hb1); have HW1 := Lib.hid hb1; clear x0 x1 x2 x3 y0 y1 y2 y3; have a4 := (HA.out.below hb1 HA.out.lt).cell 4; have b4 := (HB.out.below hb1 HB.out.lt).cell 4; clear hb1)
    | (go_at_call 150; (with_reducible refine (hi.out w1 HW1.out).mono ?_); rintro e w2 ⟨rfl, hb2⟩; have HB2 := Lib.hid (below_then HB1.out hb2); clear hb2))
  go_ret
  exact ⟨by rw [HANS1.out]; rfl, HB2.out⟩

end Go.Proofs.YtpegbgomnpinfaaGreat
