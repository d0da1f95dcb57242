/- Several texts in one: PlyF, PlyD, PlyK. -/
import Derived.Test.YtpegbgomnpinfaaGreatPlwF
import Derived.Test.YtpegbgomnpinfaaGreatMrg5
import Derived.Test.YtpegbgomnpinfaaGreatMrg13
import Derived.Test.YtpegbgomnpinfaaGreatPlnA
import Derived.Test.YtpegbgomnpinfaaGreatPlyE
/- Two plans that are the same. -/
set_option linter.unusedVariables false
namespace Go.Proofs.YtpegbgomnpinfaaGreat
open Go.RowKit

set_option maxRecDepth 100000 in
set_option maxHeartbeats 1000000 in
theorem same_plan (r md par : Int) (vq vr vq2 vr2 : Value) (ps : List Pat) (rl : List Nat) (w : World) (hq : PSeg w vq ps) (hq2 : PSeg w vq2 ps) (hr : ISeg w vr rl) (hr2 : ISeg w vr2 rl) (hrl : rl.length ≤ 1000000) :
    Calls Tryz.prog 29 #[.agg #[.int .i64 r, .int .u8 md, .int .i64 par, vq, vr], .agg #[.int .i64 r, .int .u8 md, .int .i64 par, vq2, vr2]] w fun e w' => e = .returned (.bool true) ∧ Below w.heap.size w w' := by
  have HP : Hid (∀ W, Below w.heap.size w W → Calls Tryz.prog 43 #[vq, vq2] W _) := fun W hW => same_pats vq vq2 ps W (hq.below hW) (hq2.below hW)
  have HI : Hid (∀ W, Below w.heap.size w W → Calls Tryz.prog 64 #[vr, vr2] W fun e w' => e = .returned (.bool true) ∧ Below W.heap.size W w') := fun W hW => (same_ints vr vr2 rl rl W hrl hrl (hr.below hW) (hr2.below hW)).mono fun e w' ⟨x1, x2⟩ => ⟨by rw [x1]; simp, x2⟩
  obtain ⟨a, c, rfl⟩ := hq.shape
  obtain ⟨a2, c2, rfl⟩ := hq2.shape
  obtain ⟨a3, c3, rfl⟩ := hr.shape
  obtain ⟨a4, c4, rfl⟩ := hr2.shape
  have HB0 : Hid (Below w.heap.size w ((w.alloc (.cells #[.int .i64 r, .int .u8 md, .int .i64 par, .slice a ps.length c, .slice a3 rl.length c3] 75)).alloc (.cells #[.int .i64 r, .int .u8 md, .int .i64 par, .slice a2 ps.length c2, .slice a4 rl.length c4] 75))) := ((Below.refl _ _).alloc (Nat.le_refl _) _).alloc (by rw [size_alloc]; omega) _
  have HA2 : Hid (At ((w.alloc (.cells #[.int .i64 r, .int .u8 md, .int .i64 par, .slice a ps.length c, .slice a3 rl.length c3] 75)).alloc (.cells #[.int .i64 r, .int .u8 md, .int .i64 par, .slice a2 ps.length c2, .slice a4 rl.length c4] 75)) w.heap.size #[.int .i64 r, .int .u8 md, .int .i64 par, .slice a ps.length c, .slice a3 rl.length c3] 75) := (At.new w _ _).alloc _
  have HA3 : Hid (At ((w.alloc (.cells #[.int .i64 r, .int .u8 md, .int .i64 par, .slice a ps.length c, .slice a3 rl.length c3] 75)).alloc (.cells #[.int .i64 r, .int .u8 md, .int .i64 par, .slice a2 ps.length c2, .slice a4 rl.length c4] 75)) (w.heap.size + 1) #[.int .i64 r, .int .u8 md, .int .i64 par, .slice a2 ps.length c2, .slice a4 rl.length c4] 75) := by
    have h := At.new (w.alloc (.cells #[.int .i64 r, .int .u8 md, .int .i64 par, .slice a ps.length c, .slice a3 rl.length c3] 75)) #[.int .i64 r, .int .u8 md, .int .i64 par, .slice a2 ps.length c2, .slice a4 rl.length c4] 75
    rw [size_alloc] at h
    exact h
  clear hq hq2 hr hr2
  go_enter Tryz.func29, Tryz.ntmps29
  go_wp2_with (first
    | (go_at_call 43; (with_reducible refine (HP.out _ HB0.out).mono ?_); rintro e w2 ⟨rfl, hb2⟩; have HB2 := Lib.hid (below_then HB0.out hb2); have hc2 := (HA2.out.below hb2 HA2.out.lt).cell 4; have hc3 := (HA3.out.below hb2 HA3.out.lt).cell 4; clear hb2)
    | (go_at_call 64; (with_reducible refine (HI.out _ HB2.out).mono ?_); rintro e w3 ⟨rfl, hb3⟩; have HB3 := Lib.hid (below_then HB2.out hb3); clear hb3))
  go_ret
  exact ⟨rfl, HB3.out⟩

end Go.Proofs.YtpegbgomnpinfaaGreat

/- Too many patches to be looked at. -/
set_option linter.unusedVariables false
namespace Go.Proofs.YtpegbgomnpinfaaGreat
open Go.RowKit

set_option maxRecDepth 100000 in
set_option maxHeartbeats 2000000 in
theorem much_pats (v : Value) (us : List Pat) (w : World) (hv : PSeg w v us) :
    Calls Tryz.prog 19 #[v] w fun e w' => e = .returned (.bool (muchIs (us.map (·.d.length)))) ∧ w' = w := by
  obtain ⟨F, hF⟩ : ∃ F : List Nat, F = us.map (·.d.length) := ⟨_, rfl⟩
  have hFl : F.length = us.length := by rw [hF, List.length_map]
  have HF := Lib.hid hF
  rw [← hF]
  clear hF
  have hfew := hv.few
  have hdl : ∀ u ∈ us, u.d.length ≤ 140737488355000 := by obtain ⟨_, _, _, _, h, _⟩ := hv; exact h
  have HDL := Lib.hid hdl
  have HV := Lib.hid hv
  obtain ⟨va, vc, rfl⟩ := hv.shape
  clear hv hdl
  go_enter Tryz.func19, Tryz.ntmps19
  go_wp2
  go_loopw [3, 4] (fun t q wr => ∃ (k : Nat) (n : Int), k ≤ us.length ∧ q = .int .i64 k ∧ t = .int .i64 n ∧ 0 ≤ n ∧ n ≤ 281474976710656 ∧ muchN (F.drop k) n = muchN F F.length ∧ wr = w) (fun _ q _ => us.length - (intOf q).toNat)
  case atStart => exact ⟨0, us.length, by omega, rfl, rfl, by omega, by omega, by rw [List.drop_zero, hFl], rfl⟩
  case round =>
    obtain ⟨k, n, hk, rfl, rfl, hn0, hn1, hmu, rfl⟩ := hrel
    have HMU := Lib.hid hmu
    clear hmu
    by_cases hkn : k < us.length
    · have b0 : decide ((k : Int) < (us.length : Int)) = true := decide_eq_true (by omega)
      by_cases hn : n ≤ 300000
      · have b1 : decide (n ≤ 300000) = true := decide_eq_true hn
        obtain ⟨b, o, rfl, hlt, hx⟩ := PSeg.full HV.out (by omega)
        obtain ⟨-, -, x, c1, hs⟩ := hx k hkn
        have hl := HDL.out _ (List.getElem_mem hkn)
        obtain ⟨xa, xc, rfl⟩ := hs.shape
        have K1 : Hid (k + 1 ≤ us.length) := hkn
        have HST : Hid (muchN (F.drop k) n = muchN (F.drop (k + 1)) (n + ((us[k]'hkn).d.length : Nat))) := by
          have h := muchN_step F k (by rw [hFl]; exact hkn) hn
          have e : F[k]'(by rw [hFl]; exact hkn) = (us[k]'hkn).d.length := by
            have hf := HF.out
            subst hf
            exact List.getElem_map _
          rw [e] at h
          exact h
        clear hx hs
        generalize (us[k]'hkn).d.length = m at *
        go_wp2
        exact ⟨⟨k + 1, n + m, K1.out, by go_num, by go_num, by omega, by omega, HST.out.symm.trans HMU.out, trivial⟩, by simp [intOf]; omega⟩
      · have b1 : decide (n ≤ 300000) = false := decide_eq_false hn
        have hend : muchIs F = true := by
          unfold muchIs
          rw [← HMU.out, muchN_big _ hn]
          exact decide_eq_true (by omega)
        have HE := Lib.hid hend
        clear hend
        go_wp2
        go_ret
        exact ⟨by rw [HE.out]; rfl, rfl⟩
    · have b0 : decide ((k : Int) < (us.length : Int)) = false := decide_eq_false (by omega)
      have hend : muchIs F = decide (300000 < n) := by
        unfold muchIs
        rw [← HMU.out, List.drop_of_length_le (by omega)]
        rfl
      have HE := Lib.hid hend
      clear hend
      go_wp2
      go_ret
      exact ⟨by rw [HE.out]; rfl, rfl⟩

end Go.Proofs.YtpegbgomnpinfaaGreat

/- PlanPlans, of too much. -/
set_option linter.unusedVariables false
namespace Go.Proofs.YtpegbgomnpinfaaGreat
open Go.RowKit

set_option maxRecDepth 100000 in
set_option maxHeartbeats 1000000 in
theorem plans_much (m c s : Int) (vd vp : Value) (l : List Bool) (ps : List Pat) (w : World) (hd : BooSeg w vd l) (hp : PSeg w vp ps) (hm : muchIs (ps.map (·.d.length)) = true ∨ 1000 < l.length) :
    Calls Tryz.prog 4 #[geo m c s, vd, vp] w fun e w' => e = .returned (.bool true) ∧ Below w.heap.size w w' := by
  have HB0 : Hid (Below w.heap.size w (w.alloc (.cells #[.int .i64 m, .int .i64 c, .int .i64 s] 23))) := (Below.refl _ _).alloc (Nat.le_refl _) _
  have hmp : Hid (∀ W, Below w.heap.size w W → _) := fun W hW => much_pats vp ps W (hp.below hW)
  obtain ⟨pa, pc, rfl⟩ := hp.shape
  obtain ⟨da, dc, rfl⟩ := hd.shape
  cases hq : muchIs (ps.map (·.d.length))
  · have hlong := hm.resolve_left (by rw [hq]; simp)
    have hd1 : decide ((1000 : Int) < (l.length : Int)) = true := decide_eq_true (by omega)
    have hd2 : 1000 < l.length := hlong
    rw [hq] at hmp
    clear hd hp hm hq hlong
    unfold geo at *
    go_enter Tryz.func4, Tryz.ntmps4
    go_wp2_with (first
      | (go_at_call 19; (with_reducible refine (hmp.out _ HB0.out).mono ?_); rintro e w1 ⟨rfl, rfl⟩))
    go_ret
    exact ⟨rfl, HB0.out⟩
  · rw [hq] at hmp
    clear hd hp hm hq
    unfold geo at *
    go_enter Tryz.func4, Tryz.ntmps4
    go_wp2_with (first
      | (go_at_call 19; (with_reducible refine (hmp.out _ HB0.out).mono ?_); rintro e w1 ⟨rfl, rfl⟩))
    go_ret
    exact ⟨rfl, HB0.out⟩

end Go.Proofs.YtpegbgomnpinfaaGreat
