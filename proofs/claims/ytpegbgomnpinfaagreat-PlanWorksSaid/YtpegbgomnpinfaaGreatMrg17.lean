/- Several texts in one: PlyD, PlyK. -/
import Derived.Test.YtpegbgomnpinfaaGreatMrg16
import Derived.Test.YtpegbgomnpinfaaGreatMrg4
import Derived.Test.YtpegbgomnpinfaaGreatMrg11
/- Too many patches to be looked at. -/
set_option linter.unusedVariables false
namespace Go.Proofs.YtpegbgomnpinfaaGreat
open Go.RowKit

set_option maxRecDepth 100000 in
set_option maxHeartbeats 2000000 in
theorem much_pats (v : Value) (us : List Pat) (w : World) (hv : PSeg w v us) :
    Calls Tryz.prog 19 #[v] w fun e w' => e = .returned (.bool (muchIs (us.map (·.d.length)))) ∧ w' = w := by
  obtain ⟨F, hF⟩ : ∃ F : List Nat, F = us.map (·.d.length) := ⟨_, rfl⟩
  have hFl : F.length = us.length := by rw [hF, List.length_map]
  have HF := Lib.hid hF
  rw [← hF]
  clear hF
  have hfew := hv.few
  have hdl : ∀ u ∈ us, u.d.length ≤ 140737488355000 := by obtain ⟨_, _, _, _, h, _⟩ := hv; exact h
  have HDL := Lib.hid hdl
  have HV := Lib.hid hv
  obtain ⟨va, vc, rfl⟩ := hv.shape
  clear hv hdl
  go_enter Tryz.func19, Tryz.ntmps19
  go_wp2
  go_loopw [3, 4] (fun t q wr => ∃ (k : Nat) (n : Int), k ≤ us.length ∧ q = .int .i64 k ∧ t = .int .i64 n ∧ 0 ≤ n ∧ n ≤ 281474976710656 ∧ muchN (F.drop k) n = muchN F F.length ∧ wr = w) (fun _ q _ => us.length - (intOf q).toNat)
  case atStart => exact ⟨0, us.length, by omega, rfl, rfl, by omega, by omega, by rw [List.drop_zero, hFl], rfl⟩
  case round =>
    obtain ⟨k, n, hk, rfl, rfl, hn0, hn1, hmu, rfl⟩ := hrel
    have HMU := Lib.hid hmu
    clear hmu
    by_cases hkn : k < us.length
    · have b0 : decide ((k : Int) < (us.length : Int)) = true := decide_eq_true (by omega)
      by_cases hn : n ≤ 300000
      · have b1 : decide (n ≤ 300000) = true := decide_eq_true hn
        obtain ⟨b, o, rfl, hlt, hx⟩ := PSeg.full HV.out (by omega)
        obtain ⟨-, -, x, c1, hs⟩ := hx k hkn
        have hl := HDL.out _ (List.getElem_mem hkn)
        obtain ⟨xa, xc, rfl⟩ := hs.shape
        have K1 : Hid (k + 1 ≤ us.length) := hkn
        have HST : Hid (muchN (F.drop k) n = muchN (F.drop (k + 1)) (n + ((us[k]'hkn).d.length : Nat))) := by
          have h := muchN_step F k (by rw [hFl]; exact hkn) hn
          have e : F[k]'(by rw [hFl]; exact hkn) = (us[k]'hkn).d.length := by
            have hf := HF.out
            subst hf
            exact List.getElem_map _
          rw [e] at h
          exact h
        clear hx hs
        generalize (us[k]'hkn).d.length = m at *
        go_wp2
        exact ⟨⟨k + 1, n + m, K1.out, by go_num, by go_num, by omega, by omega, HST.out.symm.trans HMU.out, trivial⟩, by simp [intOf]; omega⟩
      · have b1 : decide (n ≤ 300000) = false := decide_eq_false hn
        have hend : muchIs F = true := by
          unfold muchIs
          rw [← HMU.out, muchN_big _ hn]
          exact decide_eq_true (by omega)
        have HE := Lib.hid hend
        clear hend
        go_wp2
        go_ret
        exact ⟨by rw [HE.out]; rfl, rfl⟩
    · have b0 : decide ((k : Int) < (us.length : Int)) = false := decide_eq_false (by omega)
      have hend : muchIs F = decide (300000 < n) := by
        unfold muchIs
        rw [← HMU.out, List.drop_of_length_le (by omega)]
        rfl
      have HE := Lib.hid hend
      clear hend
      go_wp2
      go_ret
      exact ⟨by rw [HE.out]; rfl, rfl⟩

end Go.Proofs.YtpegbgomnpinfaaGreat

/- PlanPlans, of too much. -/
set_option linter.unusedVariables false
namespace Go.Proofs.YtpegbgomnpinfaaGreat
open Go.RowKit

set_option maxRecDepth 100000 in
set_option maxHeartbeats 1000000 in
theorem plans_much (m c s : Int) (vd vp : Value) (l : List Bool) (ps : List Pat) (w : World) (hd : BooSeg w vd l) (hp : PSeg w vp ps) (hm : muchIs (ps.map (·.d.length)) = true ∨ 1000 < l.length) :
    Calls Tryz.prog 4 #[geo m c s, vd, vp] w fun e w' => e = .returned (.bool true) ∧ Below w.heap.size w w' := by
  have HB0 : Hid (Below w.heap.size w (w.alloc (.cells #[.int .i64 m, .int .i64 c, .int .i64 s] 23))) := (Below.refl _ _).alloc (Nat.le_refl _) _
  have hmp : Hid (∀ W, Below w.heap.size w W → _) := fun W hW => much_pats vp ps W (hp.below hW)
  obtain ⟨pa, pc, rfl⟩ := hp.shape
  obtain ⟨da, dc, rfl⟩ := hd.shape
  cases hq : muchIs (ps.map (·.d.length))
  · have hlong := hm.resolve_left (by rw [hq]; simp)
    have hd1 : decide ((1000 : Int) < (l.length : Int)) = true := decide_eq_true (by omega)
    have hd2 : 1000 < l.length := hlong
    rw [hq] at hmp
    clear hd hp hm hq hlong
    unfold geo at *
    go_enter Tryz.func4, Tryz.ntmps4
    go_wp2_with (first
      | (go_at_call 19; (with_reducible refine (hmp.out _ HB0.out).mono ?_); rintro e w1 ⟨rfl, rfl⟩))
    go_ret
    exact ⟨rfl, HB0.out⟩
  · rw [hq] at hmp
    clear hd hp hm hq
    unfold geo at *
    go_enter Tryz.func4, Tryz.ntmps4
    go_wp2_with (first
      | (go_at_call 19; (with_reducible refine (hmp.out _ HB0.out).mono ?_); rintro e w1 ⟨rfl, rfl⟩))
    go_ret
    exact ⟨rfl, HB0.out⟩

end Go.Proofs.YtpegbgomnpinfaaGreat
