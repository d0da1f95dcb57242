/- plan.Work, where what was read is short. -/
import Derived.Test.YtpegbgomnpinfaaGreatMrg15
set_option linter.unusedVariables false
namespace Go.Proofs.YtpegbgomnpinfaaGreat
open Go.RowKit

set_option maxRecDepth 100000 in
set_option maxHeartbeats 8000000 in
theorem plan_Work_short (M C S rr : Nat) (r md par : Int) (vd vq vr vrd : Value) (l : List Bool) (ps : List Pat) (zl : List Int) (ls : List (List UInt8)) (w : World) (ok : PlanOk M C S (bitOf l) ps rr) (hl : l.length = M) (z : Int) (hgz : GoneIs (bitOf l) M z) (hzl : zl.length ≤ 1000000) (hlf : ls.length ≤ 300000) (hll : ∀ l ∈ ls, l.length ≤ 300000)
    (hd : BooSeg w vd l) (hq : PSeg w vq ps) (hz : ZSeg w vr zl) (hls : Segs w vrd ls) (L : List Nat) (hL : L = readsOf ps (parOf M C rr) M (modeOf M ps (parOf M C rr) z))
    (hhd : headIs r md par rr (modeOf M ps (parOf M C rr) z : Nat) (parOf M C rr : Nat) zl (L.map fun x : Nat => (x : Int)) = true) (hlm : ls.length = M) (hLm : ∀ m ∈ L, m < M) (hshort : ∃ m ∈ L, (ls.getD m []).length ≠ 128) :
    Calls Tryz.prog 33 #[geo M C S, vd, planVal r md par vq vr, vrd] w fun e w' => e = .returned (.tuple #[.slice none 0 0, .int .u16 4]) ∧ Below w.heap.size w w' := by
  have h16 := (geoIs_iff M C S).1 ok.hg
  have hfew := ok.few
  have hLl : L.length ≤ 16 := by rw [hL]; have := readsOf_length ps (parOf M C rr) M (modeOf M ps (parOf M C rr) z); omega
  have hk := Lib.hid (fun W => geom_check M C S W)
  unfold geoCode at hk
  rw [ok.hg] at hk
  simp only [if_true] at hk
  have hof : Hid (∀ W, Below w.heap.size w W → _) := fun W hW => plan_Of M C S rr vd vq (bitOf l) ps W ok (by have h := hd.bseg; rw [hl] at h; exact h.below hW) (hq.below hW) z hgz
  rw [← hL] at hof
  generalize parOf M C rr = qpar at *
  generalize modeOf M ps qpar z = qmd at *
  have hlk : Hid (∀ (W : World) vq' vr', Below w.heap.size w W → PSeg W vq' ps → ZSeg W vr' (L.map fun x : Nat => (x : Int)) → _) := fun W vq' vr' hW h1 h2 => plan_likeZ r md par rr qmd qpar vq vr vq' vr' ps zl _ W hzl (by rw [List.length_map]; omega) (hq.below hW) (hz.below hW) h1 h2
  rw [hhd] at hlk
  have hnew := Lib.hid (fun W => xor_new 128 W (by omega))
  simp only [show ((128 : Nat) : Int) = 128 from rfl] at hnew
  have HLS := Lib.hid hls
  have HLL := Lib.hid hll
  have HLM := Lib.hid hlm
  have HLMM := Lib.hid hLm
  have HSH := Lib.hid hshort
  obtain ⟨qa, qc, rfl⟩ := hq.shape
  obtain ⟨da, dc, rfl⟩ := hd.shape
  obtain ⟨ra, rc, rfl⟩ := hz.shape
  obtain ⟨sa, sc, rfl⟩ := hls.shape
  rw [hl] at hof ⊢
  rw [hlm] at ⊢
  have hne : ((M : Int) != (M : Int)) = false := by simp
  have hps : ps.length ≤ 16 := by omega
  obtain ⟨w0, hw0⟩ : ∃ w0, w0 = (w.alloc (.cells #[.int .i64 M, .int .i64 C, .int .i64 S] 23)).alloc (.cells #[.int .i64 r, .int .u8 md, .int .i64 par, .slice qa ps.length qc, .slice ra zl.length rc] 75) := ⟨_, rfl⟩
  have HB0 : Hid (Below w.heap.size w w0) := by rw [hw0]; exact ((Below.refl _ _).alloc (Nat.le_refl _) _).alloc (by rw [size_alloc]; omega) _
  have HG0 : Hid (At w0 w.heap.size #[.int .i64 M, .int .i64 C, .int .i64 S] 23) := by rw [hw0]; exact (At.new _ _ _).alloc _
  have HP0 : Hid (At w0 (w.heap.size + 1) #[.int .i64 r, .int .u8 md, .int .i64 par, .slice qa ps.length qc, .slice ra zl.length rc] 75) := by rw [hw0]; exact At.new2 _ _ _ _
  clear hd hq hz hls hL hgz hhd hll hlm hLm hshort
  unfold geo planVal at *
  go_enter Tryz.func33, Tryz.ntmps33
  go_upto_region 1 with fail
  rw [← hw0]
  clear hw0
  have c0 := HG0.out.cell 0
  have c1 := HG0.out.cell 1
  have c2 := HG0.out.cell 2
  go_wp2_with (first
    | (go_at_call 101; (with_reducible refine (hk.out _).mono ?_); rintro e w1 ⟨rfl, hb1⟩; clear c0 c1 c2; have hg1 := HG0.out.below hb1 HG0.out.lt; have hp1 := HP0.out.below hb1 HP0.out.lt; have c0 := hg1.cell 0; have c1 := hg1.cell 1; have c2 := hg1.cell 2; have c3 := hp1.cell 3; have HP1 := Lib.hid hp1; have HG1 := Lib.hid hg1; have HB1 := Lib.hid (below_then HB0.out hb1); clear hg1 hp1 hb1)
    | (go_at_call 22; (with_reducible refine (hof.out _ HB1.out).mono ?_); rintro e w4 ⟨vq', vr', dv, rfl, hpr, hri, hb4⟩; obtain ⟨qa', qc', rfl⟩ := ownsRow_shape hpr.row; obtain ⟨ra', rc', rfl⟩ := ownsRow_shape hri; have hal := (Below.refl w4.heap.size w4).alloc (Nat.le_refl _) (.cells #[.int .i64 rr, .int .u8 qmd, .int .i64 qpar, .slice qa' ps.length qc', .slice ra' L.length rc'] 75); have HB5 := Lib.hid (below_then (below_then HB1.out hb4) hal); have hA5 := (HP1.out.below hb4 HP1.out.lt).alloc (.cells #[.int .i64 rr, .int .u8 qmd, .int .i64 qpar, .slice qa' ps.length qc', .slice ra' L.length rc'] 75); have HG5 := Lib.hid ((HG1.out.below hb4 HG1.out.lt).alloc (.cells #[.int .i64 rr, .int .u8 qmd, .int .i64 qpar, .slice qa' ps.length qc', .slice ra' L.length rc'] 75)); have hQ5 := At.new w4 #[.int .i64 rr, .int .u8 qmd, .int .i64 qpar, .slice qa' ps.length qc', .slice ra' L.length rc'] 75; have a0 := hA5.cell 0; have a1 := hA5.cell 1; have a2 := hA5.cell 2; have a3 := hA5.cell 3; have a4 := hA5.cell 4; have b0 := hQ5.cell 0; have b1 := hQ5.cell 1; have b2 := hQ5.cell 2; have b3 := hQ5.cell 3; have b4 := hQ5.cell 4; have HL5 := Lib.hid (hlk.out _ _ _ HB5.out ((hpr.below hal).pseg (by omega)) (zseg_of_members (ownsRow_below hri hal (Nat.le_refl _)))); have HRI5 := Lib.hid (ownsRow_below hri hal (Nat.le_refl _)); have HQ5 := Lib.hid hQ5; clear hA5 hQ5 hpr hri hb4 hal c0 c1 c2 c3)
    | (go_at_call 102; (with_reducible refine HL5.out.mono ?_); rintro e w6 ⟨rfl, hb6⟩; have HB6 := Lib.hid (below_then HB5.out hb6); have HRI6 := Lib.hid (iseg_of_members (ownsRow_below HRI5.out hb6 (Nat.le_refl _))); have HQ6 := Lib.hid (HQ5.out.below hb6 HQ5.out.lt); have e0 := (HG5.out.below hb6 HG5.out.lt).cell 0; clear hb6 a0 a1 a2 a3 a4 b0 b1 b2 b3 b4)
    | (go_at_call 103; (with_reducible refine (hnew.out _).mono ?_); rintro e w7 ⟨g, gb, rfl, hsum, hg1, hg2, hb7⟩; have HS7 := Lib.hid hsum; have HB7 := Lib.hid hb7; have hQ7 := HQ6.out.below hb7 HQ6.out.lt; have b4 := hQ7.cell 4; clear hsum hb7 e0 hQ7))
  have HSS := Lib.hid (HLS.out.below HB6.out)
  clear HLS hne hlk hof hnew hk HG0 HP0 HB0 b4
  go_loopw [56] (fun t wr => ∃ (k : Nat) (f : Nat → UInt8), k ≤ L.length ∧ t = .int .i64 k ∧ (∀ m ∈ L.take k, (ls.getD m []).length = 128) ∧ SumAt wr g gb 128 f k ∧ Below w6.heap.size w6 wr) (fun t _ => L.length - (intOf t).toNat)
  case atStart => exact ⟨0, _, by omega, rfl, fun m hm => by simp at hm, HS7.out, HB7.out⟩
  case round =>
    obtain ⟨k, f, hk', rfl, hall, hs, hbw⟩ := hrel
    have HS := Lib.hid hs
    have HBW := Lib.hid hbw
    have HALL := Lib.hid hall
    clear hs HS7 HB7 hall
    by_cases hkn : k < L.length
    · have K1 : Hid (k + 1 ≤ L.length) := hkn
      obtain ⟨b, o, rfl, hlt, hx⟩ := (HRI6.out.below hbw).full (by omega)
      have c0 := hx k hkn
      have hm1 := HLMM.out _ (List.getElem_mem hkn)
      have HTK : Hid (L.take (k + 1) = L.take k ++ [L[k]'hkn]) := List.take_succ_eq_append_getElem hkn
      generalize hmm : L[k]'hkn = m at *
      have hls := HLM.out
      obtain ⟨sb, so, sc', hve, hslt, hsx⟩ := Segs.full (HSS.out.below hbw) (by omega)
      simp only [Value.slice.injEq] at hve
      obtain ⟨rfl, hq0, rfl⟩ := hve
      clear hq0
      have hml : m < ls.length := by omega
      obtain ⟨u, d0, hu⟩ := hsx m hml
      have hgl : ls.getD m [] = ls[m]'hml := by rw [List.getD_eq_getElem?_getD, List.getElem?_eq_getElem hml]; rfl
      have hlen := HLL.out _ (List.getElem_mem hml)
      rw [← hgl] at hu hlen
      have hk0 : (0 : Int) ≤ (m : Int) := Int.natCast_nonneg _
      have hk1 : (m : Int) < (M : Int) := by omega
      obtain ⟨ua, uc, rfl⟩ := hu.shape
      by_cases hm2 : (ls.getD m []).length = 128
      · have HN : Hid (∀ x ∈ L.take (k + 1), (ls.getD x []).length = 128) := fun x hx => by
          rw [HTK.out] at hx
          rcases List.mem_append.1 hx with hx | hx
          · exact HALL.out x hx
          · rw [List.mem_singleton] at hx
            rw [hx]; exact hm2
        obtain ⟨b6, o6, c6, hv6, hb6⟩ : ∃ b6 o6 c6, (Value.slice ua (ls.getD m []).length uc) = .slice (some ⟨b6, o6, none⟩) (ls.getD m []).length c6 ∧ b6 < w6.heap.size := by
          obtain ⟨sb', so', sc'', hve', hslt', hsx'⟩ := Segs.full HSS.out (by omega)
          simp only [Value.slice.injEq, Option.some.injEq, Addr.mk.injEq, and_true] at hve'
          obtain ⟨⟨rfl, rfl⟩, -, rfl⟩ := hve'
          obtain ⟨u', e1, e2⟩ := hsx' m hml
          have e3 := (hbw.cell (p := ⟨sb, so + m, none⟩) hslt').trans e1
          rw [d0] at e3
          simp only [Option.some.injEq] at e3
          rw [← e3, ← hgl] at e2
          obtain ⟨b6, o6, c6, h1, h2, -⟩ := Seg.full e2 (by omega)
          exact ⟨b6, o6, c6, h1, h2⟩
        simp only [Value.slice.injEq, true_and] at hv6
        obtain ⟨rfl, rfl⟩ := hv6
        have hAdd := Lib.hid (xor_add g gb 128 _ k (.slice (some ⟨b6, o6, none⟩) (ls.getD m []).length uc) (ls.getD m []) wr HS.out (by omega) hu hm2 (fun a q c hv => by simp only [Value.slice.injEq, Option.some.injEq] at hv; rw [← hv.1]; show b6 ≠ gb; omega) (by omega) (by omega))
        rw [hm2] at d0 hAdd
        clear hx hsx hu hgl hm2 hlen hls hmm
        as_aux_lemma =>
          go_wp2_with (go_at_call 104; (with_reducible refine hAdd.out.mono ?_); rintro e w8 ⟨rfl, hs8, hc8⟩)
          exact ⟨⟨k + 1, _, K1.out, by go_num, HN.out, hs8, Chg.own HBW.out hc8 (fun q hq => by rcases hq with rfl | rfl <;> assumption)⟩, by simp [intOf]; omega⟩
      · have hAdd := Lib.hid (xor_add_no g gb 128 f k (.slice ua (ls.getD m []).length uc) (ls.getD m []) wr HS.out (by omega) hu hm2 hlen)
        clear hx hsx hu hgl hm2 hls hmm
        generalize (ls.getD m []).length = un at *
        as_aux_lemma =>
          go_wp2_with (go_at_call 104; (with_reducible refine hAdd.out.mono ?_); rintro e w8 ⟨rfl, rfl⟩)
          go_ret2
          exact ⟨rfl, below_then HB6.out HBW.out⟩
    · exfalso
      obtain ⟨m, hm, hm2⟩ := HSH.out
      exact hm2 (HALL.out m (by rw [List.take_of_length_le (by omega)]; exact hm))

end Go.Proofs.YtpegbgomnpinfaaGreat
