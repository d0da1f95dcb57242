/- spindleref13's Work, where it goes through. -/
import Derived.Test.YtpegbgomnpinfaaGreatWrkK
import Derived.Test.YtpegbgomnpinfaaGreatWrkG
import Derived.Test.YtpegbgomnpinfaaGreatPlzG
import Derived.Test.YtpegbgomnpinfaaGreatMrg9
import Derived.Test.YtpegbgomnpinfaaGreatPlnK
set_option linter.unusedVariables false
namespace Go.Proofs.YtpegbgomnpinfaaGreat
open Go.RowKit

/-- The patches that stay, in order. -/
def staysL (d : Nat → Bool) (ps : List Pat) (k : Nat) : List Pat := (whichTo (stays d ps) k).map fun j => ps.getD j pat0
/-- What comes out. -/
def workL (d : Nat → Bool) (ps : List Pat) (par rr : Nat) (newp : List UInt8) : List Pat := if d par = true then staysL d ps ps.length else intoL (staysL d ps ps.length) ⟨par, rr, newp⟩
theorem staysL_len (d : Nat → Bool) (ps : List Pat) (k : Nat) : (staysL d ps k).length ≤ k := by
  unfold staysL
  rw [List.length_map]
  exact whichTo_length _ _
/-- While patches come out: a row of the call's own, the bytes of each in a row of bytes that stood. -/
structure WRow (w0 w : World) (v : Value) (X : List OP) : Prop where
  row : w.ownsRow w0.heap.size 153 3 v X.length (elems (fun i => opCells (X.getD i op0)) X.length)
  dat : ∀ x ∈ X, w0.ownsRow 0 5 1 x.2 128 (ucells x.1.d)
theorem WRow.nil (w0 w : World) : WRow w0 w (.slice none 0 0) [] := ⟨World.ownsRow_nil _ _ _ _, fun x hx => by cases hx⟩
theorem WRow.below {w0 w w' : World} {v : Value} {X : List OP} (h : WRow w0 w v X) (hb : Below w.heap.size w w') : WRow w0 w' v X := ⟨ownsRow_below h.row hb (Nat.le_refl _), h.dat⟩
theorem WRow.snoc {w0 w w' : World} {v v' : Value} {X : List OP} {x : OP} (h : WRow w0 w v X) (hx : w0.ownsRow 0 5 1 x.2 128 (ucells x.1.d)) (hrow : w'.ownsRow w0.heap.size 153 3 v' (X.length + 1) (elems (fun i => opCells (X.getD i op0)) X.length ++ opCells x)) : WRow w0 w' v' (X ++ [x]) :=
  ⟨by rw [opElems_snoc, List.length_append, List.length_singleton]; exact hrow, fun z hz => by
    rcases List.mem_append.1 hz with hz | hz
    · exact h.dat z hz
    · rw [List.mem_singleton] at hz
      rw [hz]; exact hx⟩
theorem WRow.trow {w0 w : World} {v : Value} {X : List OP} (h : WRow w0 w v X) (hb : Below w0.heap.size w0 w) : TRow w v X := ⟨rebase_row h.row (Nat.zero_le _), fun x hx => ownsRow_below (h.dat x hx) hb (Nat.le_refl _)⟩
theorem TRow.at {w : World} {b o n c : Nat} {X : List OP} (h : TRow w (.slice (some ⟨b, o, none⟩) n c) X) {j : Nat} {y : Value} (hj : j < X.length) (hc : w.cell? ⟨b, o + j * 3 + 2, none⟩ = some y) : w.ownsRow 0 5 1 y 128 (ucells (X[j]'hj).1.d) := by
  obtain ⟨g, cap, hv, -, -⟩ := ownsRow_full h.row (by omega)
  have hr := h.row
  simp only [Value.slice.injEq, Option.some.injEq, Addr.mk.injEq, and_true] at hv
  obtain ⟨⟨rfl, rfl⟩, rfl, rfl⟩ := hv
  have c2 := own_cell3 hr (fun k => rfl) j 2 hj (by omega)
  have e : X.getD j op0 = X[j] := by rw [List.getD_eq_getElem?_getD, List.getElem?_eq_getElem hj]; rfl
  rw [Nat.zero_add, c2, e] at hc
  have e2 : (X[j]'hj).2 = y := by simpa [opCells] using hc
  rw [← e2]
  exact h.dat _ (List.getElem_mem hj)
theorem xor_next (F : Nat → List UInt8) (k : Nat) : xorUp F (k + 1) = fun i => xorUp F k i ^^^ (F k).getD i 0 := rfl

set_option maxRecDepth 100000 in
set_option maxHeartbeats 8000000 in
theorem ref_Work_ok (M C S rr : Nat) (r md par : Int) (vd vq vr vrd : Value) (l : List Bool) (ps : List Pat) (zl : List Int) (ls : List (List UInt8)) (w : World) (ok : PlanOk M C S (bitOf l) ps rr) (hl : l.length = M) (hz0 : planCode M C S l ps = 0) (z : Int) (hgz : GoneIs (bitOf l) M z) (hzl : zl.length ≤ 1000000) (hlf : ls.length ≤ 300000) (hll : ∀ l ∈ ls, l.length ≤ 300000)
    (hd : BooSeg w vd l) (hq : PSeg w vq ps) (hz : ZSeg w vr zl) (hls : Segs w vrd ls) (L : List Nat) (hL : L = readsOf ps (parOf M C rr) M (modeOf M ps (parOf M C rr) z))
    (hhd : headIs r md par rr (modeOf M ps (parOf M C rr) z : Nat) (parOf M C rr : Nat) zl (L.map fun x : Nat => (x : Int)) = true) (hlm : ls.length = M) (hLm : ∀ m ∈ L, m < M) (halls : ∀ m ∈ L, (ls.getD m []).length = 128) :
    Calls Tryz.prog 39 #[geo M C S, vd, planVal r md par vq vr, vrd] w fun e w' => (∃ v X, e = .returned (.tuple #[v, .int .i64 0]) ∧ TRow w' v X ∧ X.map (·.1) = (workL (bitOf l) ps (parOf M C rr) rr (sumL (xorUp (addsOf L ls ps) (L.length + ps.length)) 128))) ∧ Below w.heap.size w w' := by
  have h16 := (geoIs_iff M C S).1 ok.hg
  have hfew := ok.few
  have hLl : L.length ≤ 16 := by rw [hL]; have := readsOf_length ps (parOf M C rr) M (modeOf M ps (parOf M C rr) z); omega
  have hk := Lib.hid (fun W => ref_check M C S W)
  unfold geoCode at hk
  rw [ok.hg] at hk
  simp only [if_true] at hk
  have hof : Hid (∀ W, Below w.heap.size w W → _) := fun W hW => ref_Of_ok M C S rr vd vq l ps W ok hl hz0 (hd.below hW) (hq.below hW) z hgz
  rw [← hL] at hof
  have HOK := Lib.hid ok
  obtain ⟨rfl, rfl, rfl⟩ := head_is hhd
  have hpl : parOf M C rr < M := by unfold parOf; omega
  generalize hpp : parOf M C rr = qpar at *
  generalize modeOf M ps qpar z = qmd at *
  have hlk : Hid (∀ (W : World) vq' vr', Below w.heap.size w W → PSeg W vq' ps → ZSeg W vr' (L.map fun x : Nat => (x : Int)) → _) := fun W vq' vr' hW h1 h2 => ref_samePlan rr qmd qpar rr qmd qpar vq vr vq' vr' ps ps zl _ W (hq.below hW) h1 (hz.below hW) h2 (by omega) (by omega) hzl (by rw [List.length_map]; omega) (fun _ => rfl) ok.len
  rw [decide_eq_true rfl, Bool.true_and] at hlk
  rw [hhd] at hlk
  have HLS := Lib.hid hls
  have HLL := Lib.hid hll
  have HLM := Lib.hid hlm
  have HLMM := Lib.hid hLm
  have HALLS := Lib.hid halls
  have HD := Lib.hid hd
  obtain ⟨qa, qc, rfl⟩ := hq.shape
  obtain ⟨da, dc, rfl⟩ := hd.shape
  obtain rfl := head_reads hhd
  have HZZ := Lib.hid hz
  obtain ⟨ra, rc, hze⟩ := hz.shape
  rw [List.length_map] at hze
  subst hze
  obtain ⟨sa, sc, rfl⟩ := hls.shape
  rw [hl] at hof ⊢
  rw [hlm] at ⊢
  have hps : ps.length ≤ 16 := by omega
  obtain ⟨w0, hw0⟩ : ∃ w0, w0 = (w.alloc (.cells #[.int .i64 M, .int .i64 C, .int .i64 S] 23)).alloc (.cells #[.int .i64 rr, .int .u8 qmd, .int .i64 qpar, .slice qa ps.length qc, .slice ra L.length rc] 75) := ⟨_, rfl⟩
  have HB0 : Hid (Below w.heap.size w w0) := by rw [hw0]; exact ((Below.refl _ _).alloc (Nat.le_refl _) _).alloc (by rw [size_alloc]; omega) _
  have HG0 : Hid (At w0 w.heap.size #[.int .i64 M, .int .i64 C, .int .i64 S] 23) := by rw [hw0]; exact (At.new _ _ _).alloc _
  have HP0 : Hid (At w0 (w.heap.size + 1) #[.int .i64 rr, .int .u8 qmd, .int .i64 qpar, .slice qa ps.length qc, .slice ra L.length rc] 75) := by rw [hw0]; exact At.new2 _ _ _ _
  obtain ⟨qs, hqs⟩ : ∃ qs, qs = workL (bitOf l) ps qpar rr (sumL (xorUp (addsOf L ls ps) (L.length + ps.length)) 128) := ⟨_, rfl⟩
  rw [← hqs]
  have HQS := Lib.hid hqs
  clear hd hq hz hls hL hgz hhd ok hll hlm hLm halls hqs hz0 hpp
  unfold geo planVal at *
  go_enter Tryz.func39, Tryz.ntmps39
  go_upto_region 1 with fail
  rw [← hw0]
  clear hw0
  have c0 := HG0.out.cell 0
  have c1 := HG0.out.cell 1
  have c2 := HG0.out.cell 2
  go_upto_region 6 with (first
    | (go_at_call 44; (with_reducible refine (hk.out _).mono ?_); rintro e w1 ⟨rfl, hb1⟩; clear c0 c1 c2; have hg1 := HG0.out.below hb1 HG0.out.lt; have hp1 := HP0.out.below hb1 HP0.out.lt; have c0 := hg1.cell 0; have c1 := hg1.cell 1; have c2 := hg1.cell 2; have c3 := hp1.cell 3; have HP1 := Lib.hid hp1; have HG1 := Lib.hid hg1; have HB1 := Lib.hid (below_then HB0.out hb1); clear hg1 hp1 hb1)
    | (go_at_call 26; (with_reducible refine (hof.out _ HB1.out).mono ?_); rintro e w4 ⟨⟨vq', vr', XQ, rfl, hor, hxq, hri⟩, hb4⟩; have hpr : PSeg w4 vq' ps := orow_pseg hor hxq hps; have htq := orow_trow hor; have HXQ := Lib.hid hxq; clear hor hxq; obtain ⟨qa', qc', rfl⟩ := hpr.shape; obtain ⟨ra', rc', rfl⟩ := ownsRow_shape hri; have hal := (Below.refl w4.heap.size w4).alloc (Nat.le_refl _) (.cells #[.int .i64 rr, .int .u8 qmd, .int .i64 qpar, .slice qa' ps.length qc', .slice ra' L.length rc'] 75); have HB5 := Lib.hid (below_then (below_then HB1.out hb4) hal); have hA5 := (HP1.out.below hb4 HP1.out.lt).alloc (.cells #[.int .i64 rr, .int .u8 qmd, .int .i64 qpar, .slice qa' ps.length qc', .slice ra' L.length rc'] 75); have HG5 := Lib.hid ((HG1.out.below hb4 HG1.out.lt).alloc (.cells #[.int .i64 rr, .int .u8 qmd, .int .i64 qpar, .slice qa' ps.length qc', .slice ra' L.length rc'] 75)); have hQ5 := At.new w4 #[.int .i64 rr, .int .u8 qmd, .int .i64 qpar, .slice qa' ps.length qc', .slice ra' L.length rc'] 75; have a0 := hA5.cell 0; have a1 := hA5.cell 1; have a2 := hA5.cell 2; have a3 := hA5.cell 3; have a4 := hA5.cell 4; have b0 := hQ5.cell 0; have b1 := hQ5.cell 1; have b2 := hQ5.cell 2; have b3 := hQ5.cell 3; have b4 := hQ5.cell 4; have HPR5 := Lib.hid (hpr.below hal); have HTQ5 := Lib.hid (htq.below hal); clear htq; have HRI5 := Lib.hid (ownsRow_below hri hal (Nat.le_refl _)); have HA5 := Lib.hid hA5; have HQ5 := Lib.hid hQ5; have HL5 := Lib.hid (hlk.out _ _ _ HB5.out HPR5.out (zseg_of_members HRI5.out)); clear hA5 hQ5 hpr hri hb4 hal c0 c1 c2 c3)
    | (go_at_call 111; (with_reducible refine HL5.out.mono ?_); rintro e w6 ⟨rfl, hb6⟩; have HB6 := Lib.hid (below_then HB5.out hb6); have HG6 := Lib.hid (HG5.out.below hb6 HG5.out.lt); have HA6 := Lib.hid (HA5.out.below hb6 HA5.out.lt); have HQ6 := Lib.hid (HQ5.out.below hb6 HQ5.out.lt); have HPR6 := Lib.hid (HPR5.out.below hb6); have HTQ6 := Lib.hid (HTQ5.out.below hb6); have HRI6 := Lib.hid (iseg_of_members (ownsRow_below HRI5.out hb6 (Nat.le_refl _))); clear hb6 a0 a1 a2 a3 a4 b0 b1 b2 b3 b4 HL5))
  have e0 := HG6.out.cell 0
  have hne : ((M : Int) != (M : Int)) = false := by simp
  go_wp2
  have HSS := Lib.hid (HLS.out.below HB6.out)
  have HZ6 := Lib.hid (HZZ.out.below HB6.out)
  clear HLS hne hlk hof hk HG0 HP0 HB0 e0 HG6 HG5 HG1 HP1 HB1 HB5 HA5 HQ5 HPR5 HRI5 HTQ5
  go_loopw [13] (fun t wr => ∃ k : Nat, k ≤ L.length ∧ t = .int .i64 k ∧ (∀ m ∈ L.take k, (ls.getD m []).length = 128) ∧ wr = w6) (fun t _ => L.length - (intOf t).toNat)
  case atStart => exact ⟨0, by omega, rfl, fun m hm => by simp at hm, rfl⟩
  case round =>
    obtain ⟨k, hk', rfl, hall, rfl⟩ := hrel
    have HALL := Lib.hid hall
    have x4 := HA6.out.cell 4
    clear hall
    by_cases hkn : k < L.length
    · have K1 : Hid (k + 1 ≤ L.length) := hkn
      obtain ⟨b, o, c', hve0, hlt, hx⟩ := HZ6.out.full (by rw [List.length_map]; omega)
      simp only [Value.slice.injEq] at hve0
      obtain ⟨rfl, hq1, rfl⟩ := hve0
      have c0 := hx k (by rw [List.length_map]; exact hkn)
      rw [List.getElem_map] at c0
      have hm1 := HLMM.out _ (List.getElem_mem hkn)
      have HTK : Hid (L.take (k + 1) = L.take k ++ [L[k]'hkn]) := List.take_succ_eq_append_getElem hkn
      generalize hmm : L[k]'hkn = m at *
      have hls := HLM.out
      obtain ⟨sb, so, sc', hve, hslt, hsx⟩ := Segs.full HSS.out (by omega)
      simp only [Value.slice.injEq] at hve
      obtain ⟨rfl, hq0, rfl⟩ := hve
      clear hq0 hq1
      have hml : m < ls.length := by omega
      obtain ⟨u, d0, hu⟩ := hsx m hml
      have hgl : ls.getD m [] = ls[m]'hml := by rw [List.getD_eq_getElem?_getD, List.getElem?_eq_getElem hml]; rfl
      have hlen := HLL.out _ (List.getElem_mem hml)
      rw [← hgl] at hu hlen
      have hk0 : (0 : Int) ≤ (m : Int) := Int.natCast_nonneg _
      have hk1 : (m : Int) < (M : Int) := by omega
      obtain ⟨ua, uc, rfl⟩ := hu.shape
      by_cases hm2 : (ls.getD m []).length = 128
      · have HN : Hid (∀ x ∈ L.take (k + 1), (ls.getD x []).length = 128) := fun x hx => by
          rw [HTK.out] at hx
          rcases List.mem_append.1 hx with hx | hx
          · exact HALL.out x hx
          · rw [List.mem_singleton] at hx
            rw [hx]; exact hm2
        have hq2 : (((ls.getD m []).length : Int) != 128) = false := by rw [hm2]; rfl
        clear hx hsx hu hgl hm2 hls hmm
        generalize (ls.getD m []).length = un at *
        as_aux_lemma =>
          go_wp2
          exact ⟨⟨k + 1, K1.out, by go_num, HN.out, trivial⟩, by simp [intOf]; omega⟩
      · exact absurd (HALLS.out m (by rw [← hmm]; exact List.getElem_mem hkn)) hm2
    · obtain rfl : k = L.length := by omega
      obtain ⟨wo, rfl⟩ : ∃ wo : World, wo = wr := ⟨_, rfl⟩
      obtain ⟨F, hF⟩ : ∃ F, F = addsOf L ls ps := ⟨_, rfl⟩
      rw [← hF] at HQS
      have HF1 : Hid (∀ k, k < L.length → F k = ls.getD (L.getD k 0) []) := fun k hk => by rw [hF]; unfold addsOf; exact if_pos hk
      have HF2 : Hid (∀ j, F (L.length + j) = (ps.getD j pat0).d) := fun j => by rw [hF]; unfold addsOf; rw [if_neg (by omega)]; congr 2; omega
      clear hF HALL
      go_wp2_with (refine wpList_make_same rfl _ _ 53 5 1 1 rfl slice_bytes (.int .u8 0) (by kernel_rfl) _ _ _ _ 128 rfl rfl rfl rfl (by omega) (by unfold maxLen; omega) ?_; intro w7 a7 b7; rw [zeros_ufn] at a7; have HZ7 := Lib.hid (owns_of_ufn a7 (by unfold maxLen; omega)); have HB7 := Lib.hid b7; clear a7 b7 x4)
      obtain ⟨g0, hg0⟩ : ∃ g0, g0 = wo.heap.size := ⟨_, rfl⟩
      rw [← hg0] at HZ7 ⊢
      clear hg0
      go_loopw [14, 15] (fun p t wx => ∃ k : Nat, k ≤ L.length ∧ t = .int .i64 k ∧ wx.ownsRow 0 5 1 p 128 (ucells (sumL (xorUp F k) 128)) ∧ Below wo.heap.size wo wx) (fun _ t _ => L.length - (intOf t).toNat)
      case atStart => exact ⟨0, by omega, rfl, HZ7.out, HB7.out⟩
      case round =>
        obtain ⟨k, hk2, rfl, hpar, hbw⟩ := hrel
        have HPAR := Lib.hid hpar
        have HBW := Lib.hid hbw
        have HA7 := Lib.hid (HA6.out.below hbw HA6.out.lt)
        have x4 := HA7.out.cell 4
        clear hpar HZ7 HB7
        by_cases hkn2 : k < L.length
        · have K1 : Hid (k + 1 ≤ L.length) := hkn2
          obtain ⟨b, o, c', hve0, hlt, hx⟩ := (HZ6.out.below hbw).full (by rw [List.length_map]; omega)
          simp only [Value.slice.injEq] at hve0
          obtain ⟨rfl, hq1, rfl⟩ := hve0
          have c0 := hx k (by rw [List.length_map]; exact hkn2)
          rw [List.getElem_map] at c0
          have hm1 := HLMM.out _ (List.getElem_mem hkn2)
          have hm2 := HALLS.out _ (List.getElem_mem hkn2)
          have HFK : Hid (F k = ls.getD (L[k]'hkn2) []) := by
            show F k = _
            have e : L.getD k 0 = L[k]'hkn2 := by rw [List.getD_eq_getElem?_getD, List.getElem?_eq_getElem hkn2]; rfl
            rw [HF1.out k hkn2, e]
          generalize L[k]'hkn2 = m at *
          have hls := HLM.out
          obtain ⟨sb, so, sc', hve, hslt, hsx⟩ := Segs.full (HSS.out.below hbw) (by omega)
          simp only [Value.slice.injEq] at hve
          obtain ⟨rfl, hq0, rfl⟩ := hve
          clear hq0 hq1
          have hml : m < ls.length := by omega
          obtain ⟨u, d0, hu⟩ := hsx m hml
          have hgl : ls.getD m [] = ls[m]'hml := by rw [List.getD_eq_getElem?_getD, List.getElem?_eq_getElem hml]; rfl
          rw [← hgl] at hu
          have hk0 : (0 : Int) ≤ (m : Int) := Int.natCast_nonneg _
          have hk1 : (m : Int) < (M : Int) := by omega
          have HMX := Lib.hid (ref_mixed u14 u (xorUp F k) 128 (ls.getD m []) wr (seg_of_owns (by rw [sumL_length]; exact HPAR.out)) hu hm2 (by omega))
          rw [← HFK.out] at HMX
          obtain ⟨ua, uc, rfl⟩ := hu.shape
          clear hx hsx hu hgl hm2 hls
          generalize (ls.getD m []).length = un at *
          as_aux_lemma =>
            go_wp2_with (go_at_call 112; (with_reducible refine HMX.out.mono ?_); rintro e w8 ⟨⟨v8, rfl, hv8⟩, hb8⟩; have HV8 := Lib.hid (rebase_row hv8 (Nat.zero_le _)); have HB8 := Lib.hid (below_then HBW.out hb8); clear hv8 hb8)
            exact ⟨⟨k + 1, K1.out, by go_num, HV8.out, HB8.out⟩, by simp [intOf]; omega⟩
        · obtain rfl : k = L.length := by omega
          obtain ⟨wq, rfl⟩ : ∃ wq : World, wq = wr := ⟨_, rfl⟩
          obtain ⟨nl, hnl⟩ : ∃ nl, nl = L.length := ⟨_, rfl⟩
          have HQ7 := Lib.hid (HQ6.out.below HBW.out HQ6.out.lt)
          have HPR7 := Lib.hid (HPR6.out.below HBW.out)
          have HTQ7 := Lib.hid (HTQ6.out.below HBW.out)
          have HBQ := Lib.hid (below_then HB6.out HBW.out)
          have HD7 := Lib.hid (HD.out.below HBQ.out)
          have x2 := HA7.out.cell 2
          have y3 := HQ7.out.cell 3
          have HNL := Lib.hid hnl
          clear hnl
          go_wp2
          clear x2 x4 y3
          rw [← HNL.out] at HPAR HF2 HQS
          go_loopw [14, 16, 17] (fun p v t wx => ∃ (k : Nat) (X : List OP), k ≤ ps.length ∧ t = .int .i64 k ∧ X.map (·.1) = staysL (bitOf l) ps k ∧ wx.ownsRow 0 5 1 p 128 (ucells (sumL (xorUp F (nl + k)) 128)) ∧ WRow wq wx v X ∧ Below wq.heap.size wq wx) (fun _ _ t _ => ps.length - (intOf t).toNat)
          case atStart => exact ⟨0, [], by omega, rfl, by simp [staysL, whichTo], HPAR.out, WRow.nil _ _, Below.refl _ _⟩
          case round =>
            obtain ⟨k, X, hk3, rfl, hX, hpar, hvr, hbx⟩ := hrel
            have HX := Lib.hid hX
            have HPA := Lib.hid hpar
            have HVR := Lib.hid hvr
            have HBX := Lib.hid hbx
            have HQ8 := Lib.hid (HQ7.out.below hbx HQ7.out.lt)
            have y3 := HQ8.out.cell 3
            have hXl : X.length ≤ 16 := by
              have h := congrArg List.length hX
              rw [List.length_map] at h
              have := staysL_len (bitOf l) ps k
              omega
            clear hX hpar hvr HPAR
            by_cases hkn3 : k < ps.length
            · have K1 : Hid (k + 1 ≤ ps.length) := hkn3
              obtain ⟨b, o, rfl, hlt, hx⟩ := PSeg.full HPR7.out (by omega)
              obtain ⟨p0, p1, u, p2, hu⟩ := hx k hkn3
              have hkq : k < XQ.length := by have h := congrArg List.length HXQ.out; rw [List.length_map] at h; omega
              have HTD := Lib.hid (HTQ7.out.at hkq p2)
              have heq : (XQ[k]'hkq).1 = ps[k]'hkn3 := by
                have h : (XQ.map (·.1))[k]? = ps[k]? := by rw [HXQ.out]
                rw [List.getElem?_map, List.getElem?_eq_getElem hkq, List.getElem?_eq_getElem hkn3] at h
                simpa using h
              rw [heq] at HTD
              clear heq
              have hlo := HOK.out.lo _ (List.getElem_mem hkn3)
              have hhi := HOK.out.hi _ (List.getElem_mem hkn3)
              have h128 := HOK.out.len _ (List.getElem_mem hkn3)
              have HFK : Hid (F (nl + k) = (ps[k]'hkn3).d) := by show F (nl + k) = _; rw [HF2.out k, getD_of ps k hkn3]
              have HGE : Hid (ps.getD k pat0 = ps[k]'hkn3) := getD_of ps k hkn3
              obtain ⟨y, hye⟩ : ∃ y, ps[k]'hkn3 = y := ⟨_, rfl⟩
              rw [hye] at p0 p1 hu hlo hhi h128 HFK HGE HTD
              clear hye hx
              obtain ⟨ym, yr, yd⟩ := y
              simp only at p0 p1 hu hlo hhi h128 HFK HTD
              obtain ⟨m, rfl⟩ := Int.eq_ofNat_of_zero_le hlo
              have hmM : m < M := by omega
              obtain ⟨db, do', dc', hve, hltd, hxd⟩ := BooSeg.full HD7.out (by omega)
              rw [hl] at hve
              simp only [Value.slice.injEq] at hve
              obtain ⟨rfl, hq0, rfl⟩ := hve
              clear hq0
              have d0 := hxd m (by omega)
              rw [← bit_at] at d0
              clear hxd
              have HUQ : Hid (Seg wq u yd) := hu
              have HMX : Hid (∀ W, Below wq.heap.size wq W → W.ownsRow 0 5 1 u14 128 (ucells (sumL (xorUp F (nl + k)) 128)) → Calls Tryz.prog 112 #[u14, u] W _) := fun W hW hp => ref_mixed u14 u (xorUp F (nl + k)) 128 yd W (seg_of_owns (by rw [sumL_length]; exact hp)) (hu.below hW) h128 (by omega)
              obtain ⟨ua, uc, rfl⟩ := hu.shape
              have HC := Lib.hid (fun (W : World) (hW : Below wq.heap.size wq W) => (⟨(hW.cell (p := ⟨b, o + k * 3, none⟩) hlt).trans p0, (hW.cell (p := ⟨b, o + k * 3 + 1, none⟩) hlt).trans p1, (hW.cell (p := ⟨b, o + k * 3 + 2, none⟩) hlt).trans p2, (hW.cell (p := ⟨db, do' + m, none⟩) hltd).trans d0⟩ : W.cell? ⟨b, o + k * 3, none⟩ = some (.int .i64 m) ∧ W.cell? ⟨b, o + k * 3 + 1, none⟩ = some (.int .i64 yr) ∧ W.cell? ⟨b, o + k * 3 + 2, none⟩ = some (.slice ua yd.length uc) ∧ W.cell? ⟨db, do' + m, none⟩ = some (.bool (bitOf l m))))
              have HMX1 := Lib.hid (HMX.out _ HBX.out HPA.out)
              have HST : Hid (stays (bitOf l) ps k = !bitOf l m) := stays_not (by rw [HGE.out])
              have HYD : Hid (yd.length = 128) := h128
              obtain ⟨q0, q1, q2, q3⟩ := HC.out _ HBX.out
              clear p0 p1 p2 d0 hu h128
              generalize hbm : bitOf l m = bm at *
              go_upto_region 23 with (go_at_call 112; (with_reducible refine HMX1.out.mono ?_); rintro e w8 ⟨⟨v8, rfl, hv8⟩, hb8⟩; have HV8 := Lib.hid (rebase_row hv8 (Nat.zero_le _)); have HB8 := Lib.hid (below_then HBX.out hb8); have HVR8 := Lib.hid (HVR.out.below hb8); clear hv8 hb8 q0 q1 q2 q3 y3)
              have HXN : Hid (xorUp F (nl + (k + 1)) = fun i => xorUp F (nl + k) i ^^^ yd.getD i 0) := by
                show xorUp F (nl + k + 1) = _
                rw [xor_next, HFK.out]
              have y3 := (HQ7.out.below HB8.out HQ7.out.lt).cell 3
              obtain ⟨q0, q1, q2, q3⟩ := HC.out _ HB8.out
              cases bm
              · have HSN : Hid (staysL (bitOf l) ps (k + 1) = staysL (bitOf l) ps k ++ [⟨m, yr, yd⟩]) := by
                  show _ = _
                  unfold staysL
                  rw [whichTo_succ, if_pos (by rw [HST.out]; rfl), List.map_append, List.map_singleton, HGE.out]
                have HAL : Hid (Below w8.heap.size w8 (w8.alloc (.cells #[.int .i64 m, .int .i64 yr, .slice ua yd.length uc] 153))) := (Below.refl _ _).alloc (Nat.le_refl _) _
                have HVR9 := Lib.hid (HVR8.out.below HAL.out)
                have HV9 := Lib.hid (ownsRow_below HV8.out HAL.out (Nat.le_refl _))
                have HB9 := Lib.hid (below_then HB8.out HAL.out)
                as_aux_lemma =>
                  go_wp2_with (refine wpList_append_keeps rfl _ _ 69 153 3 40 rfl slice_pats wq.heap.size u16 X.length _ rfl HVR9.out.row _ 1 1 [.int .i64 m, .int .i64 yr, .slice ua yd.length uc] rfl rfl (new_three _ _ _ _ _ _ (by first | rfl | simp)) (by intro u hu; simp at hu; rcases hu with rfl | rfl | rfl <;> rfl) (by unfold maxLen; omega) (by omega) HB9.out.size (by omega) ?_; intro v1 w10 hrow hvb hc hkk; have HVN := Lib.hid (HVR9.out.snoc (x := (⟨m, yr, yd⟩, .slice ua yd.length uc)) HTD.out hrow); have HBN := Lib.hid (Chg.own HB9.out hc (fun q hq => (HVR9.out.row.lt q hq).1)); have HPN := Lib.hid (ownsRow_mod HV9.out hc (fun g hg e => own_ne_own HV9.out HVR9.out.row (by decide) e hg)); clear hrow hvb hc hkk)
                  refine ⟨⟨k + 1, _, K1.out, by go_num, ?_, ?_, HVN.out, HBN.out⟩, by simp [intOf]; omega⟩
                  · rw [List.map_append, HX.out, HSN.out]; rfl
                  · rw [HXN.out]; exact HPN.out
              · have HSN : Hid (staysL (bitOf l) ps (k + 1) = staysL (bitOf l) ps k) := by
                  show _ = _
                  unfold staysL
                  rw [whichTo_succ, if_neg (by rw [HST.out]; simp)]
                as_aux_lemma =>
                  go_wp2
                  refine ⟨⟨k + 1, X, K1.out, by go_num, by rw [HX.out, HSN.out], ?_, HVR8.out, HB8.out⟩, by simp [intOf]; omega⟩
                  rw [HXN.out]; exact HV8.out
            · obtain rfl : k = ps.length := by omega
              have HA8 := Lib.hid (HA7.out.below hbx HA7.out.lt)
              have x2 := HA8.out.cell 2
              have x0 := HA8.out.cell 0
              have HTR := Lib.hid (HVR.out.trow HBX.out)
              have HPS : Hid (PSeg wr u16 (staysL (bitOf l) ps ps.length)) := by
                have h := HTR.out.pseg (by omega)
                rw [HX.out] at h
                exact h
              obtain ⟨db, do', dc', hve, hltd, hxd⟩ := BooSeg.full (HD7.out.below HBX.out) (by omega)
              rw [hl] at hve
              simp only [Value.slice.injEq] at hve
              obtain ⟨rfl, hq0, rfl⟩ := hve
              clear hq0
              have d0 := hxd qpar (by omega)
              rw [← bit_at] at d0
              have hqM : (qpar : Int) < (M : Int) := by omega
              have hqZ : (0 : Int) ≤ (qpar : Int) := Int.natCast_nonneg _
              have hsl := staysL_len (bitOf l) ps ps.length
              have HIN := Lib.hid (ref_intoT (fun y => wr.ownsRow 0 5 1 y.2 128 (ucells y.1.d)) u16 u14 (staysL (bitOf l) ps ps.length) ⟨qpar, rr, sumL (xorUp F (nl + ps.length)) 128⟩ wr HPS.out (seg_of_owns (by rw [sumL_length]; exact HPA.out)) (by omega) (by rw [sumL_length]; omega) HPA.out (fun b o n c j y hj hue hc => by
                have hxl : X.length = (staysL (bitOf l) ps ps.length).length := by rw [← HX.out, List.length_map]
                have htr := HTR.out
                rw [hue] at htr
                have h := htr.at (j := j) (y := y) (by omega) hc
                have e : (X[j]'(by omega)).1 = (staysL (bitOf l) ps ps.length)[j]'hj := by
                  have h2 : (X.map (·.1))[j]? = (staysL (bitOf l) ps ps.length)[j]? := by rw [HX.out]
                  rw [List.getElem?_map, List.getElem?_eq_getElem (by omega), List.getElem?_eq_getElem hj] at h2
                  simpa using h2
                rw [e] at h
                exact h))
              have HQS2 : Hid (qs = if bitOf l qpar = true then staysL (bitOf l) ps ps.length else intoL (staysL (bitOf l) ps ps.length) ⟨qpar, rr, sumL (xorUp F (nl + ps.length)) 128⟩) := HQS.out
              clear hxd HQS hsl
              generalize bitOf l qpar = bp at *
              cases bp
              · have HQE := Lib.hid (HQS2.out.trans (if_neg (by simp)))
                obtain ⟨pa2, pc2, rfl⟩ := ownsRow_shape HPA.out
                as_aux_lemma =>
                  go_wp2_with (go_at_call 113; (with_reducible refine HIN.out.mono ?_); rintro e w9 ⟨⟨v9, X9, rfl, hx9, hr9, ht9⟩, hb9⟩; have HV9 : Hid (TRow w9 v9 X9) := ⟨rebase_row hr9 (Nat.zero_le _), fun x hx => ownsRow_below (ht9 x hx) hb9 (Nat.le_refl _)⟩; have HX9 := Lib.hid hx9; have HB9 := Lib.hid (below_then (below_then HBQ.out HBX.out) hb9); clear hr9 ht9 hx9 hb9)
                  go_ret2
                  exact ⟨⟨_, X9, rfl, HV9.out, by rw [HQE.out]; exact HX9.out⟩, HB9.out⟩
              · have HQE := Lib.hid (HQS2.out.trans (if_pos rfl))
                as_aux_lemma =>
                  go_wp2
                  go_ret2
                  (first | exact ⟨⟨_, X, rfl, HTR.out, by rw [HQE.out]; exact HX.out⟩, below_then HBQ.out HBX.out⟩ | exact ⟨⟨_, rfl, X, HTR.out, by rw [HQE.out]; exact HX.out⟩, below_then HBQ.out HBX.out⟩)

end Go.Proofs.YtpegbgomnpinfaaGreat
