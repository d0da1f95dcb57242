/- plan.of, where it refuses: in every way. -/
import Derived.Test.YtpegbgomnpinfaaGreatMrg12
set_option linter.unusedVariables false
namespace Go.Proofs.YtpegbgomnpinfaaGreat
open Go.RowKit

set_option maxRecDepth 100000 in
set_option maxHeartbeats 2000000 in
/-- The short ways: no geometry; another number of members, or nothing to be put. -/
theorem plan_of_short (m c s : Int) (vd vp : Value) (l : List Bool) (ps : List Pat) (w : World) (hd : BooSeg w vd l) (hp : PSeg w vp ps) (h : geoIs m c s = false ∨ ((l.length : Int) ≠ m ∨ ps.length = 0)) :
    Calls Tryz.prog 84 #[geo m c s, vd, vp] w fun e w' => e = .returned (.tuple #[.pointer none, .int .u16 (planCode m c s l ps : Nat)]) ∧ Below w.heap.size w w' := by
  have hk := Lib.hid (fun W => geom_check m c s W)
  have HB0 : Hid (Below w.heap.size w (w.alloc (.cells #[.int .i64 m, .int .i64 c, .int .i64 s] 23))) := (Below.refl _ _).alloc (Nat.le_refl _) _
  have HA : Hid (At (w.alloc (.cells #[.int .i64 m, .int .i64 c, .int .i64 s] 23)) w.heap.size #[.int .i64 m, .int .i64 c, .int .i64 s] 23) := At.new _ _ _
  obtain ⟨da, dc, rfl⟩ := hd.shape
  obtain ⟨pa, pc, rfl⟩ := hp.shape
  have hfew := hp.few
  unfold geoCode geo at *
  cases hg : geoIs m c s
  · rw [hg] at hk
    simp only [Bool.false_eq_true, if_false] at hk
    have HE : Hid (planCode m c s l ps = 60) := by show planCode m c s l ps = 60; unfold planCode; rw [if_pos hg]
    clear hd hp h hg
    go_enter Tryz.func84, Tryz.ntmps84
    go_wp2_with (go_at_call 101; (with_reducible refine (hk.out _).mono ?_); rintro e w1 ⟨rfl, hb1⟩; have HB1 := Lib.hid (below_then HB0.out hb1); clear hb1)
    go_ret2
    exact ⟨by rw [HE.out]; rfl, HB1.out⟩
  · rw [hg] at hk h
    simp only [if_true] at hk
    have h' : (l.length : Int) ≠ m ∨ ps.length = 0 := h.resolve_left (by simp)
    have HE : Hid (planCode m c s l ps = 1) := by show planCode m c s l ps = 1; unfold planCode; rw [if_neg (by simp [hg]), if_pos h']
    clear hd hp h hg
    go_enter Tryz.func84, Tryz.ntmps84
    by_cases hlm : (l.length : Int) = m
    · have hz : ps.length = 0 := h'.resolve_left (by simpa using hlm)
      have hz' : ((ps.length : Int) == 0) = true := by simp [hz]
      have hl1 : ((l.length : Int) != m) = false := by simpa using hlm
      clear h' hz hlm
      go_wp2_with (go_at_call 101; (with_reducible refine (hk.out _).mono ?_); rintro e w1 ⟨rfl, hb1⟩; have c0 := (HA.out.below hb1 HA.out.lt).cell 0; have HB1 := Lib.hid (below_then HB0.out hb1); clear hb1)
      go_ret2
      exact ⟨by rw [HE.out]; rfl, HB1.out⟩
    · have hl1 : ((l.length : Int) != m) = true := by simpa using hlm
      clear h' hlm
      go_wp2_with (go_at_call 101; (with_reducible refine (hk.out _).mono ?_); rintro e w1 ⟨rfl, hb1⟩; have c0 := (HA.out.below hb1 HA.out.lt).cell 0; have HB1 := Lib.hid (below_then HB0.out hb1); clear hb1)
      go_ret2
      exact ⟨by rw [HE.out]; rfl, HB1.out⟩

/-- What is out of order, told by the member ahead. -/
theorem ord_last {M C S : Nat} {l : List Bool} {ps : List Pat} (h : Long M C S l ps) (ha : ps.any (patBad M C S) = false) (par : Int) (k : Nat) (hk : k < ps.length) :
    ordBad par ps k = ((!((ps[k]'hk).r == (ps[0]'h.hn).r)) || (decide ((ps[k]'hk).m ≤ lastOf ps k) || ((ps[k]'hk).m == par))) := by
  rcases Nat.eq_zero_or_pos k with rfl | hk0
  · rw [ord_zero par ps hk]
    have hb : patBad M C S (ps[0]'hk) = false := by
      rw [List.any_eq_false] at ha
      simpa using ha _ (List.getElem_mem hk)
    unfold patBad at hb
    simp only [Bool.or_eq_false_iff, decide_eq_false_iff_not] at hb
    have hl : lastOf ps 0 = -1 := by unfold lastOf; rw [dif_neg (by omega)]
    rw [hl, decide_eq_false (show ¬ (ps[0]'hk).m ≤ -1 by omega)]
    simp
  · obtain ⟨j, rfl⟩ : ∃ j, k = j + 1 := ⟨k - 1, by omega⟩
    rw [ord_succ par ps j (j + 1) rfl hk, lastOf_succ ps j (by omega)]

set_option maxRecDepth 100000 in
set_option maxHeartbeats 8000000 in
theorem plan_of_long (M C S : Nat) (vd vp : Value) (l : List Bool) (ps : List Pat) (w : World) (hd : BooSeg w vd l) (hp : PSeg w vp ps) (h : Long M C S l ps) (hz : planCode M C S l ps ≠ 0) :
    Calls Tryz.prog 84 #[geo M C S, vd, vp] w fun e w' => e = .returned (.tuple #[.pointer none, .int .u16 (planCode M C S l ps : Nat)]) ∧ Below w.heap.size w w' := by
  obtain ⟨h1, h2, h3, h4, h5, h6⟩ := (geoIs_iff M C S).1 h.hg
  have hk : Hid (∀ W, Calls Tryz.prog 101 #[geo M C S] W fun e w' => e = .returned (.int .u16 0) ∧ Below W.heap.size W w') := fun W => (geom_check M C S W).mono fun e w' ⟨x1, x2⟩ => ⟨by rw [x1]; unfold geoCode; rw [if_pos h.hg], x2⟩
  have hat : Hid (∀ (m r : Int) W, Calls Tryz.prog 108 #[geo M C S, .int .i64 m, .int .i64 r] W _) := fun m r W => geom_At_any M C S m r W h.hg
  have HD := Lib.hid hd
  have HP := Lib.hid hp
  have HO := Lib.hid h
  have hn0 := h.hn
  have hl1 : ((l.length : Int) != (M : Int)) = false := by simp [h.hl]
  have hn1 : ((ps.length : Int) == 0) = false := by simp; intro e; rw [e] at hn0; simp at hn0
  have hfew := hp.few
  have hM16 : l.length ≤ 16 := by have := h.hl; omega
  have hb0 : Below w.heap.size w (w.alloc (.cells #[.int .i64 M, .int .i64 C, .int .i64 S] 23)) := (Below.refl _ _).alloc (Nat.le_refl _) _
  have HA : Hid (At (w.alloc (.cells #[.int .i64 M, .int .i64 C, .int .i64 S] 23)) w.heap.size #[.int .i64 M, .int .i64 C, .int .i64 S] 23) := At.new _ _ _
  obtain ⟨da, dc, rfl⟩ := hd.shape
  obtain ⟨pa, pc, rfl⟩ := hp.shape
  obtain ⟨cd, hcd⟩ : ∃ cd : Nat, cd = planCode M C S l ps := ⟨_, rfl⟩
  have HC := Lib.hid hcd
  rw [← hcd] at hz ⊢
  have HZ := Lib.hid hz
  clear hd hp h hcd hz
  unfold geo at *
  go_enter Tryz.func84, Tryz.ntmps84
  go_wp2_with (go_at_call 101; (with_reducible refine (hk.out _).mono ?_); rintro e w1 ⟨rfl, hb1⟩; have ha1 := HA.out.below hb1 HA.out.lt; have c0 := ha1.cell 0; have c1 := ha1.cell 1; have c2 := ha1.cell 2; have HA1 := Lib.hid ha1; have HB1 := Lib.hid (below_then hb0 hb1); clear ha1)
  clear c0 c1 c2
  go_loopw [39] (fun q wr => ∃ k : Nat, k ≤ ps.length ∧ q = .int .i64 k ∧ (ps.take k).any (patBad M C S) = false ∧ Below w.heap.size w wr ∧ At wr w.heap.size #[.int .i64 M, .int .i64 C, .int .i64 S] 23) (fun q _ => ps.length - (intOf q).toNat)
  case atStart => exact ⟨0, by omega, rfl, rfl, HB1.out, HA1.out⟩
  case round =>
    obtain ⟨k, hk', rfl, hany, hbw, hag⟩ := hrel
    have HANY := Lib.hid hany
    have HG := Lib.hid hag
    have hlt0 := hag.lt
    have c0 := hag.cell 0
    have c1 := hag.cell 1
    have c2 := hag.cell 2
    clear hag hany
    by_cases hkn : k < ps.length
    · obtain ⟨b, o, rfl, hlt, hx⟩ := PSeg.full (HP.out.below hbw) (by omega)
      obtain ⟨p0, p1, u, p2, hu⟩ := hx k hkn
      obtain ⟨ua, uc, rfl⟩ := hu.shape
      have K1 : Hid (k + 1 ≤ ps.length) := hkn
      have hat' := Lib.hid (hat.out (ps[k]'hkn).m (ps[k]'hkn).r)
      have HT := Lib.hid (any_take hkn HANY.out)
      have HH := Lib.hid (any_hit (f := patBad M C S) hkn)
      have HBE : Hid (patBad M C S (ps[k]'hkn) = patBad M C S ⟨(ps[k]'hkn).m, (ps[k]'hkn).r, []⟩) := rfl
      clear hx hu
      cases hbad : patBad M C S ⟨(ps[k]'hkn).m, (ps[k]'hkn).r, []⟩
      · have HN : Hid ((ps.take (k + 1)).any (patBad M C S) = false) := HT.out.trans (HBE.out.trans hbad)
        simp only [hbad, Bool.false_eq_true, if_false] at hat'
        clear hbad HBE HT HH
        generalize (ps[k]'hkn).d.length = n at *
        generalize (ps[k]'hkn).m = x at *
        generalize (ps[k]'hkn).r = y at *
        as_aux_lemma =>
          go_wp2_with (go_at_call 108; (with_reducible refine (hat'.out _).mono ?_); rintro e w2 ⟨⟨zb, zp, rfl⟩, hb2⟩)
          refine ⟨⟨k + 1, K1.out, by go_num, HN.out, below_then (hbw.alloc hbw.size _) hb2, (HG.out.alloc _).below hb2 (by rw [size_alloc]; omega)⟩, by simp [intOf]; omega⟩
      · have HE : Hid (cd = 3) := HC.out.trans (HO.out.c3 (HH.out (HBE.out.trans hbad)))
        simp only [hbad, if_true] at hat'
        clear hbad HBE HT HH
        generalize (ps[k]'hkn).d.length = n at *
        generalize (ps[k]'hkn).m = x at *
        generalize (ps[k]'hkn).r = y at *
        as_aux_lemma =>
          go_wp2_with (go_at_call 108; (with_reducible refine (hat'.out _).mono ?_); rintro e w2 ⟨⟨zb, zp, rfl⟩, hb2⟩)
          go_ret2
          exact ⟨by rw [HE.out]; rfl, below_then (hbw.alloc hbw.size _) hb2⟩
    · obtain rfl : k = ps.length := by omega
      have HALL : Hid (ps.any (patBad M C S) = false) := by
        have h := HANY.out
        rw [List.take_of_length_le (by omega)] at h
        exact h
      obtain ⟨r, hr0, hr1⟩ := row_zero HO.out HALL.out
      have hpar : Hid (∀ W, Calls Tryz.prog 122 #[geo M C S, .int .i64 r] W _) := fun W => geom_parity M C S r W HO.out.hg hr1
      have HPE : Hid ((parOf M C (ps.getD 0 pat0).r.toNat : Nat) = parOf M C r) := by
        show parOf M C (ps.getD 0 pat0).r.toNat = parOf M C r
        rw [getD_of ps 0 hn0, hr0]
        rfl
      unfold geo at hpar
      generalize hpp : parOf M C r = par at *
      obtain ⟨b, o, rfl, hlt, hx⟩ := PSeg.full (HP.out.below hbw) (by omega)
      obtain ⟨p0, p1, -⟩ := hx 0 (by omega)
      simp only [Nat.zero_mul, Nat.add_zero] at p0 p1
      rw [hr0] at p1
      obtain ⟨W0, hW0⟩ : ∃ W0, W0 = wr.alloc (.cells #[.int .i64 M, .int .i64 C, .int .i64 S, .slice da l.length dc, .slice (some ⟨b, o, none⟩) ps.length pc, .int .i64 0] 162) := ⟨_, rfl⟩
      have hr0' : At W0 wr.heap.size #[.int .i64 M, .int .i64 C, .int .i64 S, .slice da l.length dc, .slice (some ⟨b, o, none⟩) ps.length pc, .int .i64 0] 162 := by rw [hW0]; exact At.new _ _ _
      have hg0 : At W0 w.heap.size #[.int .i64 M, .int .i64 C, .int .i64 S] 23 := by rw [hW0]; exact HG.out.alloc _
      have hbw0 : Below w.heap.size w W0 := by rw [hW0]; exact hbw.alloc hbw.size _
      have HR0 := Lib.hid hr0'
      have HG0 := Lib.hid hg0
      have hcut : Hid (∀ X, Below W0.heap.size W0 X → X.cell? ⟨w.heap.size, 0, none⟩ = some (.int .i64 M) ∧ X.cell? ⟨w.heap.size, 1, none⟩ = some (.int .i64 C) ∧ X.cell? ⟨w.heap.size, 2, none⟩ = some (.int .i64 S) ∧ X.cell? ⟨b, o + 1, none⟩ = some (.int .i64 r)) := fun X hX => by
        have := HG0.out.below hX HG0.out.lt
        have hlt' : b < W0.heap.size := by rw [hW0, size_alloc]; omega
        refine ⟨this.cell 0, this.cell 1, this.cell 2, (hX.cell (p := ⟨b, o + 1, none⟩) hlt').trans ?_⟩
        rw [hW0]
        exact (World.cell?_alloc_lt _ _ (a := ⟨b, o + 1, none⟩) hlt).trans p1
      have hblt : b ≠ wr.heap.size := by omega
      have hglt : w.heap.size ≠ wr.heap.size := by omega
      have hz0 : W0.heap.size = wr.heap.size + 1 := by rw [hW0, size_alloc]
      have hcut2 : Hid (∀ X, Below W0.heap.size W0 X → ∀ v, (X.setCell ⟨wr.heap.size, 5, none⟩ v).cell? ⟨w.heap.size, 0, none⟩ = some (.int .i64 M) ∧ (X.setCell ⟨wr.heap.size, 5, none⟩ v).cell? ⟨w.heap.size, 1, none⟩ = some (.int .i64 C) ∧ (X.setCell ⟨wr.heap.size, 5, none⟩ v).cell? ⟨w.heap.size, 2, none⟩ = some (.int .i64 S) ∧ (X.setCell ⟨wr.heap.size, 5, none⟩ v).cell? ⟨b, o + 1, none⟩ = some (.int .i64 r)) := fun X hX v => by
        obtain ⟨k0, k1, k2, k3⟩ := hcut.out X hX
        have hst := Chg.setCell (S := fun q => q = wr.heap.size) (Chg.refl _ X) ⟨wr.heap.size, 5, none⟩ (.inl rfl) v
        have hXs := hX.size
        exact ⟨(hst.cell (p := ⟨w.heap.size, 0, none⟩) (by show w.heap.size < _; omega) hglt).trans k0, (hst.cell (p := ⟨w.heap.size, 1, none⟩) (by show w.heap.size < _; omega) hglt).trans k1, (hst.cell (p := ⟨w.heap.size, 2, none⟩) (by show w.heap.size < _; omega) hglt).trans k2, (hst.cell (p := ⟨b, o + 1, none⟩) (by show b < _; omega) hblt).trans k3⟩
      subst hW0
      have HR := Lib.hid hr0
      clear hx hr0' hg0 p0 p1 hlt hr0 hr1
      go_wp2
      clear c0 c1 c2
      go_region_held3 (fun w' => w'.cell? ⟨w.heap.size, 0, none⟩ = some (.int .i64 M) ∧ w'.cell? ⟨w.heap.size, 1, none⟩ = some (.int .i64 C) ∧ w'.cell? ⟨w.heap.size, 2, none⟩ = some (.int .i64 S) ∧ w'.cell? ⟨b, o + 1, none⟩ = some (.int .i64 r))
        (first | exact hcut.out _ (Below.refl _ _) | exact hcut.out _ (Below.refl _ _).drew | exact hcut.out _ HB2.out | exact HC2.out)
        (first | (go_at_call 122; (with_reducible refine (hpar.out _).mono ?_); rintro e w2 ⟨rfl, hb2⟩; have HB2 := Lib.hid ((Below.refl _ _).drew.trans hb2); have hR2 := HR0.out.below HB2.out HR0.out.lt; have d5 : w2.cell? ⟨wr.heap.size, 5, none⟩ = some (.int .i64 0) := hR2.cell 5; have f5 := hR2.free 5; have HR2 := Lib.hid hR2; have HC2 := Lib.hid (hcut2.out _ HB2.out (.int .i64 (par : Int))); clear hR2 hb2))
      have hR3 := HR2.out.set 5 (.int .i64 (par : Int))
      have hbw3 : Below w.heap.size w (w2.setCell ⟨wr.heap.size, 5, none⟩ (.int .i64 (par : Int))) := (hbw0.trans ((HB2.out).mono (by show w.heap.size ≤ (wr.alloc _).heap.size; rw [hz0]; omega))).setCell (p := ⟨wr.heap.size, 5, none⟩) (Nat.le_of_lt hlt0) _
      generalize hrb : wr.heap.size = rb at *
      have hrb' : w.heap.size ≤ rb := Nat.le_of_lt hlt0
      generalize w2.setCell ⟨rb, 5, none⟩ (.int .i64 (par : Int)) = w3 at *
      have HR3 := Lib.hid hR3
      have HB3 := Lib.hid hbw3
      clear d5 f5 hR3 hbw3 HC2 HR2 HB2 hcut2 hcut hz0 HG0 HR0 hbw0 hblt hglt hrb hlt0 HG hbw
      go_wp2
      go_loopw [15, 76] (fun v q wr => ∃ k : Nat, k ≤ ps.length ∧ q = .int .i64 k ∧ v = .int .i64 (lastOf ps k) ∧ (List.range k).any (ordBad (par : Nat) ps) = false ∧ Below w.heap.size w wr ∧ At wr rb #[.int .i64 M, .int .i64 C, .int .i64 S, .slice da l.length dc, .slice (some ⟨b, o, none⟩) ps.length pc, .int .i64 (par : Int)] 162) (fun _ q _ => ps.length - (intOf q).toNat)
      case atStart => exact ⟨0, by omega, rfl, by unfold lastOf; rw [dif_neg (by omega)], rfl, HB3.out, HR3.out⟩
      case round =>
        obtain ⟨k, hk', rfl, rfl, hord, hbq, haq⟩ := hrel
        have HORD := Lib.hid hord
        have HQ := Lib.hid haq
        have HBQ := Lib.hid hbq
        obtain ⟨b', o', hve, hlt, hx⟩ := PSeg.full (HP.out.below hbq) (by omega)
        simp only [Option.some.injEq, Addr.mk.injEq, and_true] at hve
        obtain ⟨rfl, rfl⟩ := hve
        have hltr := haq.lt
        clear hord
        by_cases hkn : k < ps.length
        · obtain ⟨p0, p1, u, p2, hu⟩ := hx k hkn
          obtain ⟨-, q1, -⟩ := hx 0 (by omega)
          simp only [Nat.zero_mul, Nat.add_zero] at q1
          obtain ⟨ua, uc, rfl⟩ := hu.shape
          have K1 : Hid (k + 1 ≤ ps.length) := hkn
          have HBAD : Hid (ordBad (par : Nat) ps k = true → cd = 1) := fun h1 => HC.out.trans (HO.out.c1 HALL.out (by rw [HPE.out]; exact range_hit hkn h1))
          have HST := Lib.hid (range_step HORD.out)
          have HZO := Lib.hid (ord_last HO.out HALL.out (par : Nat) k hkn)
          have hls := Lib.hid (lastOf_succ ps k hkn)
          have c5 : wr.cell? ⟨rb, 5, none⟩ = some (.int .i64 (par : Int)) := haq.cell 5
          clear hx hu hbq haq
          generalize lastOf ps k = la at *
          generalize (ps[k]'hkn).d.length = n at *
          generalize (ps[k]'hkn).m = x at *
          generalize (ps[k]'hkn).r = z at *
          generalize (ps[0]'hn0).r = z0 at *
          have hway := ord_ways (z != z0) (decide (x ≤ la)) (x == (par : Int))
          rcases hway with ⟨hb, t1⟩ | ⟨hb, t1, t2⟩ | ⟨hb, t1, t2, t3⟩ | ⟨hb, t1, t2, t3⟩
          · have HE : Hid (cd = 1) := HBAD.out (HZO.out.trans hb)
            clear hb
            as_aux_lemma =>
              go_wp2
              go_quiet (fail)
              go_wp2
              go_ret2
              exact ⟨by rw [HE.out]; rfl, below_drewN (HBQ.out.alloc HBQ.out.size _) _⟩
          · have HE : Hid (cd = 1) := HBAD.out (HZO.out.trans hb)
            clear hb
            as_aux_lemma =>
              go_wp2
              go_quiet (fail)
              go_wp2
              go_ret2
              exact ⟨by rw [HE.out]; rfl, below_drewN (HBQ.out.alloc HBQ.out.size _) _⟩
          · have HE : Hid (cd = 1) := HBAD.out (HZO.out.trans hb)
            clear hb
            as_aux_lemma =>
              go_wp2
              go_quiet (fail)
              go_wp2
              go_ret2
              exact ⟨by rw [HE.out]; rfl, below_drewN (HBQ.out.alloc HBQ.out.size _) _⟩
          · have HN : Hid ((List.range (k + 1)).any (ordBad (par : Nat) ps) = false) := HST.out.trans (HZO.out.trans hb)
            clear hb
            as_aux_lemma =>
              go_wp2
              go_quiet (fail)
              go_wp2
              refine ⟨⟨k + 1, K1.out, by go_num, by rw [hls.out], HN.out, below_drewN (HBQ.out.alloc HBQ.out.size _) _, (HQ.out.alloc _)⟩, by simp [intOf]; omega⟩
        · obtain rfl : k = ps.length := by omega
          have HORDA : Hid ((List.range ps.length).any (ordBad (parOf M C (ps.getD 0 pat0).r.toNat : Nat) ps) = false) := by
            show (List.range ps.length).any (ordBad (parOf M C (ps.getD 0 pat0).r.toNat : Nat) ps) = false
            rw [HPE.out]
            exact HORD.out
          have hshort : Hid (∀ W, Below w.heap.size w W → Calls Tryz.prog 139 #[.slice (some ⟨b, o, none⟩) ps.length pc, .func (.func 138) #[] #[]] W _) := fun W hW => contains_short _ ps W (HP.out.below hW)
          clear hx hlt hbq haq
          cases hsh : (ps.any fun p => decide (p.d.length ≠ 128))
          · rw [hsh] at hshort
            have HE := Lib.hid (HC.out.trans (HO.out.cx HALL.out HORDA.out hsh))
            clear hsh
            go_wp2_with (go_at_call 139; (with_reducible refine (hshort.out _ HBQ.out).mono ?_); rintro e w4 ⟨rfl, hb4⟩; have HB4 := Lib.hid (below_then HBQ.out hb4); clear hb4)
            go_loopw [19, 110] (fun v q wr => ∃ (k n : Nat), k ≤ l.length ∧ q = .int .i64 k ∧ v = .int .i64 n ∧ n ≤ k ∧ (l.take k).count true = n ∧ wr = w4) (fun _ q _ => l.length - (intOf q).toNat)
            case atStart => exact ⟨0, 0, by omega, rfl, rfl, by omega, rfl, rfl⟩
            case round =>
              obtain ⟨k, n, hk4, rfl, rfl, hnk, hcnt, rfl⟩ := hrel
              have HCN := Lib.hid hcnt
              clear hcnt
              by_cases hkn4 : k < l.length
              · obtain ⟨db, do', dc', hve, hltd, hxd⟩ := BooSeg.full (HD.out.below HB4.out) (by omega)
                simp only [Value.slice.injEq] at hve
                obtain ⟨rfl, -, rfl⟩ := hve
                have d0 := hxd k hkn4
                have K1 : Hid (k + 1 ≤ l.length) := hkn4
                have HST2 : Hid ((l.take (k + 1)).count true = n + if (l[k]'hkn4) = true then 1 else 0) := by
                  show (l.take (k + 1)).count true = _
                  rw [List.take_succ_eq_append_getElem hkn4, List.count_append, HCN.out]
                  cases l[k]'hkn4 <;> rfl
                clear hxd
                generalize (l[k]'hkn4) = x at *
                cases x
                · as_aux_lemma =>
                    go_wp2
                    exact ⟨⟨k + 1, n, K1.out, by go_num, rfl, by omega, HST2.out, trivial⟩, by simp [intOf]; omega⟩
                · as_aux_lemma =>
                    go_wp2
                    exact ⟨⟨k + 1, n + 1, K1.out, by go_num, by go_num, by omega, HST2.out, trivial⟩, by simp [intOf]; omega⟩
              · have HCA : Hid (l.count true = n) := by
                  have h := HCN.out
                  rw [List.take_of_length_le (by omega)] at h
                  exact h
                have hn1' : 1 < n := by
                  apply Classical.byContradiction
                  intro hc
                  exact HZ.out (HE.out.trans (by rw [HCA.out, if_neg hc]))
                have HF : Hid (cd = 130) := HE.out.trans (by rw [HCA.out, if_pos hn1'])
                have hz1 : decide ((1 : Int) < (n : Int)) = true := decide_eq_true (by omega)
                clear HE
                go_wp2
                go_ret2
                exact ⟨by rw [HF.out]; rfl, HB4.out⟩
          · rw [hsh] at hshort
            have HE : Hid (cd = 4) := HC.out.trans (HO.out.c4 HALL.out HORDA.out hsh)
            clear hsh
            go_wp2_with (go_at_call 139; (with_reducible refine (hshort.out _ HBQ.out).mono ?_); rintro e w4 ⟨rfl, hb4⟩; have HB4 := Lib.hid (below_then HBQ.out hb4); clear hb4)
            go_ret2
            exact ⟨by rw [HE.out]; rfl, HB4.out⟩

theorem code_le (M C S : Int) (l : List Bool) (ps : List Pat) : planCode M C S l ps ≤ 130 := by
  unfold planCode
  repeat (first | split | omega)

/-- plan.of refuses with the code. -/
theorem plan_of_no (m c s : Int) (vd vp : Value) (l : List Bool) (ps : List Pat) (w : World) (hd : BooSeg w vd l) (hp : PSeg w vp ps) (hz : planCode m c s l ps ≠ 0) :
    Calls Tryz.prog 84 #[geo m c s, vd, vp] w fun e w' => e = .returned (.tuple #[.pointer none, .int .u16 (planCode m c s l ps : Nat)]) ∧ Below w.heap.size w w' := by
  by_cases h : geoIs m c s = false ∨ ((l.length : Int) ≠ m ∨ ps.length = 0)
  · exact plan_of_short m c s vd vp l ps w hd hp h
  · have hg : geoIs m c s = true := by
      cases e : geoIs m c s
      · exact absurd (.inl e) h
      · rfl
    have hl : (l.length : Int) = m := Classical.byContradiction fun e => h (.inr (.inl e))
    have hn : ps.length ≠ 0 := fun e => h (.inr (.inr e))
    obtain ⟨h1, h2, h3, h4, h5, h6⟩ := (geoIs_iff m c s).1 hg
    obtain ⟨M, rfl⟩ := Int.eq_ofNat_of_zero_le (by omega : 0 ≤ m)
    obtain ⟨C, rfl⟩ := Int.eq_ofNat_of_zero_le (by omega : 0 ≤ c)
    obtain ⟨S, rfl⟩ := Int.eq_ofNat_of_zero_le (by omega : 0 ≤ s)
    exact plan_of_long M C S vd vp l ps w hd hp ⟨hg, by omega, by omega⟩ hz

/-- The empty plan. -/
def noPlan : Value := .agg #[.int .i64 0, .int .u8 0, .int .i64 0, .slice none 0 0, .slice none 0 0]

/-- plan.Of refuses with the code. -/
theorem plan_Of_code (m c s : Int) (vd vp : Value) (l : List Bool) (ps : List Pat) (w : World) (hd : BooSeg w vd l) (hp : PSeg w vp ps) (hz : planCode m c s l ps ≠ 0) :
    Calls Tryz.prog 22 #[geo m c s, vd, vp] w fun e w' => e = .returned (.tuple #[noPlan, .int .u16 (planCode m c s l ps : Nat)]) ∧ Below w.heap.size w w' := by
  obtain ⟨a, k, e⟩ := hd.shape
  have hle := code_le m c s l ps
  have h := plan_Of_no m c s a l.length k vp (planCode m c s l ps) w hz (by omega) (fun W hW => by rw [← e]; exact plan_of_no m c s vd vp l ps W (hd.below hW) (hp.below hW) hz)
  rw [← e] at h
  exact h

/-- ref13's faults, of anything. -/
theorem ref_faults (m c s : Int) (vd vp : Value) (l : List Bool) (ps : List Pat) (w : World) (hd : BooSeg w vd l) (hp : PSeg w vp ps) :
    Calls Tryz.prog 93 #[geo m c s, vd, vp] w fun e w' => e = .returned (.int .i64 (planCode m c s l ps : Nat)) ∧ Below w.heap.size w w' := by
  by_cases h : geoIs m c s = false ∨ ((l.length : Int) ≠ m ∨ ps.length = 0)
  · exact faults_short m c s vd vp l ps w hd hp h
  · have hg : geoIs m c s = true := by
      cases e : geoIs m c s
      · exact absurd (.inl e) h
      · rfl
    have hl : (l.length : Int) = m := Classical.byContradiction fun e => h (.inr (.inl e))
    have hn : ps.length ≠ 0 := fun e => h (.inr (.inr e))
    obtain ⟨h1, h2, h3, h4, h5, h6⟩ := (geoIs_iff m c s).1 hg
    obtain ⟨M, rfl⟩ := Int.eq_ofNat_of_zero_le (by omega : 0 ≤ m)
    obtain ⟨C, rfl⟩ := Int.eq_ofNat_of_zero_le (by omega : 0 ≤ c)
    obtain ⟨S, rfl⟩ := Int.eq_ofNat_of_zero_le (by omega : 0 ≤ s)
    exact faults_long M C S vd vp l ps w hd hp ⟨hg, by omega, by omega⟩

end Go.Proofs.YtpegbgomnpinfaaGreat
