/- spindleref13's faults, where it goes through the patches. -/
import Derived.Test.YtpegbgomnpinfaaGreatPlyH
set_option linter.unusedVariables false
namespace Go.Proofs.YtpegbgomnpinfaaGreat
open Go.RowKit

/-- Where there is a geometry, a bit for each member, and something to be put. -/
structure Long (M C S : Nat) (l : List Bool) (ps : List Pat) : Prop where
  hg : geoIs M C S = true
  hl : l.length = M
  hn : 0 < ps.length
theorem Long.code {M C S : Nat} {l : List Bool} {ps : List Pat} (h : Long M C S l ps) : planCode M C S l ps = if ps.any (patBad M C S) = true then 3 else
    if (List.range ps.length).any (ordBad (parOf M C (ps.getD 0 pat0).r.toNat : Nat) ps) = true then 1 else
    if (ps.any fun p => decide (p.d.length ≠ 128)) = true then 4 else if 1 < l.count true then 130 else 0 := by
  have hn := h.hn
  unfold planCode
  rw [if_neg (by simp [h.hg]), if_neg (by simp [h.hl]; intro e; subst e; simp at hn)]
  rfl
theorem Long.c3 {M C S : Nat} {l : List Bool} {ps : List Pat} (h : Long M C S l ps) (h3 : ps.any (patBad M C S) = true) : planCode M C S l ps = 3 := by rw [h.code, if_pos h3]
theorem Long.c1 {M C S : Nat} {l : List Bool} {ps : List Pat} (h : Long M C S l ps) (h3 : ps.any (patBad M C S) = false) (h1 : (List.range ps.length).any (ordBad (parOf M C (ps.getD 0 pat0).r.toNat : Nat) ps) = true) : planCode M C S l ps = 1 := by rw [h.code, if_neg (by simp [h3]), if_pos h1]
theorem Long.c4 {M C S : Nat} {l : List Bool} {ps : List Pat} (h : Long M C S l ps) (h3 : ps.any (patBad M C S) = false) (h1 : (List.range ps.length).any (ordBad (parOf M C (ps.getD 0 pat0).r.toNat : Nat) ps) = false) (h4 : (ps.any fun p => decide (p.d.length ≠ 128)) = true) : planCode M C S l ps = 4 := by
  rw [h.code, if_neg (by simp [h3]), if_neg (by rw [h1]; simp), if_pos h4]
theorem Long.cx {M C S : Nat} {l : List Bool} {ps : List Pat} (h : Long M C S l ps) (h3 : ps.any (patBad M C S) = false) (h1 : (List.range ps.length).any (ordBad (parOf M C (ps.getD 0 pat0).r.toNat : Nat) ps) = false) (h4 : (ps.any fun p => decide (p.d.length ≠ 128)) = false) : planCode M C S l ps = if 1 < l.count true then 130 else 0 := by
  rw [h.code, if_neg (by simp [h3]), if_neg (by rw [h1]; simp), if_neg (by rw [h4]; simp)]
theorem row_zero {M C S : Nat} {l : List Bool} {ps : List Pat} (h : Long M C S l ps) (ha : ps.any (patBad M C S) = false) : ∃ r : Nat, (ps[0]'h.hn).r = (r : Int) ∧ r < S * C := by
  have hb : patBad M C S (ps[0]'h.hn) = false := by
    rw [List.any_eq_false] at ha
    simpa using ha _ (List.getElem_mem h.hn)
  unfold patBad at hb
  simp only [Bool.or_eq_false_iff, decide_eq_false_iff_not] at hb
  obtain ⟨-, -, h1, h2⟩ := hb
  refine ⟨(ps[0]'h.hn).r.toNat, by omega, by omega⟩
theorem ord_zero (par : Int) (ps : List Pat) (h : 0 < ps.length) : ordBad par ps 0 = ((ps[0]'h).m == par) := by
  unfold ordBad
  rw [getD_of ps 0 h]
  simp
theorem ord_succ (par : Int) (ps : List Pat) (j k : Nat) (hkj : k = j + 1) (h : k < ps.length) : ordBad par ps k = ((!((ps[k]'h).r == (ps[0]'(by omega)).r)) || (decide ((ps[k]'h).m ≤ (ps[j]'(by omega)).m) || ((ps[k]'h).m == par))) := by
  subst hkj
  unfold ordBad
  rw [getD_of ps (j + 1) h, getD_of ps 0 (by omega), show j + 1 - 1 = j by omega, getD_of ps j (by omega)]
  simp
theorem range_step {f : Nat → Bool} {k : Nat} (h : (List.range k).any f = false) : (List.range (k + 1)).any f = f k := by
  rw [List.range_succ, List.any_append, h]
  simp
theorem range_hit {f : Nat → Bool} {k n : Nat} (hk : k < n) (h : f k = true) : (List.range n).any f = true := List.any_eq_true.2 ⟨k, List.mem_range.2 hk, h⟩
theorem ord_ways (a b c : Bool) : ((a || (b || c)) = true ∧ a = true) ∨ ((a || (b || c)) = true ∧ a = false ∧ b = true) ∨ ((a || (b || c)) = true ∧ a = false ∧ b = false ∧ c = true) ∨ ((a || (b || c)) = false ∧ a = false ∧ b = false ∧ c = false) := by
  cases a <;> cases b <;> cases c <;> simp
theorem patBad_ways (M C S T : Nat) (hT : T = S * C) (pm pr : Int) (pd : List UInt8) :
    (patBad M C S ⟨pm, pr, pd⟩ = true ∧ decide (pm < 0) = true) ∨
    (patBad M C S ⟨pm, pr, pd⟩ = true ∧ decide (pm < 0) = false ∧ decide ((M : Int) ≤ pm) = true) ∨
    (patBad M C S ⟨pm, pr, pd⟩ = true ∧ decide (pm < 0) = false ∧ decide ((M : Int) ≤ pm) = false ∧ decide (pr < 0) = true) ∨
    (patBad M C S ⟨pm, pr, pd⟩ = true ∧ decide (pm < 0) = false ∧ decide ((M : Int) ≤ pm) = false ∧ decide (pr < 0) = false ∧ decide ((T : Int) ≤ pr) = true) ∨
    (patBad M C S ⟨pm, pr, pd⟩ = false ∧ decide (pm < 0) = false ∧ decide ((M : Int) ≤ pm) = false ∧ decide (pr < 0) = false ∧ decide ((T : Int) ≤ pr) = false) := by
  subst hT
  unfold patBad
  simp only
  cases decide (pm < 0) <;> cases decide ((M : Int) ≤ pm) <;> cases decide (pr < 0) <;> cases decide (((S * C : Nat) : Int) ≤ pr) <;> simp

set_option maxRecDepth 100000 in
set_option maxHeartbeats 4000000 in
theorem faults_long (M C S : Nat) (vd vp : Value) (l : List Bool) (ps : List Pat) (w : World) (hd : BooSeg w vd l) (hp : PSeg w vp ps) (h : Long M C S l ps) :
    Calls Tryz.prog 93 #[geo M C S, vd, vp] w fun e w' => e = .returned (.int .i64 (planCode M C S l ps : Nat)) ∧ Below w.heap.size w w' := by
  have hk : Hid (∀ W, Calls Tryz.prog 44 #[geo M C S] W fun e w' => e = .returned (.int .i64 0) ∧ Below W.heap.size W w') := fun W => (ref_check M C S W).mono fun e w' ⟨x1, x2⟩ => ⟨by rw [x1]; unfold geoCode; rw [if_pos h.hg], x2⟩
  have hr : Hid (∀ W, Calls Tryz.prog 45 #[geo M C S] W fun e w' => e = .returned (.int .i64 ((S * C : Nat) : Int)) ∧ Below W.heap.size W w') := fun W => (ref_rows M C S W).mono fun e w' ⟨x1, x2⟩ => ⟨by rw [x1]; unfold geoRows; rw [if_pos h.hg, Int.natCast_mul], x2⟩
  obtain ⟨T, hT⟩ : ∃ T, T = S * C := ⟨_, rfl⟩
  rw [← hT] at hr
  have HT0 := Lib.hid hT
  clear hT
  have HB0 : Hid (Below w.heap.size w (w.alloc (.cells #[.int .i64 M, .int .i64 C, .int .i64 S] 23))) := (Below.refl _ _).alloc (Nat.le_refl _) _
  have HA : Hid (At (w.alloc (.cells #[.int .i64 M, .int .i64 C, .int .i64 S] 23)) w.heap.size #[.int .i64 M, .int .i64 C, .int .i64 S] 23) := At.new _ _ _
  have HD := Lib.hid hd
  have HP := Lib.hid hp
  have HO := Lib.hid h
  have hfew := hp.few
  have hl1 : ((l.length : Int) != (M : Int)) = false := by simp [h.hl]
  have hn0 := h.hn
  have hn1 : ((ps.length : Int) == 0) = false := by simp; intro e; rw [e] at hn0; simp at hn0
  obtain ⟨da, dc, rfl⟩ := hd.shape
  obtain ⟨pa, pc, rfl⟩ := hp.shape
  obtain ⟨cd, hcd⟩ : ∃ cd : Nat, cd = planCode M C S l ps := ⟨_, rfl⟩
  have HC := Lib.hid hcd
  rw [← hcd]
  clear hd hp h hcd
  unfold geo at *
  go_enter Tryz.func93, Tryz.ntmps93
  go_wp2_with (first
    | (go_at_call 44; (with_reducible refine (hk.out _).mono ?_); rintro e w1 ⟨rfl, hb1⟩; have HA1 := Lib.hid (HA.out.below hb1 HA.out.lt); have HB1 := Lib.hid (below_then HB0.out hb1); have c0 := HA1.out.cell 0; have c1 := HA1.out.cell 1; have c2 := HA1.out.cell 2; clear hb1)
    | (go_at_call 45; (with_reducible refine (hr.out _).mono ?_); rintro e w2 ⟨rfl, hb2⟩; have HA2 := Lib.hid (HA1.out.below hb2 HA1.out.lt); have HB2 := Lib.hid (below_then HB1.out hb2); clear hb2))
  clear c0 c1 c2
  go_loopw [9] (fun q wr => ∃ k : Nat, k ≤ ps.length ∧ q = .int .i64 k ∧ (ps.take k).any (patBad M C S) = false ∧ At wr w.heap.size #[.int .i64 M, .int .i64 C, .int .i64 S] 23 ∧ Below w.heap.size w wr) (fun q _ => ps.length - (intOf q).toNat)
  case atStart => exact ⟨0, by omega, rfl, rfl, HA2.out, HB2.out⟩
  case round =>
    obtain ⟨k, hk', rfl, hany, hag, hbw⟩ := hrel
    have HANY := Lib.hid hany
    have HG := Lib.hid hag
    have HBW := Lib.hid hbw
    have c0 := hag.cell 0
    clear hany hag HA HB0 HA1 HB1 HA2 HB2
    by_cases hkn : k < ps.length
    · obtain ⟨b, o, rfl, hlt, hx⟩ := PSeg.full (HP.out.below hbw) (by omega)
      obtain ⟨p0, p1, -⟩ := hx k hkn
      have K1 : Hid (k + 1 ≤ ps.length) := hkn
      have HT := Lib.hid (any_take hkn HANY.out)
      have HH := Lib.hid (any_hit (f := patBad M C S) hkn)
      obtain ⟨y, hye⟩ : ∃ y, ps[k]'hkn = y := ⟨_, rfl⟩
      rw [hye] at p0 p1 HT HH
      obtain ⟨pm, pr, pd⟩ := y
      simp only at p0 p1
      clear hx hye hbw
      have hw := patBad_ways M C S T HT0.out pm pr pd
      rcases hw with ⟨hbad, t1⟩ | ⟨hbad, t1, t2⟩ | ⟨hbad, t1, t2, t3⟩ | ⟨hbad, t1, t2, t3, t4⟩ | ⟨hbad, t1, t2, t3, t4⟩
      · have HE : Hid (cd = 3) := HC.out.trans (HO.out.c3 (HH.out hbad))
        clear hbad
        go_wp2
        go_quiet (fail)
        go_wp2
        go_ret
        exact ⟨by rw [HE.out]; rfl, below_drewN HBW.out _⟩
      · have HE : Hid (cd = 3) := HC.out.trans (HO.out.c3 (HH.out hbad))
        clear hbad
        go_wp2
        go_quiet (fail)
        go_wp2
        go_ret
        exact ⟨by rw [HE.out]; rfl, below_drewN HBW.out _⟩
      · have HE : Hid (cd = 3) := HC.out.trans (HO.out.c3 (HH.out hbad))
        clear hbad
        go_wp2
        go_quiet (fail)
        go_wp2
        go_ret
        exact ⟨by rw [HE.out]; rfl, below_drewN HBW.out _⟩
      · have HE : Hid (cd = 3) := HC.out.trans (HO.out.c3 (HH.out hbad))
        clear hbad
        go_wp2
        go_quiet (fail)
        go_wp2
        go_ret
        exact ⟨by rw [HE.out]; rfl, below_drewN HBW.out _⟩
      · have HN : Hid ((ps.take (k + 1)).any (patBad M C S) = false) := HT.out.trans hbad
        clear hbad
        go_wp2
        go_quiet (fail)
        go_wp2
        go_roundw
        case measure => simp [intOf]; omega
        exact ⟨k + 1, K1.out, by go_num, HN.out, HG.out.below (below_drewN (Below.refl _ _) _) HG.out.lt, below_drewN HBW.out _⟩
    · have HALL : Hid (ps.any (patBad M C S) = false) := by
        have h := HANY.out
        rw [List.take_of_length_le (by omega)] at h
        exact h
      obtain ⟨r, hr0, hr1⟩ := row_zero HO.out HALL.out
      obtain ⟨b, o, rfl, hlt, hx⟩ := PSeg.full (HP.out.below hbw) hn0
      obtain ⟨-, q1, -⟩ := hx 0 hn0
      simp only [Nat.zero_mul, Nat.add_zero] at q1
      rw [hr0] at q1
      have HK : Hid (∀ X, Below wr.heap.size wr X → X.cell? ⟨w.heap.size, 0, none⟩ = some (.int .i64 M) ∧ X.cell? ⟨w.heap.size, 1, none⟩ = some (.int .i64 C) ∧ X.cell? ⟨w.heap.size, 2, none⟩ = some (.int .i64 S) ∧ X.cell? ⟨b, o + 1, none⟩ = some (.int .i64 r)) := fun X hX => by
        have h := HG.out.below hX HG.out.lt
        exact ⟨h.cell 0, h.cell 1, h.cell 2, (hX.cell (p := ⟨b, o + 1, none⟩) hlt).trans q1⟩
      have hpar : Hid (∀ W, Calls Tryz.prog 94 #[geo M C S, .int .i64 r] W _) := fun W => ref_parity M C S r W HO.out.hg hr1
      have HPE : Hid ((parOf M C (ps.getD 0 pat0).r.toNat : Nat) = parOf M C r) := by
        show parOf M C (ps.getD 0 pat0).r.toNat = parOf M C r
        rw [getD_of ps 0 hn0, hr0]
        rfl
      have HBR : Hid (∀ X, Below wr.heap.size wr X → Below w.heap.size w X) := fun X hX => below_then HBW.out hX
      have HL1 : Hid (cd = _) := HC.out
      have hbs := hbw.size
      unfold geo at hpar
      generalize hpp : parOf M C r = par at *
      clear hx q1 hr0 hr1 hpp hbw
      clear c0 HANY
      go_wp2
      go_region_held3 (fun w' => w'.cell? ⟨w.heap.size, 0, none⟩ = some (.int .i64 M) ∧ w'.cell? ⟨w.heap.size, 1, none⟩ = some (.int .i64 C) ∧ w'.cell? ⟨w.heap.size, 2, none⟩ = some (.int .i64 S) ∧ w'.cell? ⟨b, o + 1, none⟩ = some (.int .i64 r))
        (first | with_reducible exact HK.out _ (Below.refl _ _) | with_reducible exact HK.out _ (Below.refl _ _).drew | with_reducible exact HK.out _ HB3.out)
        (first | (go_at_call 94; (with_reducible refine (hpar.out _).mono ?_); rintro e w3 ⟨rfl, hb3⟩; have HB3 : Hid (Below wr.heap.size wr w3) := (Below.refl _ _).drew.trans hb3; have HG3 := Lib.hid (HG.out.below HB3.out HG.out.lt); have HW3 := Lib.hid (HBR.out _ HB3.out); clear hb3))
      go_wp2
      go_loopw [12] (fun q wx => ∃ k : Nat, k ≤ ps.length ∧ q = .int .i64 k ∧ (List.range k).any (ordBad (par : Nat) ps) = false ∧ Below w.heap.size w wx) (fun q _ => ps.length - (intOf q).toNat)
      case atStart => exact ⟨0, by omega, rfl, rfl, HW3.out⟩
      case round =>
        obtain ⟨k, hk2, rfl, hord, hbw2⟩ := hrel
        have HORD := Lib.hid hord
        have HBW2 := Lib.hid hbw2
        clear hord HK HL1 HBR HG HG3 HW3 HB3 hpar hk hr
        by_cases hkn2 : k < ps.length
        · obtain ⟨b', o', hve, hlt2, hx⟩ := PSeg.full (HP.out.below hbw2) hn0
          simp only [Option.some.injEq, Addr.mk.injEq, and_true] at hve
          obtain ⟨rfl, rfl⟩ := hve
          have K1 : Hid (k + 1 ≤ ps.length) := hkn2
          have HBAD : Hid (ordBad (par : Nat) ps k = true → cd = 1) := fun h1 => HC.out.trans (HO.out.c1 HALL.out (by rw [HPE.out]; exact range_hit hkn2 h1))
          have HST := Lib.hid (range_step HORD.out)
          clear hbw2
          by_cases hk0 : k = 0
          · subst hk0
            obtain ⟨p0, p1, -⟩ := hx 0 hn0
            have HZ := Lib.hid (ord_zero (par : Nat) ps hn0)
            simp only [Nat.zero_mul, Nat.add_zero] at p0 p1
            clear hx
            generalize (ps[0]'hn0).m = x at *
            generalize (ps[0]'hn0).r = z at *
            cases t1 : (x == (par : Int))
            · have HN : Hid ((List.range (0 + 1)).any (ordBad (par : Nat) ps) = false) := HST.out.trans (HZ.out.trans t1)
              go_wp2
              go_quiet (fail)
              go_wp2
              go_roundw
              case measure => simp [intOf]; omega
              exact ⟨0 + 1, K1.out, by go_num, HN.out, below_drewN HBW2.out _⟩
            · have HE : Hid (cd = 1) := HBAD.out (HZ.out.trans t1)
              go_wp2
              go_quiet (fail)
              go_wp2
              go_ret
              exact ⟨by rw [HE.out]; rfl, below_drewN HBW2.out _⟩
          · obtain ⟨j, hj⟩ : ∃ j, k = j + 1 := ⟨k - 1, by omega⟩
            have hsub : (k : Int) - 1 = (j : Int) := by omega
            have hd0 : decide ((0 : Int) < (k : Int)) = true := decide_eq_true (by omega)
            have hd1 : decide (0 < k) = true := decide_eq_true (by omega)
            have hkpos : 0 < k := by omega
            have hjn : j < ps.length := by omega
            obtain ⟨p0, p1, -⟩ := hx k hkn2
            obtain ⟨-, q1, -⟩ := hx 0 hn0
            obtain ⟨s0, -, -⟩ := hx j hjn
            have HZ := Lib.hid (ord_succ (par : Nat) ps j k hj hkn2)
            simp only [Nat.zero_mul, Nat.add_zero] at q1
            clear hx
            generalize (ps[k]'hkn2).m = x at *
            generalize (ps[k]'hkn2).r = z at *
            generalize (ps[0]'hn0).r = z0 at *
            generalize (ps[j]'hjn).m = x0 at *
            clear hj hk0
            have hway := ord_ways (z != z0) (decide (x ≤ x0)) (x == (par : Int))
            rcases hway with ⟨hb, t1⟩ | ⟨hb, t1, t2⟩ | ⟨hb, t1, t2, t3⟩ | ⟨hb, t1, t2, t3⟩
            · have HE : Hid (cd = 1) := HBAD.out (HZ.out.trans hb)
              clear hb
              go_wp2
              go_quiet (fail)
              go_wp2
              go_ret
              exact ⟨by rw [HE.out]; rfl, below_drewN HBW2.out _⟩
            · have HE : Hid (cd = 1) := HBAD.out (HZ.out.trans hb)
              clear hb
              go_wp2
              go_quiet (fail)
              go_wp2
              go_ret
              exact ⟨by rw [HE.out]; rfl, below_drewN HBW2.out _⟩
            · have HE : Hid (cd = 1) := HBAD.out (HZ.out.trans hb)
              clear hb
              go_wp2
              go_quiet (fail)
              go_wp2
              go_ret
              exact ⟨by rw [HE.out]; rfl, below_drewN HBW2.out _⟩
            · have HN : Hid ((List.range (k + 1)).any (ordBad (par : Nat) ps) = false) := HST.out.trans (HZ.out.trans hb)
              clear hb
              go_wp2
              go_quiet (fail)
              go_wp2
              go_roundw
              case measure => simp [intOf]; omega
              exact ⟨k + 1, K1.out, by go_num, HN.out, below_drewN HBW2.out _⟩
        · have HORDA : Hid ((List.range ps.length).any (ordBad (parOf M C (ps.getD 0 pat0).r.toNat : Nat) ps) = false) := by
            obtain rfl : k = ps.length := by omega
            show (List.range ps.length).any (ordBad (parOf M C (ps.getD 0 pat0).r.toNat : Nat) ps) = false
            rw [HPE.out]
            exact HORD.out
          obtain ⟨wo, rfl⟩ : ∃ wo : World, wo = wr := ⟨_, rfl⟩
          clear HORD HPE hbw2
          go_wp2
          go_loopw [13] (fun q wx => ∃ k : Nat, k ≤ ps.length ∧ q = .int .i64 k ∧ ((ps.take k).any fun p => decide (p.d.length ≠ 128)) = false ∧ wx = wo) (fun q _ => ps.length - (intOf q).toNat)
          case atStart => exact ⟨0, by omega, rfl, rfl, rfl⟩
          case round =>
            obtain ⟨k, hk3, rfl, hshort, rfl⟩ := hrel
            have HSH := Lib.hid hshort
            clear hshort
            by_cases hkn3 : k < ps.length
            · obtain ⟨b', o', hve, hlt2, hx⟩ := PSeg.full (HP.out.below HBW2.out) hn0
              simp only [Option.some.injEq, Addr.mk.injEq, and_true] at hve
              obtain ⟨rfl, rfl⟩ := hve
              obtain ⟨-, -, u, p2, hu⟩ := hx k hkn3
              have K1 : Hid (k + 1 ≤ ps.length) := hkn3
              have HT := Lib.hid (any_take hkn3 HSH.out)
              have HH := Lib.hid (any_hit (f := fun p : Pat => decide (p.d.length ≠ 128)) hkn3)
              obtain ⟨ua, uc, rfl⟩ := hu.shape
              clear hx hu
              generalize (ps[k]'hkn3).d.length = n at *
              by_cases hn : n = 128
              · have hne : ((n : Int) != 128) = false := by simp [hn]
                have HN : Hid (((ps.take (k + 1)).any fun p => decide (p.d.length ≠ 128)) = false) := HT.out.trans (by simp [hn])
                clear hn HT HH
                go_wp2
                exact ⟨⟨k + 1, K1.out, by go_num, HN.out, trivial⟩, by simp [intOf]; omega⟩
              · have hne : ((n : Int) != 128) = true := by simp; omega
                have HE : Hid (cd = 4) := HC.out.trans (HO.out.c4 HALL.out HORDA.out (HH.out (by simp [hn])))
                clear hn HT HH
                go_wp2
                go_ret
                exact ⟨by rw [HE.out]; rfl, HBW2.out⟩
            · have HSA : Hid ((ps.any fun p => decide (p.d.length ≠ 128)) = false) := by
                have h := HSH.out
                rw [List.take_of_length_le (by omega)] at h
                exact h
              have HE := Lib.hid (HC.out.trans (HO.out.cx HALL.out HORDA.out HSA.out))
              clear HSH
              obtain ⟨wo, rfl⟩ : ∃ wo : World, wo = wr := ⟨_, rfl⟩
              have hM : l.length ≤ 16 := by
                have h1 := HO.out.hl
                have h2 := (geoIs_iff M C S).1 HO.out.hg
                omega
              go_wp2
              go_loopw [14, 15] (fun t q wx => ∃ (k n : Nat), k ≤ l.length ∧ q = .int .i64 k ∧ t = .int .i64 n ∧ n ≤ k ∧ (l.take k).count true = n ∧ wx = wo) (fun _ q _ => l.length - (intOf q).toNat)
              case atStart => exact ⟨0, 0, by omega, rfl, rfl, by omega, rfl, rfl⟩
              case round =>
                obtain ⟨k, n, hk4, rfl, rfl, hnk, hcnt, rfl⟩ := hrel
                have HCN := Lib.hid hcnt
                clear hcnt
                by_cases hkn4 : k < l.length
                · obtain ⟨db, do', dc', hve, hltd, hxd⟩ := BooSeg.full (HD.out.below HBW2.out) (by omega)
                  simp only [Value.slice.injEq] at hve
                  obtain ⟨rfl, -, rfl⟩ := hve
                  have d0 := hxd k hkn4
                  have K1 : Hid (k + 1 ≤ l.length) := hkn4
                  have HST2 : Hid ((l.take (k + 1)).count true = n + if (l[k]'hkn4) = true then 1 else 0) := by
                    show (l.take (k + 1)).count true = _
                    rw [List.take_succ_eq_append_getElem hkn4, List.count_append, HCN.out]
                    cases l[k]'hkn4 <;> rfl
                  clear hxd
                  generalize (l[k]'hkn4) = x at *
                  cases x
                  · go_wp2
                    exact ⟨⟨k + 1, n, K1.out, by go_num, by go_num, by omega, HST2.out, trivial⟩, by simp [intOf]; omega⟩
                  · go_wp2
                    exact ⟨⟨k + 1, n + 1, K1.out, by go_num, by go_num, by omega, HST2.out, trivial⟩, by simp [intOf]; omega⟩
                · have HCA : Hid (l.count true = n) := by
                    have h := HCN.out
                    rw [List.take_of_length_le (by omega)] at h
                    exact h
                  by_cases hn1' : 1 < n
                  · have HF : Hid (cd = 130) := HE.out.trans (by rw [HCA.out, if_pos hn1'])
                    have hz1 : decide ((1 : Int) < (n : Int)) = true := decide_eq_true (by omega)
                    clear HE
                    go_wp2
                    go_ret
                    exact ⟨by rw [HF.out]; rfl, HBW2.out⟩
                  · have HF : Hid (cd = 0) := HE.out.trans (by rw [HCA.out, if_neg hn1'])
                    have hz1 : decide ((1 : Int) < (n : Int)) = false := decide_eq_false (by omega)
                    clear HE
                    go_wp2
                    go_ret
                    exact ⟨by rw [HF.out]; rfl, HBW2.out⟩

end Go.Proofs.YtpegbgomnpinfaaGreat
