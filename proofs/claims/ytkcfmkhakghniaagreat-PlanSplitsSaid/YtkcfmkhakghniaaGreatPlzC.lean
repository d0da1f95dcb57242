/- The document's: how many blocks; what is wrong with a batch. -/
import Derived.Test.YtkcfmkhakghniaaGreatPlnN
import Derived.Test.YtkcfmkhakghniaaGreatMrg4
import Derived.Test.YtkcfmkhakghniaaGreatPlwP
set_option linter.unusedVariables false
namespace Go.Proofs.YtkcfmkhakghniaaGreat
open Go.RowKit

set_option maxRecDepth 100000 in
set_option maxHeartbeats 4000000 in
theorem ref_blocks (M C S : Nat) (w : World) (h : geoIs M C S = true) : Calls Tryz.prog 161 #[geo M C S] w fun e w' => e = .returned (.int .i64 ((S : Int) * C * ((M : Int) - 1))) ∧ Below w.heap.size w w' := by
  obtain ⟨h1, h2, h3, h4, h5, h6⟩ := (geoIs_iff M C S).1 h
  have hk := Lib.hid (fun W => ref_rows M C S W)
  obtain ⟨hlo, hhi⟩ := geo_bounds h
  unfold geoRows at hk
  rw [h] at hk
  simp only [if_true] at hk
  generalize (S : Int) * (C : Int) = q at *
  have hM15 : (M : Int) - 1 ≤ 15 := by clear hhi hlo; omega
  have hM0 : 0 ≤ (M : Int) - 1 := by clear hhi hlo; omega
  have hp1 : q * ((M : Int) - 1) ≤ 4096 * 15 := Int.mul_le_mul hhi hM15 hM0 (by decide)
  have hp0 : 0 ≤ q * ((M : Int) - 1) := Int.mul_nonneg hlo hM0
  have hpw := wr_small hp0 (Int.le_trans hp1 (by decide))
  have hpw' := wr_small' hp0 (Int.le_trans hp1 (by decide))
  have hb : Below w.heap.size w (w.alloc (.cells #[.int .i64 M, .int .i64 C, .int .i64 S] 23)) := (Below.refl _ _).alloc (Nat.le_refl _) _
  have ha : At (w.alloc (.cells #[.int .i64 M, .int .i64 C, .int .i64 S] 23)) w.heap.size #[.int .i64 M, .int .i64 C, .int .i64 S] 23 := At.new _ _ _
  have HA := Lib.hid ha
  clear ha hp1 hp0 hM15 hM0
  unfold geo at *
  go_enter Tryz.func161, Tryz.ntmps161
  go_wp2_with (go_at_call 54; (with_reducible refine (hk.out _).mono ?_); rintro e w1 ⟨rfl, hb1⟩; have hA1 := HA.out.below hb1 HA.out.lt; have c0 := hA1.cell 0; clear hA1)
  try go_quiet (fail)
  try go_wp2_with fail
  go_ret
  first
    | exact ⟨rfl, below_then hb hb1⟩
    | exact ⟨rfl, below_drewN (below_then hb hb1) _⟩

set_option maxRecDepth 100000 in
set_option maxHeartbeats 4000000 in
theorem ref_wrong (m c s : Int) (v : Value) (us : List (Int × List UInt8)) (w : World) (hv : PutSeg w v us) :
    Calls Tryz.prog 101 #[geo m c s, v] w fun e w' => e = .returned (.int .i64 (splitCode m c s us)) ∧ Below w.heap.size w w' := by
  have hk := Lib.hid (fun W => ref_check m c s W)
  have hb : Below w.heap.size w (w.alloc (.cells #[.int .i64 m, .int .i64 c, .int .i64 s] 23)) := (Below.refl _ _).alloc (Nat.le_refl _) _
  have HA : Hid (At (w.alloc (.cells #[.int .i64 m, .int .i64 c, .int .i64 s] 23)) w.heap.size #[.int .i64 m, .int .i64 c, .int .i64 s] 23) := At.new _ _ _
  have HV := Lib.hid hv
  have hfew := hv.few
  obtain ⟨va, vc, rfl⟩ := hv.shape
  clear hv
  by_cases hg : geoIs m c s = false
  · have e : splitCode m c s us = 60 := by unfold splitCode; rw [if_pos hg]
    rw [e]
    unfold geoCode at hk
    rw [hg] at hk
    simp only [Bool.false_eq_true, if_false] at hk
    unfold geo at *
    go_enter Tryz.func101, Tryz.ntmps101
    go_wp2_with (go_at_call 53; (with_reducible refine (hk.out _).mono ?_); rintro e w1 ⟨rfl, hb1⟩)
    go_ret
    exact ⟨rfl, below_then hb hb1⟩
  have hg' : geoIs m c s = true := by simpa using hg
  unfold geoCode at hk
  rw [hg'] at hk
  simp only [if_true] at hk
  by_cases hn : 256 < us.length
  · have e : splitCode m c s us = 1 := by unfold splitCode; rw [if_neg hg, if_pos hn]
    have hni : (256 : Int) < (us.length : Int) := by omega
    rw [e]
    unfold geo at *
    go_enter Tryz.func101, Tryz.ntmps101
    go_wp2_with (go_at_call 53; (with_reducible refine (hk.out _).mono ?_); rintro e w1 ⟨rfl, hb1⟩)
    go_ret
    exact ⟨rfl, below_then hb hb1⟩
  obtain ⟨h1, h2, h3, h4, h5, h6⟩ := (geoIs_iff m c s).1 hg'
  obtain ⟨M, rfl⟩ : ∃ M : Nat, m = M := ⟨m.toNat, by omega⟩
  obtain ⟨C, rfl⟩ : ∃ C : Nat, c = C := ⟨c.toNat, by omega⟩
  obtain ⟨S, rfl⟩ : ∃ S : Nat, s = S := ⟨s.toNat, by omega⟩
  have hbk := Lib.hid (fun W => ref_blocks M C S W hg')
  have hcode : splitCode M C S us = if us.any (fun u => !decide (0 ≤ u.1 ∧ u.1 < (S : Int) * C * ((M : Int) - 1))) = true then 3 else if us.any (fun u => !decide (u.2.length = 128)) = true then 4 else 0 := by unfold splitCode; rw [if_neg hg, if_neg hn]
  rw [hcode]
  clear hcode h1 h2 h3 h4 h5 h6 hg hg'
  generalize (S : Int) * (C : Int) * ((M : Int) - 1) = B at *
  obtain ⟨cd, hcd⟩ : ∃ cd : Int, (if us.any (fun u => !decide (0 ≤ u.1 ∧ u.1 < B)) = true then 3 else if us.any (fun u => !decide (u.2.length = 128)) = true then 4 else 0) = cd := ⟨_, rfl⟩
  rw [hcd]
  have H3 : Hid (us.any (fun u => !decide (0 ≤ u.1 ∧ u.1 < B)) = true → cd = 3) := fun h => by rw [← hcd, if_pos h]
  have H4 : Hid (¬ us.any (fun u => !decide (0 ≤ u.1 ∧ u.1 < B)) = true → us.any (fun u => !decide (u.2.length = 128)) = true → cd = 4) := fun h h' => by rw [← hcd, if_neg h, if_pos h']
  have H0 : Hid (¬ us.any (fun u => !decide (0 ≤ u.1 ∧ u.1 < B)) = true → ¬ us.any (fun u => !decide (u.2.length = 128)) = true → cd = 0) := fun h h' => by rw [← hcd, if_neg h, if_neg h']
  clear hcd
  unfold geo at *
  go_enter Tryz.func101, Tryz.ntmps101
  go_wp2_with (first
    | (go_at_call 53; (with_reducible refine (hk.out _).mono ?_); rintro e w1 ⟨rfl, hb1⟩; have hA1 := HA.out.below hb1 HA.out.lt; have c0 := hA1.cell 0; have c1 := hA1.cell 1; have c2 := hA1.cell 2; clear hA1)
    | (go_at_call 161; (with_reducible refine (hbk.out _).mono ?_); rintro e w2 ⟨rfl, hb2⟩; have HB2 := Lib.hid (below_then (below_then hb hb1) hb2); clear hb2))
  clear c0 c1 c2
  go_loopw [7] (fun q wx => ∃ k : Nat, k ≤ us.length ∧ q = .int .i64 k ∧ (∀ j (hj : j < us.length), j < k → 0 ≤ (us[j]'hj).1 ∧ (us[j]'hj).1 < B) ∧ wx = w2) (fun q _ => us.length - (intOf q).toNat)
  case atStart => exact ⟨0, by omega, rfl, fun j _ hj => by omega, rfl⟩
  case round =>
    obtain ⟨k, hk', rfl, hth, rfl⟩ := hrel
    have HTH := Lib.hid hth
    clear hth
    by_cases hkn : k < us.length
    · as_aux_lemma =>
        have K1 : Hid (k + 1 ≤ us.length) := hkn
        obtain ⟨b, o, rfl, hlt, hx⟩ := PutSeg.full (HV.out.below HB2.out) (by omega)
        obtain ⟨p0, u, p1, hu⟩ := hx k hkn
        obtain ⟨x, hxe⟩ : ∃ x, (us[k]'hkn).1 = x := ⟨_, rfl⟩
        have HXE := Lib.hid hxe
        rw [hxe] at p0
        clear hx hu p1 hxe
        by_cases hin : 0 ≤ x ∧ x < B
        · have hx1 : decide (x < 0) = false := decide_eq_false (by omega)
          have hx2 : decide (B ≤ x) = false := decide_eq_false (by omega)
          have HIN := Lib.hid hin
          clear hin
          go_wp2_with fail
          go_roundw
          case measure => simp [intOf]; omega
          refine ⟨k + 1, K1.out, by go_num, fun j hj hjk => ?_, (by first | trivial | rfl)⟩
          by_cases e : j = k
          · subst e; rw [HXE.out]; exact HIN.out
          · exact HTH.out j hj (by omega)
        · have hany : Hid (us.any (fun u => !decide (0 ≤ u.1 ∧ u.1 < B)) = true) := any_not.2 ⟨_, List.getElem_mem hkn, by rw [HXE.out]; exact hin⟩
          by_cases hx0 : x < 0
          · have hx1 : decide (x < 0) = true := decide_eq_true hx0
            clear hin hx0
            go_wp2_with fail
            go_ret
            exact ⟨by rw [H3.out hany.out]; rfl, HB2.out⟩
          · have hx1 : decide (x < 0) = false := decide_eq_false hx0
            have hx2 : decide (B ≤ x) = true := decide_eq_true (by omega)
            clear hin hx0
            go_wp2_with fail
            go_ret
            exact ⟨by rw [H3.out hany.out]; rfl, HB2.out⟩
    · as_aux_lemma =>
        obtain rfl : k = us.length := by omega
        have hnany : ¬ us.any (fun u => !decide (0 ≤ u.1 ∧ u.1 < B)) = true := fun h => by
          obtain ⟨u, hu, e⟩ := any_not.1 h
          obtain ⟨j, hj, rfl⟩ := List.getElem_of_mem hu
          exact e (HTH.out j hj hj)
        have HNA := Lib.hid hnany
        clear hnany HTH
        obtain ⟨wo, rfl⟩ : ∃ wo : World, wo = wr := ⟨_, rfl⟩
        go_wp2_with fail
        go_loopw [8] (fun q wx => ∃ k : Nat, k ≤ us.length ∧ q = .int .i64 k ∧ (∀ j (hj : j < us.length), j < k → (us[j]'hj).2.length = 128) ∧ wx = wo) (fun q _ => us.length - (intOf q).toNat)
        case atStart => exact ⟨0, by omega, rfl, fun j _ hj => by omega, rfl⟩
        case round =>
          obtain ⟨k, hk', rfl, hth, rfl⟩ := hrel
          have HTH := Lib.hid hth
          clear hth
          by_cases hkn : k < us.length
          · have K1 : Hid (k + 1 ≤ us.length) := hkn
            obtain ⟨b, o, rfl, hlt, hx⟩ := PutSeg.full (HV.out.below HB2.out) (by omega)
            obtain ⟨p0, u, p1, hu⟩ := hx k hkn
            obtain ⟨ua, uc, rfl⟩ := hu.shape
            obtain ⟨x, hxe⟩ : ∃ x, (us[k]'hkn).2.length = x := ⟨_, rfl⟩
            have HXE := Lib.hid hxe
            rw [hxe] at p1
            clear hx hu p0 hxe
            by_cases hin : x = 128
            · have HX8 := Lib.hid hin
              have hx1 : ((x : Int) != 128) = false := by simp; omega
              clear hin
              go_wp2_with fail
              go_roundw
              case measure => simp [intOf]; omega
              refine ⟨k + 1, K1.out, by go_num, fun j hj hjk => ?_, (by first | trivial | rfl)⟩
              by_cases e : j = k
              · subst e; rw [HXE.out]; exact HX8.out
              · exact HTH.out j hj (by omega)
            · have hany : Hid (us.any (fun u => !decide (u.2.length = 128)) = true) := any_not.2 ⟨_, List.getElem_mem hkn, by rw [HXE.out]; exact hin⟩
              have hx1 : ((x : Int) != 128) = true := by simp; omega
              clear hin
              go_wp2_with fail
              go_ret
              exact ⟨by rw [H4.out HNA.out hany.out]; rfl, HB2.out⟩
          · obtain rfl : k = us.length := by omega
            have hnany2 : ¬ us.any (fun u => !decide (u.2.length = 128)) = true := fun h => by
              obtain ⟨u, hu, e⟩ := any_not.1 h
              obtain ⟨j, hj, rfl⟩ := List.getElem_of_mem hu
              exact e (HTH.out j hj hj)
            have HNB := Lib.hid hnany2
            clear hnany2 HTH
            go_wp2_with fail
            go_ret
            exact ⟨by rw [H0.out HNA.out HNB.out]; rfl, HB2.out⟩

end Go.Proofs.YtkcfmkhakghniaaGreat
