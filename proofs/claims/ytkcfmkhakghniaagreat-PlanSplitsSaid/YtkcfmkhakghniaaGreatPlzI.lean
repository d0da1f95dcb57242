/- The document's Split: the walk. -/
import Derived.Test.YtkcfmkhakghniaaGreatPlzH
import Derived.Test.YtkcfmkhakghniaaGreatMrg10
set_option linter.unusedVariables false
namespace Go.Proofs.YtkcfmkhakghniaaGreat
open Go.RowKit

set_option maxRecDepth 100000 in
set_option maxHeartbeats 2000000 in
theorem ref_Split_bad (m c s : Int) (v : Value) (us : List (Int × List UInt8)) (w : World) (hv : PutSeg w v us) (h : splitCode m c s us ≠ 0) :
    Calls Tryz.prog 26 #[geo m c s, v] w fun e w' => e = .returned (.tuple #[.slice none 0 0, .int .i64 (splitCode m c s us)]) ∧ Below w.heap.size w w' := by
  have hb0 : Below w.heap.size w (w.alloc (.cells #[.int .i64 m, .int .i64 c, .int .i64 s] 23)) := (Below.refl _ _).alloc (Nat.le_refl _) _
  have hwr : Hid (∀ W, Below w.heap.size w W → _) := fun W hW => ref_wrong m c s v us W (hv.below hW)
  have e2 : (splitCode m c s us != 0) = true := by simpa using h
  obtain ⟨va, vc, rfl⟩ := hv.shape
  clear hv h
  generalize splitCode m c s us = q at *
  unfold geo at *
  go_enter Tryz.func26, Tryz.ntmps26
  go_wp2_with (go_at_call 101; (with_reducible refine (hwr.out _ hb0).mono ?_); rintro e w2 ⟨rfl, hb2⟩; have HB2 := Lib.hid (below_then hb0 hb2); clear hb2)
  go_ret2
  exact ⟨rfl, HB2.out⟩

set_option maxRecDepth 100000 in
set_option maxHeartbeats 8000000 in
theorem ref_Split_ok (M C S : Nat) (v : Value) (us : List (Int × List UInt8)) (w : World) (ok : BatchOk M C S us) (hv : PutSeg w v us) :
    Calls Tryz.prog 26 #[geo M C S, v] w fun e w' => (∃ v', e = .returned (.tuple #[v', .int .i64 0]) ∧ PSegs w' v' ((rowsIn M (S * C) (tabAll M C us)).map (patsIn M (tabAll M C us)))) ∧ Below w.heap.size w w' := by
  have hb0 : Below w.heap.size w (w.alloc (.cells #[.int .i64 M, .int .i64 C, .int .i64 S] 23)) := (Below.refl _ _).alloc (Nat.le_refl _) _
  have HG0 : Hid (At (w.alloc (.cells #[.int .i64 M, .int .i64 C, .int .i64 S] 23)) w.heap.size #[.int .i64 M, .int .i64 C, .int .i64 S] 23) := At.new _ _ _
  have hz : splitCode M C S us = 0 := by
    unfold splitCode
    have := (geoIs_iff M C S).1 ok.hg
    rw [if_neg (by rw [ok.hg]; simp), if_neg (by have := ok.few; omega), if_neg (fun h => by obtain ⟨x, hx, hy⟩ := any_not.1 h; exact hy (ok.there x hx)), if_neg (fun h => by obtain ⟨x, hx, hy⟩ := any_not.1 h; exact hy (ok.len x hx))]
  have hwr : Hid (∀ W, Below w.heap.size w W → Calls Tryz.prog 101 #[geo M C S, v] W fun e w' => e = .returned (.int .i64 0) ∧ Below W.heap.size W w') := fun W hW => (ref_wrong M C S v us W (hv.below hW)).mono fun e w' ⟨x1, x2⟩ => ⟨by rw [x1, hz], x2⟩
  have hro : Hid (∀ W, Calls Tryz.prog 54 #[geo M C S] W fun e w' => e = .returned (.int .i64 ((S * C : Nat) : Int)) ∧ Below W.heap.size W w') := fun W => (ref_rows M C S W).mono fun e w' ⟨x1, x2⟩ => ⟨by rw [x1]; unfold geoRows; rw [if_pos ok.hg, Int.natCast_mul], x2⟩
  have hR : S * C ≤ 4096 := by have hb2 := (geo_bounds ok.hg).2; exact_mod_cast hb2
  have HOK := Lib.hid ok
  have HV := Lib.hid hv
  have hfew := ok.few
  have hM16 : M ≤ 16 := by have := (geoIs_iff M C S).1 ok.hg; omega
  obtain ⟨R, hRe⟩ : ∃ R, S * C = R := ⟨_, rfl⟩
  have HRE := Lib.hid hRe
  rw [hRe] at hro hR
  obtain ⟨va, vc, rfl⟩ := hv.shape
  clear hv ok hz hRe
  unfold geo at *
  go_enter Tryz.func26, Tryz.ntmps26
  go_wp2_with (first
    | (go_at_call 101; (with_reducible refine (hwr.out _ hb0).mono ?_); rintro e w1 ⟨rfl, hb1⟩; have HG1 := Lib.hid (HG0.out.below hb1 HG0.out.lt); have HB1 := Lib.hid (below_then hb0 hb1); have c0 := HG1.out.cell 0; have c1 := HG1.out.cell 1; have c2 := HG1.out.cell 2; clear hb1)
    | (go_at_call 54; (with_reducible refine (hro.out _).mono ?_); rintro e w2 ⟨rfl, hb2⟩; have HG2 := Lib.hid (HG1.out.below hb2 HG1.out.lt); have HB2 := Lib.hid (below_then HB1.out hb2); clear hb2 c0 c1 c2)
    | (refine wpList_make_zero rfl _ _ 48 82 24 rfl slice_rows (.slice none 0 0) (by kernel_rfl) rfl (fun _ => .slice none 0 0) _ _ _ _ R rfl rfl rfl rfl (by omega) (by unfold maxLen; omega) ?_; intro w3 a3 b3; have HA3 := Lib.hid a3; have HB3 := Lib.hid b3; clear a3 b3))
  have HR0 : Hid (RsAt w w3 M C S w2.heap.size R (fun r => patsIn M (tabOf M C us 0) r)) := by
    refine ⟨HG2.out.below HB3.out HG2.out.lt, below_then HB2.out HB3.out, ⟨fun _ => .slice none 0 0, ?_, fun j hj => ?_⟩, HB2.out.size⟩
    · have e : cellsTo (fun _ => Value.slice none 0 0) (.slice none 0 0) R 0 = ((List.range R).map fun _ => Value.slice none 0 0).toArray := by
        unfold cellsTo
        simp
      rw [← e]
      exact HA3.out
    · have e : patsIn M (tabOf M C us 0) j = [] := by
        apply List.eq_nil_of_length_eq_zero
        have h := hasRow_pats M (tabOf M C us 0) j
        have h2 : hasRow M (tabOf M C us 0) j = false := by
          unfold hasRow
          rw [List.any_eq_false]
          intro m _
          show ¬ (none : Option (List UInt8)).isSome = true
          simp
        rw [h2] at h
        have := of_decide_eq_false h.symm
        omega
      show PSeg _ _ (patsIn M (tabOf M C us 0) j)
      rw [e]
      exact PSeg.nil _
  generalize w2.heap.size = ga at *
  clear HG0 HG1 HG2 HB1 HB2 HB3 HA3 hb0 hwr hro
  go_loopw [9] (fun q wx => ∃ k : Nat, k ≤ us.length ∧ q = .int .i64 k ∧ RsAt w wx M C S ga R (fun r => patsIn M (tabOf M C us k) r)) (fun q _ => us.length - (intOf q).toNat)
  case atStart => exact ⟨0, by omega, rfl, HR0.out⟩
  case round =>
    obtain ⟨k, hk, rfl, hRk⟩ := hrel
    have HRK := Lib.hid hRk
    clear hRk HR0
    by_cases hk2 : k < us.length
    · as_aux_lemma =>
        have K1 : Hid (k + 1 ≤ us.length) := hk2
        obtain ⟨b, o, rfl, hlt, hx⟩ := PutSeg.full HV.out (by omega)
        obtain ⟨p0, u, p1, hu⟩ := hx k hk2
        obtain ⟨n, hn, hnb⟩ := there_nat (HOK.out.there _ (List.getElem_mem hk2)) HOK.out.hg
        have hd := HOK.out.len _ (List.getElem_mem hk2)
        have hnext := tab_next HOK.out.hg hk2 hn hnb
        have hL := lies HOK.out.hg hnb
        have hrow : rowOf M C n < R := by rw [← HRE.out]; exact hL.row
        rw [hn] at p0
        obtain ⟨dd, hdd⟩ : ∃ dd, (us[k]'hk2).2 = dd := ⟨_, rfl⟩
        rw [hdd] at hu hd hnext
        have HOF : Hid (∀ W, Calls Tryz.prog 102 #[geo M C S, .int .i64 n] W _) := fun W => ref_Of M C S n W HOK.out.hg hnb
        unfold geo placeVal at HOF
        obtain ⟨ua, uc, rfl⟩ := hu.shape
        have HNX := Lib.hid hnext
        have HD128 := Lib.hid hd
        have HU := Lib.hid hu
        have P0 : Hid (∀ W, Below w.heap.size w W → W.cell? ⟨b, o + k * 2, none⟩ = some (.int .i64 n)) := fun W hW => (hW.cell (p := ⟨b, o + k * 2, none⟩) hlt).trans p0
        have P1 : Hid (∀ W, Below w.heap.size w W → W.cell? ⟨b, o + k * 2 + 1, none⟩ = some (.slice ua dd.length uc)) := fun W hW => (hW.cell (p := ⟨b, o + k * 2 + 1, none⟩) hlt).trans p1
        clear hx p0 p1 hn hdd hnext hL hu hd hnb
        generalize hrw : rowOf M C n = row at *
        generalize hmb : membOf M C n = memb at *
        clear hrw hmb
        have HK : Hid (∀ X, Below wr.heap.size wr X → X.cell? ⟨w.heap.size, 0, none⟩ = some (.int .i64 M) ∧ X.cell? ⟨w.heap.size, 1, none⟩ = some (.int .i64 C) ∧ X.cell? ⟨w.heap.size, 2, none⟩ = some (.int .i64 S) ∧ X.cell? ⟨b, o + k * 2, none⟩ = some (.int .i64 n)) := fun X hX => by
          have hg := HRK.out.geo.below hX HRK.out.geo.lt
          exact ⟨hg.cell 0, hg.cell 1, hg.cell 2, P0.out _ (below_then HRK.out.bel hX)⟩
        have HBR : Hid (Below wr.heap.size wr wr) := Below.refl _ _
        have HBD : Hid (Below wr.heap.size wr wr.drew) := (Below.refl _ _).drew
        go_upto_region 9 with fail
        go_cut [10, 11] from 32 to 41 (fun s10 s11 wx => ∃ (gp : Nat) (t p : Int), s10 = .pointer (some ⟨gp, 0, none⟩) ∧ s11 = .int .i64 0 ∧ At wx gp #[.int .i64 t, .int .i64 row, .int .i64 memb, .int .i64 p] 172 ∧ Below wr.heap.size wr wx)
        case first =>
          have HAL0 : Hid (Below wr.heap.size wr (wr.alloc (.cells #[.int .i64 0, .int .i64 0, .int .i64 0, .int .i64 0] 172))) := (Below.refl _ _).alloc (Nat.le_refl _) _
          go_region_held3 (fun w' => w'.cell? ⟨w.heap.size, 0, none⟩ = some (.int .i64 M) ∧ w'.cell? ⟨w.heap.size, 1, none⟩ = some (.int .i64 C) ∧ w'.cell? ⟨w.heap.size, 2, none⟩ = some (.int .i64 S) ∧ w'.cell? ⟨b, o + k * 2, none⟩ = some (.int .i64 n))
            (first | exact HK.out _ HBR.out | exact HK.out _ HBD.out | exact HK.out _ HAL0.out | exact HK.out _ HAL0.out.drew | exact HK.out _ (HBD.out.alloc (Nat.le_refl _) _) | exact HK.out _ HB4.out | exact HK.out _ HB6.out | exact HK.out _ HB5.out | exact HK.out _ HB5.out.drew)
            (first
              | (go_at_call 102; (with_reducible refine (HOF.out _).mono ?_); rintro e wo ⟨⟨tt, pp, rfl⟩, hbo⟩; have HBO := Lib.hid hbo; (first
                | (refine place_cut wo wr.heap.size ?_ ?_; (focus ((repeat (first | (with_reducible refine at_top ?_; (first | with_reducible rfl | (simp only [size_alloc]; done))) | with_reducible refine at_alloc' ?_ | with_reducible refine at_drew' ?_ | with_reducible refine at_below' ?_ HBO.out)); done)); intro hZ; have hB4 : Below wr.heap.size wr wo := (by first | exact below_then HAL0.out hbo | exact below_then HAL0.out.drew hbo | exact below_then (HBD.out.alloc (Nat.le_refl _) _) hbo); have HB4 := Lib.hid hB4; have HZ2 := Lib.hid (place_store hZ (.int .i64 tt) (.int .i64 row) (.int .i64 memb) (.int .i64 pp)); have HB5 := Lib.hid (place_below hB4 (Nat.le_refl _) (.int .i64 tt) (.int .i64 row) (.int .i64 memb) (.int .i64 pp)); have d0 := hZ.cell 0; have d1 := hZ.cell 1; have d2 := hZ.cell 2; have d3 := hZ.cell 3; have f0 := hZ.free 0; have f1 := hZ.free 1; have f2 := hZ.free 2; have f3 := hZ.free 3; clear hZ hbo hB4)
                | (have hB4 : Below wr.heap.size wr wo := (by first | exact below_then HBD.out hbo | exact below_then HBR.out hbo); have HB4 := Lib.hid hB4; have HB6 := Lib.hid (hB4.alloc hB4.size (.cells #[.int .i64 0, .int .i64 0, .int .i64 0, .int .i64 0] 172)); have HB5 := Lib.hid (hB4.alloc hB4.size (.cells #[.int .i64 tt, .int .i64 row, .int .i64 memb, .int .i64 pp] 172)); have HZ2 : Hid (At (wo.alloc (.cells #[.int .i64 tt, .int .i64 row, .int .i64 memb, .int .i64 pp] 172)) wo.heap.size #[.int .i64 tt, .int .i64 row, .int .i64 memb, .int .i64 pp] 172) := At.new _ _ _; clear hbo hB4))))
          all_goals go_wp2_with fail
          all_goals go_meet
          all_goals exact ⟨_, _, _, rfl, rfl, HZ2.out, HB5.out⟩
        case rest =>
          obtain ⟨gp, tt, pp, rfl, rfl, hP, hB⟩ := hcut
          have HP := Lib.hid hP
          have HRC := Lib.hid (HRK.out.below hB)
          clear hP hB HK HBR HBD HRK HOF
          have q1 := P1.out _ HRC.out.bel
          obtain ⟨U, hU⟩ := HRC.out.rows
          have HUU := Lib.hid hU
          have HUC := Lib.hid (HU.out.below HRC.out.bel).cells
          obtain ⟨ub, uo, uc2, hue, -⟩ := Seg.full HU.out (by have := HD128.out; omega)
          simp only [Value.slice.injEq, true_and] at hue
          obtain ⟨rfl, rfl⟩ := hue
          have hdl : dd.length ≤ 128 := Nat.le_of_eq HD128.out
          have hdl0 : 0 < dd.length := by rw [HD128.out]; decide
          clear hU
          go_upto_region 12 with (refine wpList_append_keeps rfl _ _ 53 5 1 1 rfl slice_bytes wc.heap.size (.slice none 0 0) 0 [] rfl (World.ownsRow_nil _ _ _ _) ⟨ub, uo, none⟩ dd.length uc (ucells dd) rfl (by rw [ucells_length]; omega) (HUC.out.2.2 _ rfl) (ucells_one dd) (by unfold maxLen; omega) (by omega) (Nat.le_refl _) (by omega) ?_; intro vb w5 hrow5 hvb5 hc5 hkk5; have HB5 : Hid (Below wc.heap.size wc w5) := hc5.belowAll (fun k _ e => by cases e); have HS5 : Hid (Seg w5 vb dd) := seg_of_owns (by rw [Nat.zero_add, List.nil_append] at hrow5; exact hrow5); clear hrow5 hvb5 hc5 hkk5)
          obtain ⟨ba, bc, rfl⟩ := HS5.out.shape
          have HR5 := Lib.hid (HRC.out.below HB5.out)
          have HP5 := Lib.hid (HP.out.below HB5.out HP.out.lt)
          have HU5 := Lib.hid (HUU.out.below HB5.out)
          clear q1 HUC HRC HP HUU
          have hps := HU5.out.each row hrow
          have hpl : (patsIn M (tabOf M C us k) row).length ≤ 50000 := Nat.le_trans (patsIn_len _ _ _) (by omega)
          obtain ⟨xa, xc, hxr⟩ := hps.shape
          have hcell := HU5.out.cell hrow
          rw [hxr] at hps hcell
          have HIN : Hid (∀ W, Below w5.heap.size w5 W → Calls Tryz.prog 103 #[.slice xa (patsIn M (tabOf M C us k) row).length xc, .agg #[.int .i64 memb, .int .i64 row, .slice ba dd.length bc]] W _) := fun W hW => ref_into _ (.slice ba dd.length bc) _ ⟨(memb : Int), (row : Int), dd⟩ W (hps.below hW) (HS5.out.below hW) hpl (by show dd.length ≤ _; omega)
          have HCELL := Lib.hid hcell
          have HXR := Lib.hid hxr
          clear hps hcell hxr hpl
          generalize hpn : (patsIn M (tabOf M C us k) row).length = pn at *
          clear hpn
          have HK : Hid (∀ X, Below w5.heap.size w5 X → X.cell? ⟨gp, 1, none⟩ = some (.int .i64 row) ∧ X.cell? ⟨gp, 2, none⟩ = some (.int .i64 memb) ∧ X.cell? ⟨ga, row, none⟩ = some (.slice xa pn xc)) := fun X hX => by
            have hp := HP5.out.below hX HP5.out.lt
            exact ⟨hp.cell 1, hp.cell 2, (hX.cell (p := ⟨ga, row, none⟩) (block_lt_of_cell HCELL.out)).trans HCELL.out⟩
          have HBR : Hid (Below w5.heap.size w5 w5) := Below.refl _ _
          have HBD : Hid (Below w5.heap.size w5 w5.drew) := (Below.refl _ _).drew
          have hri : (row : Int) < (R : Int) := by omega
          go_region_held3 (fun w' => w'.cell? ⟨gp, 1, none⟩ = some (.int .i64 row) ∧ w'.cell? ⟨gp, 2, none⟩ = some (.int .i64 memb) ∧ w'.cell? ⟨ga, row, none⟩ = some (.slice xa pn xc))
            (first | exact HK.out _ HBR.out | exact HK.out _ HBD.out | exact HK.out _ HB6.out)
            (first | (go_at_call 103; (with_reducible refine (HIN.out _ HBD.out).mono ?_); rintro e w6 ⟨⟨v6, rfl, hv6⟩, hb6⟩; have HB6 := Lib.hid (below_then HBD.out hb6); have HV6 := Lib.hid hv6; clear hb6 hv6))
          obtain ⟨la, lc, rfl⟩ := HV6.out.shape
          have HR6 := Lib.hid (HR5.out.below HB6.out)
          have HP6 := Lib.hid (HP5.out.below HB6.out HP5.out.lt)
          have HU6 := Lib.hid (HU5.out.below HB6.out)
          have r1 := HP6.out.cell 1
          have a0 := HU6.out.cell hrow
          have f0 := HU6.out.head.free row
          have hgne : w.heap.size ≠ ga := fun e => by
            have h1 := HR6.out.geo
            have h2 := HU6.out.head
            rw [e] at h1
            exact absurd (at_one h1 h2).2 (by decide)
          have HSET := Lib.hid ((HU6.out.set hrow HV6.out).told (G := fun r => patsIn M (tabOf M C us (k + 1)) r) (fun j hj => HNX.out j (by rw [HRE.out]; exact hj)))
          have HGEO := Lib.hid (HR6.out.geo.setOther (a := ⟨ga, row, none⟩) hgne (.slice la (intoL (patsIn M (tabOf M C us k) row) ⟨(memb : Int), (row : Int), dd⟩).length lc))
          have HBEL := Lib.hid (HR6.out.bel.setCell (p := ⟨ga, row, none⟩) HR6.out.glow (.slice la (intoL (patsIn M (tabOf M C us k) row) ⟨(memb : Int), (row : Int), dd⟩).length lc))
          clear HK HIN HBR HBD HR5 HP5 HU5 HB5 HB6 HCELL
          go_wp2_with fail
          go_roundw
          case measure => simp [intOf]; omega
          exact ⟨k + 1, K1.out, by go_num, HGEO.out, HBEL.out, ⟨_, HSET.out⟩, HR6.out.glow⟩
    · as_aux_lemma =>
        obtain rfl : k = us.length := by omega
        obtain ⟨U, hU⟩ := HRK.out.rows
        have HU := Lib.hid hU
        have HBW := Lib.hid HRK.out.bel
        obtain ⟨G, hG⟩ : ∃ G, tabOf M C us us.length = G := ⟨_, rfl⟩
        have HG := Lib.hid hG
        rw [hG] at HU
        clear hU HRK hG
        obtain ⟨wo, rfl⟩ : ∃ wo : World, wo = wr := ⟨_, rfl⟩
        go_wp2_with fail
        go_loopw [14, 15] (fun o q wx => ∃ r : Nat, r ≤ R ∧ q = .int .i64 r ∧ wx.ownsRow wo.heap.size 82 1 o (whichTo (hasRow M G) r).length ((whichTo (hasRow M G) r).map U) ∧ Below wo.heap.size wo wx) (fun _ q _ => R - (intOf q).toNat)
        case atStart => exact ⟨0, by omega, rfl, World.ownsRow_nil _ _ _ _, Below.refl _ _⟩
        case round =>
          obtain ⟨r, hr, rfl, hrow, hB⟩ := hrel
          have HROW := Lib.hid hrow
          have HB := Lib.hid hB
          clear hrow hB
          by_cases hr2 : r < R
          · as_aux_lemma =>
              have K1 : Hid (r + 1 ≤ R) := hr2
              have hcell := (HU.out.below HB.out).cell hr2
              obtain ⟨xa, xc, hxr⟩ := (HU.out.each r hr2).shape
              rw [hxr] at hcell
              have HXR := Lib.hid hxr
              have HP := Lib.hid (hasRow_pats M G r)
              clear hxr
              generalize (patsIn M G r).length = pn at *
              have hwl : (whichTo (hasRow M G) r).length ≤ 4096 := Nat.le_trans (whichTo_length _ _) (by omega)
              by_cases hp0 : 0 < pn
              · have HHR : Hid (hasRow M G r = true) := by show _ = _; rw [HP.out]; exact decide_eq_true hp0
                have hd0 : decide ((0 : Int) < (pn : Int)) = true := decide_eq_true (by omega)
                have HAL : Hid (Below wr.heap.size wr (wr.alloc (.cells #[.slice xa pn xc] 82))) := (Below.refl _ _).alloc (Nat.le_refl _) _
                have HROW2 := Lib.hid (ownsRow_below HROW.out HAL.out (Nat.le_refl _))
                have HB2 := Lib.hid (below_then HB.out HAL.out)
                go_wp2_with (refine wpList_append_keeps rfl _ _ 48 82 1 24 rfl slice_rows wo.heap.size u14 (whichTo (hasRow M G) r).length _ rfl HROW2.out _ 1 1 [.slice xa pn xc] rfl rfl (new_one _ _ _ _ (by first | rfl | simp)) (by intro u hu; simp at hu; subst hu; rfl) (by unfold maxLen; omega) (by omega) HB2.out.size (by omega) ?_; intro v1 w9 hrow9 hvb9 hc9 hkk9; have HB9 : Hid (Below wo.heap.size wo w9) := Chg.own HB2.out hc9 (fun q hq => (HROW2.out.lt q hq).1); have HROW9 := Lib.hid hrow9; clear hrow9 hvb9 hc9 hkk9)
                go_roundw
                case measure => simp [intOf]; omega
                refine ⟨r + 1, K1.out, by go_num, ?_, HB9.out⟩
                rw [which_snoc HHR.out, List.length_append, List.length_singleton, List.map_append, List.map_singleton, HXR.out]
                exact HROW9.out
              · have HHR : Hid (hasRow M G r = false) := by show _ = _; rw [HP.out]; exact decide_eq_false hp0
                have hd0 : decide ((0 : Int) < (pn : Int)) = false := decide_eq_false (by omega)
                go_wp2_with fail
                go_roundw
                case measure => simp [intOf]; omega
                refine ⟨r + 1, K1.out, by go_num, ?_, HB.out⟩
                rw [which_same HHR.out]
                exact HROW.out
          · as_aux_lemma =>
              obtain rfl : r = R := by omega
              go_wp2_with fail
              go_ret2
              refine ⟨⟨u14, rfl, ?_⟩, below_then HBW.out HB.out⟩
              have e : (rowsIn M (S * C) (tabAll M C us)).map (patsIn M (tabAll M C us)) = (whichTo (hasRow M G) r).map (patsIn M G) := by
                unfold rowsIn tabAll
                rw [HRE.out, HG.out]
              rw [e]
              have hwl : (whichTo (hasRow M G) r).length ≤ 4096 := Nat.le_trans (whichTo_length _ _) (by omega)
              obtain ⟨a, c, hs⟩ := ownsRow_shape HROW.out
              refine ⟨a, c, by rw [List.length_map]; exact hs, by rw [List.length_map]; omega, ?_⟩
              by_cases hl : (whichTo (hasRow M G) r).length = 0
              · left
                rw [List.eq_nil_of_length_eq_zero hl]
                rfl
              · right
                have hrow := HROW.out
                rw [hs] at hrow
                obtain ⟨g, cap, hve, -, hlt, hc, -⟩ := ownsRow_cell hrow (by omega)
                simp only [Value.slice.injEq] at hve
                obtain ⟨rfl, -, rfl⟩ := hve
                refine ⟨g, rfl, hlt, fun j hj => ?_⟩
                rw [List.length_map] at hj
                have hmem := which_mem.1 (List.getElem_mem hj)
                refine ⟨U ((whichTo (hasRow M G) r)[j]'hj), ?_, ?_⟩
                · rw [hc j hj, List.getElem?_map, List.getElem?_eq_getElem hj]
                  rfl
                · rw [List.getElem_map]
                  exact (HU.out.each _ hmem.1).below HB.out

end Go.Proofs.YtkcfmkhakghniaaGreat
