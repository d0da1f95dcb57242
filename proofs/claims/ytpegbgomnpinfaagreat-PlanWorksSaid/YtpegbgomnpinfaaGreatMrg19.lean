/- Several texts in one: WrkC, WrkE, WrkM. -/
import Derived.Test.YtpegbgomnpinfaaGreatMrg18
import Derived.Test.YtpegbgomnpinfaaGreatWrkJ
import Derived.Test.YtpegbgomnpinfaaGreatWrkL
/- Rows of bytes lent: whole; spoilt. -/
set_option linter.unusedVariables false
namespace Go.Proofs.YtpegbgomnpinfaaGreat
open Go.RowKit

set_option maxRecDepth 100000 in
set_option maxHeartbeats 2000000 in
theorem whole_rows (lo g c : Nat) (v k1 k2 : Value) (Y : List OB) (w : World) (hL : LRows w lo (.slice (some ⟨g, 0, none⟩) (Y.length + 2) c) Y k1 k2) (hv : Segs w v (Y.map (·.2))) (hn : Y.length ≤ 300000) (hl : ∀ y ∈ Y, y.2.length ≤ 300000) :
    Calls Tryz.prog 36 #[.slice (some ⟨g, 0, none⟩) Y.length c, v] w fun e w' => e = .returned (.bool true) ∧ Below w.heap.size w w' := by
  have hcap := (own_at hL.row).2.1
  have HL := Lib.hid hL
  have HV := Lib.hid hv
  have HDL := Lib.hid hl
  obtain ⟨va, vc, rfl⟩ := hv.shape
  rw [List.length_map] at *
  have hci : (Y.length : Int) + 2 ≤ (c : Int) := by omega
  have hc0 : ¬ c = 0 := by omega
  have hlt : ¬ ((c : Int) < (Y.length : Int) + 2) := by omega
  have hne : ((Y.length : Int) != (Y.length : Int)) = false := by simp
  clear hL hv hl
  go_enter Tryz.func36, Tryz.ntmps36
  go_wp2_with fail
  go_loopw [6] (fun q wx => ∃ k : Nat, k ≤ 2 ∧ q = .int .i64 ((Y.length : Int) + (k : Int)) ∧ Below w.heap.size w wx) (fun q _ => Y.length + 2 - (intOf q).toNat)
  case atStart => exact ⟨0, by omega, by simp, Below.refl _ _⟩
  case round =>
    obtain ⟨k, hk, rfl, hB⟩ := hrel
    have HB := Lib.hid hB
    clear hB
    by_cases hk2 : k < 2
    · have K1 : Hid (k + 1 ≤ 2) := hk2
      obtain ⟨kv, m0, hm⟩ := (HL.out.below HB.out).mark hk2
      have hkt : (((Y.length : Int) + (k : Int)).toNat) = Y.length + k := by omega
      have hlt2 : (Y.length : Int) + (k : Int) < (Y.length : Int) + 2 := by omega
      have h0 : (0 : Int) ≤ (Y.length : Int) + (k : Int) := by omega
      have hal : Below wr.heap.size wr (wr.alloc (.cells markCells 5)) := (Below.refl _ _).alloc (Nat.le_refl _) _
      have hs2 : Seg (wr.alloc (.cells markCells 5)) (.slice (some ⟨wr.heap.size, 0, none⟩) 2 2) [77, 78] := by
        have h : MarkAt (wr.alloc (.cells markCells 5)) 0 (.slice (some ⟨wr.heap.size, 0, none⟩) 2 2) := ⟨_, Nat.zero_le _, rfl, At.new _ _ _⟩
        exact h.seg
      have HSB : Hid (Calls Tryz.prog 17 #[kv, .slice (some ⟨wr.heap.size, 0, none⟩) 2 2] (wr.alloc (.cells #[.int .u8 77, .int .u8 78] 5)) fun e w' => e = .returned (.bool true) ∧ Below w.heap.size w w') :=
        (same_any _ _ [77, 78] [77, 78] _ (by simp) (by simp) (hm.below hal).seg hs2).mono fun e w' ⟨x1, x2⟩ => ⟨by rw [x1]; simp, below_then (HB.out.alloc HB.out.size _) x2⟩
      obtain ⟨gk, -, rfl, -⟩ := hm
      clear hal hs2
      go_wp2_with (go_at_call 17; (with_reducible refine HSB.out.mono ?_); rintro e w2 ⟨rfl, hb2⟩; have HB2 := Lib.hid hb2; clear hb2)
      go_roundw
      case measure => simp [intOf]; omega
      exact ⟨k + 1, K1.out, by go_num, HB2.out⟩
    · have hge : ¬ ((Y.length : Int) + (k : Int) < (Y.length : Int) + 2) := by omega
      clear hk hk2
      obtain ⟨wo, rfl⟩ : ∃ wo : World, wo = wr := ⟨_, rfl⟩
      obtain ⟨k0, rfl⟩ : ∃ k0 : Nat, k0 = k := ⟨_, rfl⟩
      have HLO := Lib.hid (HL.out.below HB.out)
      have HVO := Lib.hid (HV.out.below HB.out)
      clear HL HV
      go_wp2_with fail
      clear hge
      go_loopw [7] (fun q wx => ∃ k : Nat, k ≤ Y.length ∧ q = .int .i64 k ∧ Below wo.heap.size wo wx) (fun q _ => Y.length - (intOf q).toNat)
      case atStart => exact ⟨0, by omega, rfl, Below.refl _ _⟩
      case round =>
        obtain ⟨k, hk, rfl, hB⟩ := hrel
        have HB3 := Lib.hid hB
        clear hB
        by_cases hk2 : k < Y.length
        · have K1 : Hid (k + 1 ≤ Y.length) := hk2
          obtain ⟨b, o, c', hve, hlt, hx⟩ := Segs.full HVO.out (by rw [List.length_map]; omega)
          simp only [Value.slice.injEq] at hve
          obtain ⟨rfl, -, rfl⟩ := hve
          obtain ⟨u, p0, hu⟩ := hx k (by rw [List.length_map]; exact hk2)
          rw [List.getElem_map] at hu
          have c0 := HLO.out.cell hk2
          have hlent := HLO.out.dat _ (List.getElem_mem hk2)
          have hlen := HDL.out _ (List.getElem_mem hk2)
          have hglt := HLO.out.lt
          clear hx
          obtain ⟨y, hye⟩ : ∃ y, Y[k]'hk2 = y := ⟨_, rfl⟩
          rw [hye] at hu c0 hlent hlen
          clear hye
          obtain ⟨yv, yd⟩ := y
          simp only at hu c0 hlent hlen
          have HWB : Hid (∀ W, Below wo.heap.size wo W → Calls Tryz.prog 90 #[yv, u] W _) := fun W hW => whole_bytes lo yv u yd W (by omega) (hlent.below hW) (hu.below hW)
          obtain ⟨gy, -, rfl, -⟩ := hlent
          obtain ⟨ua, uc, rfl⟩ := hu.shape
          have HK : Hid (∀ X, Below wo.heap.size wo X → X.cell? ⟨g, k, none⟩ = some (.slice (some ⟨gy, 0, none⟩) yd.length (yd.length + 2)) ∧ X.cell? ⟨b, o + k, none⟩ = some (.slice ua yd.length uc)) := fun X hX =>
            ⟨(hX.cell (p := ⟨g, k, none⟩) hglt).trans c0, (hX.cell (p := ⟨b, o + k, none⟩) hlt).trans p0⟩
          have HBD : Hid (Below wo.heap.size wo wr.drew) := HB3.out.drew
          clear p0 c0 hu
          go_wp2_with fail
          go_region_held3 (fun w' => w'.cell? ⟨g, k, none⟩ = some (.slice (some ⟨gy, 0, none⟩) yd.length (yd.length + 2)) ∧ w'.cell? ⟨b, o + k, none⟩ = some (.slice ua yd.length uc))
            (first | with_reducible exact HK.out _ HB3.out | with_reducible exact HK.out _ HBD.out | with_reducible exact HK.out _ HB4.out)
            (first | (go_at_call 90; (with_reducible refine (HWB.out _ HBD.out).mono ?_); rintro e w4 ⟨rfl, hb4⟩; have HB4 : Hid (Below wo.heap.size wo w4) := below_then HBD.out hb4; clear hb4))
          go_wp2_with fail
          go_roundw
          case measure => simp [intOf]; omega
          exact ⟨k + 1, K1.out, by go_num, HB4.out⟩
        · obtain rfl : k = Y.length := by omega
          go_wp2_with fail
          go_ret
          exact ⟨rfl, below_then HB.out HB3.out⟩

set_option maxRecDepth 100000 in
set_option maxHeartbeats 2000000 in
theorem spoil_rows (lo hi g c : Nat) (k1 k2 : Value) (Y : List OB) (w : World) (hL : LRows w lo (.slice (some ⟨g, 0, none⟩) (Y.length + 2) c) Y k1 k2) (hn : Y.length ≤ 300000) (hl : ∀ y ∈ Y, y.2.length ≤ 300000) (hgi : g < hi) (hdi : ∀ y ∈ Y, ∀ q, y.1.ownBlock = some q → q < hi) (hhi : hi ≤ w.heap.size) :
    Calls Tryz.prog 38 #[.slice (some ⟨g, 0, none⟩) Y.length c] w fun e w' => e = .returned (.tuple #[]) ∧ Chg (fun k => lo ≤ k ∧ k < hi) w w' := by
  obtain ⟨hlo, hcap, hcm, -⟩ := own_at hL.row
  have HL := Lib.hid hL
  have HDL := Lib.hid hl
  have HDI := Lib.hid hdi
  have hci : (Y.length : Int) + 2 ≤ (c : Int) := by omega
  have hc0 : ¬ c = 0 := by omega
  have hcm' : (c : Int) ≤ 9223372036854775807 := by unfold maxLen at hcm; omega
  clear hL hl hdi
  go_enter Tryz.func38, Tryz.ntmps38
  go_wp2_with fail
  go_loopw [2] (fun q wx => ∃ k : Nat, k ≤ Y.length ∧ q = .int .i64 k ∧ wx.ownsRow lo 53 1 (.slice (some ⟨g, 0, none⟩) (Y.length + 2) c) (Y.length + 2) (obRow Y ++ [k1, k2]) ∧ (∀ y ∈ Y, ∃ q cs, y.1 = .slice (some ⟨q, 0, none⟩) y.2.length (y.2.length + 2) ∧ lo ≤ q ∧ q < hi ∧ At wx q cs 5 ∧ cs.size = y.2.length + 2) ∧ Chg (fun k => lo ≤ k ∧ k < hi) w wx) (fun q _ => Y.length - (intOf q).toNat)
  case atStart =>
    refine ⟨0, by omega, rfl, HL.out.row, fun y hy => ?_, Chg.refl _ _⟩
    obtain ⟨q, hq, e, ha⟩ := HL.out.dat y hy
    exact ⟨q, _, e, hq, HDI.out y hy q (by rw [e]; rfl), ha, lentCells_size _⟩
  case round =>
    obtain ⟨k, hk, rfl, hrow, hdat, hch⟩ := hrel
    have HROW := Lib.hid hrow
    have HDAT := Lib.hid hdat
    have HCH := Lib.hid hch
    clear hdat hch HL
    by_cases hk2 : k < Y.length
    · have K1 : Hid (k + 1 ≤ Y.length) := hk2
      obtain ⟨q, cs, e, hq1, hq2, hat, hcs⟩ := HDAT.out _ (List.getElem_mem hk2)
      have hlen := HDL.out _ (List.getElem_mem hk2)
      have e1 := hrow.cells (g := g) rfl k (Y[k]'hk2).1 (by rw [List.getElem?_append_left (by rw [obRow_len]; exact hk2)]; unfold obRow; rw [List.getElem?_map, List.getElem?_eq_getElem hk2]; rfl)
      rw [Go.WideShapes.add_plain, Nat.zero_add, e] at e1
      have HSB := Lib.hid (spoil_bytes q (Y[k]'hk2).2.length ((Y[k]'hk2).2.length + 2) cs wr (by omega) (by omega) hat hcs)
      have hgq : g ≠ q := fun e => by
        subst e
        have h1 := (own_at hrow).2.2.2
        obtain ⟨cur, h2, -⟩ := h1
        unfold At at h2 hat
        rw [h2] at hat
        simp only [Option.some.injEq, Obj.cells.injEq] at hat
        exact absurd hat.2.1 (by decide)
      have HATQ := Lib.hid hat
      have HCSQ := Lib.hid hcs
      clear hrow e hat hcs
      generalize (Y[k]'hk2).2.length = n at *
      go_wp2_with (first
        | (go_at_call 92; (with_reducible refine HSB.out.mono ?_); rintro e w2 ⟨rfl, hc2, cs2, ha2, hs2⟩))
      go_roundw
      case measure => simp [intOf]; omega
      refine ⟨k + 1, K1.out, by go_num, ownsRow_mod HROW.out hc2 (fun z hz e => hgq (by simpa [Value.ownBlock, e] using hz)), fun y hy => ?_, HCH.out.trans (hc2.mono fun z hz => by subst hz; exact ⟨hq1, hq2⟩)⟩
      obtain ⟨q', cs', e', h1, h2, h3, h4⟩ := HDAT.out y hy
      by_cases hqq : q' = q
      · subst hqq
        have h5 := (at_one h3 HATQ.out).1
        exact ⟨q', cs2, e', h1, h2, ha2, by rw [hs2, ← h4, h5, HCSQ.out]⟩
      · exact ⟨q', cs', e', h1, h2, h3.mod hc2 hqq, h4⟩
    · obtain rfl : k = Y.length := by omega
      obtain ⟨-, -, -, cur, hcur, hcs, -⟩ := own_at hrow
      have HCUR := Lib.hid hcur
      have HCS := Lib.hid hcs
      clear hrow hcur hcs HROW HDAT
      go_wp2_with fail
      go_loopw [4] (fun q wx => ∃ (k : Nat) (cs : Array Value), k ≤ c ∧ q = .int .i64 k ∧ At wx g cs 53 ∧ cs.size = c * 1 ∧ Chg (fun k => lo ≤ k ∧ k < hi) w wx) (fun q _ => c - (intOf q).toNat)
      case atStart => exact ⟨0, cur, by omega, rfl, HCUR.out, HCS.out, HCH.out⟩
      case round =>
        obtain ⟨k, cs, hk3, rfl, hat, hcs, hch2⟩ := hrel
        have HCS2 := Lib.hid hcs
        have HCH2 := Lib.hid hch2
        clear hcs hch2 HCUR HCS HCH
        by_cases hkc : k < c
        · have K1 : Hid (k + 1 ≤ c) := hkc
          have hat2 : At (wr.alloc (.cells #[.int .u8 77, .int .u8 78] 5)) g cs 53 := hat.alloc _
          have f0 := hat2.free k
          obtain ⟨u, d0⟩ : ∃ u, (wr.alloc (.cells #[.int .u8 77, .int .u8 78] 5)).cell? ⟨g, k, none⟩ = some u := ⟨_, (hat2.cell k).trans (Array.getElem?_eq_getElem (by have := HCS2.out; omega))⟩
          have HAT := Lib.hid hat2
          clear hat hat2
          go_wp2_with fail
          go_roundw
          case measure => simp [intOf]; omega
          exact ⟨k + 1, _, K1.out, by go_num, HAT.out.set k _, by rw [Array.size_setIfInBounds]; exact HCS2.out, HCH2.out.trans (Chg.setCell (S := fun z => lo ≤ z ∧ z < hi) ((Chg.refl _ _).alloc _) ⟨g, k, none⟩ (.inl ⟨hlo, hgi⟩) _)⟩
        · clear hat
          go_wp2_with fail
          go_end0
          exact ⟨rfl, HCH2.out⟩

end Go.Proofs.YtpegbgomnpinfaaGreat

/- A plan lent: what it gives. -/
set_option linter.unusedVariables false
namespace Go.Proofs.YtpegbgomnpinfaaGreat
open Go.RowKit

theorem lentInts_size (l : List Int) : (lentInts l).size = l.length + 2 := by simp [lentInts]

set_option maxRecDepth 100000 in
set_option maxHeartbeats 2000000 in
theorem whole_plan (r md par : Int) (vq vr vq0 vr0 : Value) (ps : List Pat) (zl : List Int) (w : World) (hq : PSeg w vq ps) (hz : ZSeg w vr zl) (hq0 : PSeg w vq0 ps) (hz0 : ZSeg w vr0 zl) (hzl : zl.length ≤ 1000000)
    (hwp : ∀ W, Below w.heap.size w W → Calls Tryz.prog 23 #[vq, vq0] W fun e w' => e = .returned (.bool true) ∧ Below W.heap.size W w')
    (hwz : ∀ W, Below w.heap.size w W → Calls Tryz.prog 109 #[vr, vr0] W fun e w' => e = .returned (.bool true) ∧ Below W.heap.size W w') :
    Calls Tryz.prog 35 #[planVal r md par vq vr, planVal r md par vq0 vr0] w fun e w' => e = .returned (.bool true) ∧ Below w.heap.size w w' := by
  have HSP : Hid (∀ W, Below w.heap.size w W → _) := fun W hW => same_planZ r md par vq vr vq0 vr0 ps zl W (hq.below hW) (hq0.below hW) (hz.below hW) (hz0.below hW) hzl
  have HWP := Lib.hid hwp
  have HWZ := Lib.hid hwz
  obtain ⟨a, c, rfl⟩ := hq.shape
  obtain ⟨a2, c2, rfl⟩ := hq0.shape
  obtain ⟨a3, c3, rfl⟩ := hz.shape
  obtain ⟨a4, c4, rfl⟩ := hz0.shape
  obtain ⟨w0, hw0⟩ : ∃ w0, w0 = (w.alloc (.cells #[.int .i64 r, .int .u8 md, .int .i64 par, .slice a ps.length c, .slice a3 zl.length c3] 75)).alloc (.cells #[.int .i64 r, .int .u8 md, .int .i64 par, .slice a2 ps.length c2, .slice a4 zl.length c4] 75) := ⟨_, rfl⟩
  have HB0 : Hid (Below w.heap.size w w0) := by rw [hw0]; exact ((Below.refl _ _).alloc (Nat.le_refl _) _).alloc (by rw [size_alloc]; omega) _
  have HA0 : Hid (At w0 w.heap.size #[.int .i64 r, .int .u8 md, .int .i64 par, .slice a ps.length c, .slice a3 zl.length c3] 75) := by rw [hw0]; exact (At.new _ _ _).alloc _
  have HC0 : Hid (At w0 (w.heap.size + 1) #[.int .i64 r, .int .u8 md, .int .i64 par, .slice a2 ps.length c2, .slice a4 zl.length c4] 75) := by rw [hw0]; exact At.new2 _ _ _ _
  clear hq hq0 hz hz0 hwp hwz
  unfold planVal at *
  go_enter Tryz.func35, Tryz.ntmps35
  go_upto_region 1 with fail
  rw [← hw0]
  clear hw0
  have x0 := HA0.out.cell 0
  have x1 := HA0.out.cell 1
  have x2 := HA0.out.cell 2
  have x3 := HA0.out.cell 3
  have x4 := HA0.out.cell 4
  have y0 := HC0.out.cell 0
  have y1 := HC0.out.cell 1
  have y2 := HC0.out.cell 2
  have y3 := HC0.out.cell 3
  have y4 := HC0.out.cell 4
  go_wp2_with (first
    | (go_at_call 29; (with_reducible refine (HSP.out _ HB0.out).mono ?_); rintro e w1 ⟨rfl, hb1⟩; have HB1 := Lib.hid (below_then HB0.out hb1); have HA1 := Lib.hid (HA0.out.below hb1 HA0.out.lt); have HC1 := Lib.hid (HC0.out.below hb1 HC0.out.lt); clear x0 x1 x2 x3 x4 y0 y1 y2 y3 y4 hb1; have x3 := HA1.out.cell 3; have y3 := HC1.out.cell 3)
    | (go_at_call 23; (with_reducible refine (HWP.out _ HB1.out).mono ?_); rintro e w2 ⟨rfl, hb2⟩; have HB2 := Lib.hid (below_then HB1.out hb2); have x4 := (HA1.out.below hb2 HA1.out.lt).cell 4; have y4 := (HC1.out.below hb2 HC1.out.lt).cell 4; clear x3 y3 hb2)
    | (go_at_call 109; (with_reducible refine (HWZ.out _ HB2.out).mono ?_); rintro e w3 ⟨rfl, hb3⟩; have HB3 := Lib.hid (below_then HB2.out hb3); clear hb3))
  go_ret
  exact ⟨rfl, HB3.out⟩

set_option maxRecDepth 100000 in
set_option maxHeartbeats 2000000 in
theorem spoil_plan {S S1 : Nat → Prop} (r md par : Int) (a a3 : Option Addr) (n c n3 c3 : Nat) (w : World) (hS : ∀ k, w.heap.size ≤ k → ¬ S k) (hSS : ∀ k, S1 k → S k)
    (hsp : ∀ W, Below w.heap.size w W → Calls Tryz.prog 25 #[.slice a n c] W fun e w' => e = .returned (.tuple #[]) ∧ Chg S1 W w')
    (hsz : ∀ W, Chg S1 w W → Calls Tryz.prog 110 #[.slice a3 n3 c3] W fun e w' => e = .returned (.tuple #[]) ∧ Chg S W w') :
    Calls Tryz.prog 37 #[planVal r md par (.slice a n c) (.slice a3 n3 c3)] w fun e w' => e = .returned (.tuple #[]) ∧ Chg S w w' := by
  obtain ⟨w0, hw0⟩ : ∃ w0, w0 = w.alloc (.cells #[.int .i64 r, .int .u8 md, .int .i64 par, .slice a n c, .slice a3 n3 c3] 75) := ⟨_, rfl⟩
  have HB0 : Hid (Below w.heap.size w w0) := by rw [hw0]; exact (Below.refl _ _).alloc (Nat.le_refl _) _
  have HC0 : Hid (Chg S1 w w0) := by rw [hw0]; exact (Chg.refl _ _).alloc _
  have HA0 : Hid (At w0 w.heap.size #[.int .i64 r, .int .u8 md, .int .i64 par, .slice a n c, .slice a3 n3 c3] 75) := by rw [hw0]; exact At.new _ _ _
  have HSP := Lib.hid hsp
  have HSZ := Lib.hid hsz
  have HS := Lib.hid hS
  have HSS := Lib.hid hSS
  clear hsp hsz hS hSS
  unfold planVal
  go_enter Tryz.func37, Tryz.ntmps37
  go_upto_region 1 with fail
  rw [← hw0]
  clear hw0
  have x3 := HA0.out.cell 3
  go_wp2_with (first
    | (go_at_call 25; (with_reducible refine (HSP.out _ HB0.out).mono ?_); rintro e w1 ⟨rfl, hc1⟩; have HC1 := Lib.hid (HC0.out.trans hc1); have x4 := (HA0.out.mod hc1 (fun hk => HS.out _ (Nat.le_refl _) (HSS.out _ hk))).cell 4; clear x3 hc1)
    | (go_at_call 110; (with_reducible refine (HSZ.out _ HC1.out).mono ?_); rintro e w2 ⟨rfl, hc2⟩; have HC2 := Lib.hid ((HC1.out.mono HSS.out).trans hc2); clear hc2))
  go_end0
  exact ⟨rfl, HC2.out⟩

/-- What the lent plan gives. -/
structure LentUsePl (w0 w1 : World) (r md par : Int) (ps : List Pat) (zl : List Int) (g c g2 : Nat) : Prop where
  seg : PSeg w1 (.slice (some ⟨g, 0, none⟩) ps.length c) ps
  zseg : ZSeg w1 (.slice (some ⟨g2, 0, none⟩) zl.length (zl.length + 2)) zl
  whole : ∀ W vq0 vr0, Below w1.heap.size w1 W → PSeg W vq0 ps → ZSeg W vr0 zl → Calls Tryz.prog 35 #[planVal r md par (.slice (some ⟨g, 0, none⟩) ps.length c) (.slice (some ⟨g2, 0, none⟩) zl.length (zl.length + 2)), planVal r md par vq0 vr0] W fun e w' => e = .returned (.bool true) ∧ Below W.heap.size W w'
  spoil : ∀ W, Below w1.heap.size w1 W → Calls Tryz.prog 37 #[planVal r md par (.slice (some ⟨g, 0, none⟩) ps.length c) (.slice (some ⟨g2, 0, none⟩) zl.length (zl.length + 2))] W fun e w' => e = .returned (.tuple #[]) ∧ Chg (fun k => w0.heap.size ≤ k ∧ k < w1.heap.size) W w'
theorem lent_usePl {w0 w1 : World} {r md par : Int} {ps : List Pat} {zl : List Int} {g c g2 : Nat} {Y : List OP} (hY : Y.map (·.1) = ps) (hL : LPats w1 w0.heap.size (.slice (some ⟨g, 0, none⟩) (Y.length + 2) c) Y) (hg2 : w0.heap.size ≤ g2 ∧ g < g2 ∧ ∀ y ∈ Y, ∀ q, y.2.ownBlock = some q → q < g2) (hz : At w1 g2 (lentInts zl) 3)
    (hn : ps.length ≤ 300000) (hl : ∀ u ∈ ps, u.d.length ≤ 300000) (hzl : zl.length ≤ 1000000) : LentUsePl w0 w1 r md par ps zl g c g2 := by
  have hyl : Y.length = ps.length := by rw [← hY, List.length_map]
  have hy2 : ∀ y ∈ Y, y.1.d.length ≤ 300000 := fun y hy => hl _ (by rw [← hY]; exact List.mem_map_of_mem hy)
  have hs := hL.pseg (by omega) hy2
  rw [hY, hyl] at hs
  have hZ : LentZ w1 w0.heap.size (.slice (some ⟨g2, 0, none⟩) zl.length (zl.length + 2)) zl := ⟨g2, hg2.1, rfl, hz⟩
  refine ⟨hs, hZ.seg, fun W vq0 vr0 hW hq0 hz0 => ?_, fun W hW => ?_⟩
  · refine whole_plan r md par _ _ vq0 vr0 ps zl W (hs.below hW) (hZ.seg.below hW) hq0 hz0 hzl (fun W' hW' => ?_) (fun W' hW' => whole_zs w0.heap.size _ vr0 zl W' hzl (hZ.below (below_then hW hW')) (hz0.below hW'))
    have h := whole_pats w0.heap.size g c vq0 Y W' (hL.below (below_then hW hW')) (by rw [hY]; exact hq0.below hW') (by omega) hy2
    rw [hyl] at h
    exact h
  · have hg2w := hz.lt
    refine spoil_plan (S1 := fun k => w0.heap.size ≤ k ∧ k < g2) r md par _ _ _ _ _ _ W (fun k hk e => by have := hW.size; omega) (fun k hk => ⟨hk.1, by omega⟩) (fun W' hW' => ?_) (fun W' hW' => ?_)
    · have h := spoil_pats w0.heap.size g2 g c Y W' (hL.below (below_then hW hW')) (by omega) hy2 hg2.2.1 hg2.2.2
      rw [hyl] at h
      exact h
    · exact (spoil_zs g2 zl.length (zl.length + 2) _ W' (by omega) (by omega) ((hz.below hW hz.lt).mod hW' (by omega)) (lentInts_size zl)).mono fun e w' ⟨x1, x2, _⟩ => ⟨x1, x2.mono fun k hk => by subst hk; exact ⟨hg2.1, hg2w⟩⟩

end Go.Proofs.YtpegbgomnpinfaaGreat

/- What Work and Solve answer, the program's and the document's. -/
set_option linter.unusedVariables false
namespace Go.Proofs.YtpegbgomnpinfaaGreat
open Go.RowKit

theorem stays_mem {d : Nat → Bool} {ps : List Pat} {q : Pat} (h : q ∈ staysL d ps ps.length) : q ∈ ps := by
  unfold staysL whichTo at h
  obtain ⟨j, hj, rfl⟩ := List.mem_map.1 h
  have hj2 := List.mem_range.1 (List.mem_filter.1 hj).1
  rw [getD_of ps j hj2]
  exact List.getElem_mem _
theorem stays_up {M C S r : Nat} {d : Nat → Bool} {ps : List Pat} (ok : PlanOk M C S d ps r) : PatsUp (staysL d ps ps.length) := by
  unfold PatsUp staysL whichTo
  rw [List.pairwise_map]
  refine (List.pairwise_lt_range.filter _).imp_of_mem fun {a b} ha hb hab => ?_
  have ha' := List.mem_range.1 (List.mem_filter.1 ha).1
  have hb' := List.mem_range.1 (List.mem_filter.1 hb).1
  show (ps.getD a pat0).m < (ps.getD b pat0).m
  rw [getD_of ps a ha', getD_of ps b hb']
  exact ok.rising a b ha' hb' hab
theorem up_of_perm {l u : List Pat} (hp : l.Perm u) (hu : u.Pairwise fun a b => a.m ≠ b.m) (hs : l.Pairwise fun a b => a.m ≤ b.m) : PatsUp l := by
  have h1 : l.Pairwise fun a b => a.m ≠ b.m := hp.symm.pairwise hu (fun {x y} h => h.symm)
  exact (List.pairwise_and_iff.2 ⟨hs, h1⟩).imp fun {a b} h => by omega
theorem work_eq {M C S r : Nat} {d : Nat → Bool} {ps : List Pat} (ok : PlanOk M C S d ps r) {newp : List UInt8} {X : List OP} (hp : (X.map (·.1)).Perm (outPats d ps (parOf M C r) r newp)) (hs : X.Pairwise fun x y => x.1.m ≤ y.1.m) : X.map (·.1) = workL d ps (parOf M C r) r newp := by
  have hs' : (X.map (·.1)).Pairwise fun a b => a.m ≤ b.m := by rw [List.pairwise_map]; exact hs
  have hup := stays_up ok
  unfold outPats at hp
  unfold workL
  have e0 : (whichTo (stays d ps) ps.length).map (fun j => ps.getD j pat0) = staysL d ps ps.length := rfl
  rw [e0] at hp
  by_cases hd : d (parOf M C r) = true
  · rw [if_pos hd, List.append_nil] at hp
    rw [if_pos hd]
    exact pats_ext (up_of_perm hp (hup.imp fun {a b} h => by omega) hs') hup (fun x => hp.mem_iff)
  · rw [if_neg hd] at hp ⊢
    obtain ⟨i1, i2⟩ := intoL_is (p := ⟨(parOf M C r : Nat), r, newp⟩) hup
    have hne : ∀ q ∈ staysL d ps ps.length, q.m ≠ ((parOf M C r : Nat) : Int) := fun q hq => ok.np q (stays_mem hq)
    refine pats_ext (up_of_perm hp ?_ hs') i1 (fun x => ?_)
    · rw [List.pairwise_append]
      refine ⟨hup.imp fun {a b} h => by omega, List.pairwise_singleton _ _, fun a ha b hb => ?_⟩
      obtain rfl : b = _ := by simpa using hb
      exact hne a ha
    · rw [hp.mem_iff, List.mem_append, List.mem_singleton, i2]
      constructor
      · rintro (h | h)
        · exact .inr ⟨h, hne x h⟩
        · exact .inl h
      · rintro (h | ⟨h, -⟩)
        · exact .inr h
        · exact .inl h

theorem intoTo_len (ps : List Pat) (p : Pat) : ∀ k, k ≤ ps.length → (intoTo ps p k).1.length ≤ 2 * k
  | 0, _ => by rw [intoTo_zero]; simp
  | k + 1, hk => by
    rw [intoTo_succ ps p k (by omega)]
    have ih := intoTo_len ps p k (by omega)
    generalize intoTo ps p k = st at *
    unfold intoStep
    rw [List.length_append]
    have a : (if (!st.2 && decide (p.m ≤ (ps[k]'(by omega)).m)) = true then st.1 ++ [p] else st.1).length ≤ st.1.length + 1 := by split <;> simp
    have b : (if (ps[k]'(by omega)).m = p.m then ([] : List Pat) else [ps[k]'(by omega)]).length ≤ 1 := by split <;> simp
    omega
theorem intoL_len (ps : List Pat) (p : Pat) : (intoL ps p).length ≤ 2 * ps.length + 1 := by
  have h := intoTo_len ps p ps.length (Nat.le_refl _)
  unfold intoL
  split
  · omega
  · rw [List.length_append, List.length_singleton]; omega

/-- What plan.Work and the document's Work answer. -/
structure WorkAns (m c s : Int) (l : List Bool) (r md par : Int) (ps : List Pat) (zl : List Int) (ls : List (List UInt8)) (cd : Nat) (qs : List Pat) : Prop where
  code : cd ≤ 200
  few : qs.length ≤ 1000
  prog : ∀ vd vq vr vrd w, BooSeg w vd l → PSeg w vq ps → ZSeg w vr zl → Segs w vrd ls → Calls Tryz.prog 33 #[geo m c s, vd, planVal r md par vq vr, vrd] w fun e w' => (∃ v X, e = .returned (.tuple #[v, .int .u16 cd]) ∧ ORow w' w.heap.size v X ∧ X.map (·.1) = qs) ∧ Below w.heap.size w w'
  doc : ∀ vd vq vr vrd w, BooSeg w vd l → PSeg w vq ps → ZSeg w vr zl → Segs w vrd ls → Calls Tryz.prog 39 #[geo m c s, vd, planVal r md par vq vr, vrd] w fun e w' => (∃ v X, e = .returned (.tuple #[v, .int .i64 cd]) ∧ TRow w' v X ∧ X.map (·.1) = qs) ∧ Below w.heap.size w w'

theorem work_ans (m c s r md par : Int) (l : List Bool) (ps : List Pat) (zl : List Int) (ls : List (List UInt8)) (hn : ps.length ≤ 300000) (hzl : zl.length ≤ 1000000) (hlf : ls.length ≤ 300000) (hll : ∀ l ∈ ls, l.length ≤ 300000) :
    ∃ cd qs, WorkAns m c s l r md par ps zl ls cd qs := by
  have nilp : ∀ (w w' : World) (cd : Nat) e, (e = Ending.returned (.tuple #[.slice none 0 0, .int .u16 cd]) ∧ Below w.heap.size w w') → (∃ v X, e = .returned (.tuple #[v, .int .u16 cd]) ∧ ORow w' w.heap.size v X ∧ X.map (·.1) = []) ∧ Below w.heap.size w w' := fun w w' cd e ⟨x1, x2⟩ => ⟨⟨.slice none 0 0, [], x1, ORow.nil _ _, rfl⟩, x2⟩
  have nild : ∀ (w w' : World) (cd : Nat) e, (e = Ending.returned (.tuple #[.slice none 0 0, .int .i64 cd]) ∧ Below w.heap.size w w') → (∃ v X, e = .returned (.tuple #[v, .int .i64 cd]) ∧ TRow w' v X ∧ X.map (·.1) = []) ∧ Below w.heap.size w w' := fun w w' cd e ⟨x1, x2⟩ => ⟨⟨.slice none 0 0, [], x1, TRow.nil _, rfl⟩, x2⟩
  by_cases hg : geoIs m c s = false
  · refine ⟨60, [], by omega, by simp, fun vd vq vr vrd w hd hq hz hls => ?_, fun vd vq vr vrd w hd hq hz hls => ?_⟩
    · obtain ⟨da, dc, rfl⟩ := hd.shape
      obtain ⟨qa, qc, rfl⟩ := hq.shape
      obtain ⟨ra, rc, rfl⟩ := hz.shape
      obtain ⟨sa, sc, rfl⟩ := hls.shape
      exact (plan_Work_form m c s r md par _ _ _ _ _ _ _ _ _ _ _ _ w hg).mono fun e w' h => nilp w w' 60 e h
    · obtain ⟨da, dc, rfl⟩ := hd.shape
      obtain ⟨qa, qc, rfl⟩ := hq.shape
      obtain ⟨ra, rc, rfl⟩ := hz.shape
      obtain ⟨sa, sc, rfl⟩ := hls.shape
      exact (ref_Work_form m c s r md par _ _ _ _ _ _ _ _ _ _ _ _ w hg).mono fun e w' h => nild w w' 60 e h
  have hg1 : geoIs m c s = true := by simpa using hg
  by_cases hz : planCode m c s l ps ≠ 0
  · refine ⟨1, [], by omega, by simp, fun vd vq vr vrd w hd hq hzz hls => ?_, fun vd vq vr vrd w hd hq hzz hls => ?_⟩
    · obtain ⟨sa, sc, rfl⟩ := hls.shape
      exact (plan_Work_ref m c s r md par vd vq vr l ps zl _ _ _ w hg1 hd hq hzz hz).mono fun e w' h => nilp w w' 1 e h
    · obtain ⟨sa, sc, rfl⟩ := hls.shape
      exact (ref_Work_ref m c s r md par vd vq vr l ps zl _ _ _ w hg1 hd hq hzz hn hzl hz).mono fun e w' h => nild w w' 1 e h
  have hz0 : planCode m c s l ps = 0 := by omega
  obtain ⟨M, C, S, rr, rfl, rfl, rfl, hl, ok⟩ := plan_ok_of hz0
  obtain ⟨z, hgz⟩ := gone_is (bitOf l) M
  have h16 := (geoIs_iff M C S).1 ok.hg
  have hfew := ok.few
  obtain ⟨L, hL⟩ : ∃ L, L = readsOf ps (parOf M C rr) M (modeOf M ps (parOf M C rr) z) := ⟨_, rfl⟩
  by_cases bad : headIs r md par rr (modeOf M ps (parOf M C rr) z : Nat) (parOf M C rr : Nat) zl (L.map fun x : Nat => (x : Int)) = false ∨ ls.length ≠ M
  · refine ⟨1, [], by omega, by simp, fun vd vq vr vrd w hd hq hzz hls => ?_, fun vd vq vr vrd w hd hq hzz hls => ?_⟩
    · exact (plan_Work_bad M C S rr r md par vd vq vr vrd l ps zl ls w ok hl z hgz hzl hlf hll hd hq hzz hls L hL bad).mono fun e w' h => nilp w w' 1 e h
    · exact (ref_Work_bad M C S rr r md par vd vq vr vrd l ps zl ls w ok hl hz0 z hgz hzl hlf hll hd hq hzz hls L hL bad).mono fun e w' h => nild w w' 1 e h
  have hhd : headIs r md par rr (modeOf M ps (parOf M C rr) z : Nat) (parOf M C rr : Nat) zl (L.map fun x : Nat => (x : Int)) = true := by
    cases e : headIs r md par rr (modeOf M ps (parOf M C rr) z : Nat) (parOf M C rr : Nat) zl (L.map fun x : Nat => (x : Int))
    · exact absurd (.inl e) bad
    · rfl
  have hlm : ls.length = M := Classical.byContradiction fun e => bad (.inr e)
  have hLm : ∀ m ∈ L, m < M := fun m hm => (reads_up ok hgz (by rw [← hL]; exact hm)).1
  by_cases short : ∃ m ∈ L, (ls.getD m []).length ≠ 128
  · refine ⟨4, [], by omega, by simp, fun vd vq vr vrd w hd hq hzz hls => ?_, fun vd vq vr vrd w hd hq hzz hls => ?_⟩
    · exact (plan_Work_short M C S rr r md par vd vq vr vrd l ps zl ls w ok hl z hgz hzl hlf hll hd hq hzz hls L hL hhd hlm hLm short).mono fun e w' h => nilp w w' 4 e h
    · exact (ref_Work_short M C S rr r md par vd vq vr vrd l ps zl ls w ok hl hz0 z hgz hzl hlf hll hd hq hzz hls L hL hhd hlm hLm short).mono fun e w' h => nild w w' 4 e h
  have halls : ∀ m ∈ L, (ls.getD m []).length = 128 := fun m hm => Classical.byContradiction fun e => short ⟨m, hm, e⟩
  obtain ⟨rfl, rfl, rfl⟩ := head_is hhd
  obtain rfl := head_reads hhd
  refine ⟨0, workL (bitOf l) ps (parOf M C rr) rr (sumL (xorUp (addsOf L ls ps) (L.length + ps.length)) 128), by omega, ?_, fun vd vq vr vrd w hd hq hzz hls => ?_, fun vd vq vr vrd w hd hq hzz hls => ?_⟩
  · unfold workL
    have hsl := staysL_len (bitOf l) ps ps.length
    split
    · omega
    · have := intoL_len (staysL (bitOf l) ps ps.length) ⟨(parOf M C rr : Nat), rr, sumL (xorUp (addsOf L ls ps) (L.length + ps.length)) 128⟩
      omega
  · have hb : BSeg w vd (bitOf l) M := by have h := hd.bseg; rwa [hl] at h
    have hi := hzz.iseg
    subst hL
    exact (plan_WorkS M C S rr vd vq vr vrd (bitOf l) ps ls w ok z hgz hb hq hi hls hlm (fun m hm => ⟨hLm m hm, halls m hm⟩)).mono fun e w' ⟨v, X, x1, x2, x3, x4, x5⟩ => ⟨⟨v, X, x1, x2, work_eq ok x3 x4⟩, x5⟩
  · exact ref_Work_ok M C S rr _ _ _ vd vq vr vrd l ps _ ls w ok hl hz0 z hgz hzl hlf hll hd hq hzz hls L hL hhd hlm hLm halls

/-- What plan.Solve and the document's Solve answer. -/
structure SolveAns (m c s row mem : Int) (ls : List (List UInt8)) (cd : Nat) (out : List UInt8) : Prop where
  code : cd ≤ 200
  few : out.length ≤ 128
  prog : ∀ vrd w, Segs w vrd ls → Calls Tryz.prog 34 #[geo m c s, .int .i64 row, .int .i64 mem, vrd] w fun e w' => (∃ v, e = .returned (.tuple #[v, .int .u16 cd]) ∧ w'.ownsRow w.heap.size 5 1 v out.length (ucells out)) ∧ Below w.heap.size w w'
  doc : ∀ vrd w, Segs w vrd ls → Calls Tryz.prog 40 #[geo m c s, .int .i64 row, .int .i64 mem, vrd] w fun e w' => (∃ v, e = .returned (.tuple #[v, .int .i64 cd]) ∧ w'.ownsRow 0 5 1 v out.length (ucells out)) ∧ Below w.heap.size w w'

theorem solve_ans (m c s row mem : Int) (ls : List (List UInt8)) (hlf : ls.length ≤ 300000) (hll : ∀ l ∈ ls, l.length ≤ 300000) : ∃ cd out, SolveAns m c s row mem ls cd out := by
  by_cases hz : solveCode m c s row mem ls = 0
  · refine ⟨0, solveL m mem ls, by omega, by unfold solveL; rw [sumL_length]; omega, fun vrd w hls => ?_, fun vrd w hls => ?_⟩
    · unfold solveCode at hz
      have hg : geoIs m c s = true := by
        cases e : geoIs m c s
        · rw [if_pos e] at hz; omega
        · rfl
      obtain ⟨h1, h2, h3, h4, h5, h6⟩ := (geoIs_iff m c s).1 hg
      obtain ⟨M, rfl⟩ := Int.eq_ofNat_of_zero_le (by omega : 0 ≤ m)
      obtain ⟨C, rfl⟩ := Int.eq_ofNat_of_zero_le (by omega : 0 ≤ c)
      obtain ⟨S, rfl⟩ := Int.eq_ofNat_of_zero_le (by omega : 0 ≤ s)
      rw [if_neg (by simp [hg])] at hz
      change (if patBad M C S ⟨mem, row, []⟩ = true then 3 else if (ls.length : Int) ≠ (M : Int) then 1 else if (List.range ls.length).any (shortBut mem ls) = true then 4 else 0) = 0 at hz
      have hb : patBad M C S ⟨mem, row, []⟩ = false := by
        cases e : patBad M C S ⟨mem, row, []⟩
        · rfl
        · rw [if_pos e] at hz; omega
      rw [if_neg (show ¬ patBad M C S ⟨mem, row, []⟩ = true by rw [hb]; simp)] at hz
      have hlm : (ls.length : Int) = (M : Int) := Classical.byContradiction fun e => by rw [if_pos e] at hz; omega
      rw [if_neg (by simp [hlm])] at hz
      have hno : (List.range ls.length).any (shortBut mem ls) = false := by
        cases e : (List.range ls.length).any (shortBut mem ls)
        · rfl
        · rw [if_pos e] at hz; omega
      unfold patBad at hb
      simp only [Bool.or_eq_false_iff, decide_eq_false_iff_not] at hb
      obtain ⟨q1, q2, q3, q4⟩ := hb
      obtain ⟨kk, rfl⟩ := Int.eq_ofNat_of_zero_le (by omega : 0 ≤ mem)
      obtain ⟨rr, rfl⟩ := Int.eq_ofNat_of_zero_le (by omega : 0 ≤ row)
      have hlm2 : ls.length = M := by omega
      refine (plan_Solve M C S rr kk vrd ls w hg (by omega) (by omega) hls hlm2 (fun j hj hjk => ?_)).mono fun e w' ⟨v, x1, x2, x3⟩ => ⟨⟨v, x1, ?_⟩, x3⟩
      · rw [List.any_eq_false] at hno
        have h3 := hno j (List.mem_range.2 (by omega))
        unfold shortBut at h3
        apply Classical.byContradiction
        intro hc
        apply h3
        have : ((j : Int) != (kk : Int)) = true := by simp; omega
        rw [this, decide_eq_true hc]
        rfl
      · have e0 : (solveL (M : Int) (kk : Int) ls).length = 128 := by unfold solveL; rw [sumL_length]
        rw [e0]
        exact x2
    · refine (ref_Solve m c s row mem vrd ls w hls hlf hll).mono fun e w' ⟨⟨v, x1, x2⟩, x3⟩ => ⟨⟨v, by rw [x1, hz], ?_⟩, x3⟩
      rw [if_pos hz] at x2
      exact x2
  · refine ⟨solveCode m c s row mem ls, [], by have := solve_le m c s row mem ls; omega, by simp, fun vrd w hls => ?_, fun vrd w hls => ?_⟩
    · exact (plan_Solve_no m c s row mem vrd ls w hls hlf hll hz).mono fun e w' ⟨x1, x2⟩ => ⟨⟨_, x1, World.ownsRow_nil _ _ _ _⟩, x2⟩
    · refine (ref_Solve m c s row mem vrd ls w hls hlf hll).mono fun e w' ⟨⟨v, x1, x2⟩, x3⟩ => ⟨⟨v, x1, ?_⟩, x3⟩
      rw [if_neg hz] at x2
      exact x2

/-- The document's Of, of anything, as a plan to be read. -/
theorem ref_Of_any (m c s : Int) (l : List Bool) (ps : List Pat) : ∃ r md par qs zl cd, (qs.length ≤ 16 ∧ (∀ q ∈ qs, q.d.length ≤ 300000) ∧ zl.length ≤ 16) ∧ ∀ vd vp w, BooSeg w vd l → PSeg w vp ps → Calls Tryz.prog 26 #[geo m c s, vd, vp] w fun e w' => (∃ vq vr, e = .returned (.tuple #[planVal r md par vq vr, .int .i64 cd]) ∧ PSeg w' vq qs ∧ ZSeg w' vr zl) ∧ Below w.heap.size w w' := by
  by_cases hz : planCode m c s l ps = 0
  · obtain ⟨M, C, S, r, rfl, rfl, rfl, hl, ok⟩ := plan_ok_of hz
    obtain ⟨z, hgz⟩ := gone_is (bitOf l) M
    have h16 := (geoIs_iff M C S).1 ok.hg
    have hfew := ok.few
    refine ⟨r, (modeOf M ps (parOf M C r) z : Nat), (parOf M C r : Nat), ps, (readsOf ps (parOf M C r) M (modeOf M ps (parOf M C r) z)).map (fun x : Nat => (x : Int)), 0, ⟨by omega, fun q hq => by have := ok.len q hq; omega, by rw [List.length_map]; have := readsOf_length ps (parOf M C r) M (modeOf M ps (parOf M C r) z); omega⟩, fun vd vp w hd hp => ?_⟩
    exact (ref_Of_ok M C S r vd vp l ps w ok hl hz hd hp z hgz).mono fun e w' ⟨⟨vq, vr, X, x1, x2, xm, x3⟩, x4⟩ => ⟨⟨vq, vr, x1, orow_pseg x2 xm (by omega), zseg_of_members x3⟩, x4⟩
  · refine ⟨0, 0, 0, [], [], planCode m c s l ps, ⟨by simp, by simp, by simp⟩, fun vd vp w hd hp => ?_⟩
    exact (ref_Of_no m c s vd vp l ps w hd hp hz).mono fun e w' ⟨x1, x2⟩ => ⟨⟨.slice none 0 0, .slice none 0 0, x1, PSeg.nil _, ZSeg.nil _⟩, x2⟩

end Go.Proofs.YtpegbgomnpinfaaGreat
