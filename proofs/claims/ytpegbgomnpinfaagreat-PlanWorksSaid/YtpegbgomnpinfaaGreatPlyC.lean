/- Patches lent: whole; spoilt. -/
import Derived.Test.YtpegbgomnpinfaaGreatPlyB
set_option linter.unusedVariables false
namespace Go.Proofs.YtpegbgomnpinfaaGreat
open Go.RowKit

theorem patc_one : (#[Value.int .i64 (-77), .int .i64 0, .slice none 0 0].all (·.oneCell')) = true := all_oneCell_toArray (cs := [.int .i64 (-77), .int .i64 0, .slice none 0 0]) fun v hv => by
  simp only [List.mem_cons, List.not_mem_nil, or_false] at hv
  rcases hv with rfl | rfl | rfl <;> rfl

set_option maxRecDepth 100000 in
set_option maxHeartbeats 2000000 in
theorem whole_pats (lo g c : Nat) (v : Value) (Y : List OP) (w : World) (hL : LPats w lo (.slice (some ⟨g, 0, none⟩) (Y.length + 2) c) Y) (hv : PSeg w v (Y.map (·.1))) (hn : Y.length ≤ 300000) (hl : ∀ y ∈ Y, y.1.d.length ≤ 300000) :
    Calls Tryz.prog 23 #[.slice (some ⟨g, 0, none⟩) Y.length c, v] w fun e w' => e = .returned (.bool true) ∧ Below w.heap.size w w' := by
  have hcap := (own_at hL.row).2.1
  have HL := Lib.hid hL
  have HV := Lib.hid hv
  have HDL := Lib.hid hl
  obtain ⟨va, vc, rfl⟩ := hv.shape
  rw [List.length_map] at *
  have hci : (Y.length : Int) + 2 ≤ (c : Int) := by omega
  have hc0 : ¬ c = 0 := by omega
  have hlt : ¬ ((c : Int) < (Y.length : Int) + 2) := by omega
  have hne : ((Y.length : Int) != (Y.length : Int)) = false := by simp
  clear hL hv hl
  go_enter Tryz.func23, Tryz.ntmps23
  go_wp2_with fail
  go_loopw [6] (fun q wx => ∃ k : Nat, k ≤ 2 ∧ q = .int .i64 ((Y.length : Int) + (k : Int)) ∧ wx = w) (fun q _ => Y.length + 2 - (intOf q).toNat)
  case atStart => exact ⟨0, by omega, by simp, rfl⟩
  case round =>
    obtain ⟨k, hk, rfl, rfl⟩ := hrel
    by_cases hk2 : k < 2
    · have K1 : Hid (k + 1 ≤ 2) := hk2
      obtain ⟨m0, m1, m2⟩ := HL.out.marks hk2
      have hkt : (((Y.length : Int) + (k : Int)).toNat) = Y.length + k := by omega
      have hlt2 : (Y.length : Int) + (k : Int) < (Y.length : Int) + 2 := by omega
      have h0 : (0 : Int) ≤ (Y.length : Int) + (k : Int) := by omega
      have HM : Hid (wr.cell? ⟨g, (Y.length + k) * 3, none⟩ = some (.int .i64 (-77)) ∧ wr.cell? ⟨g, (Y.length + k) * 3 + 1, none⟩ = some (.int .i64 0) ∧ wr.cell? ⟨g, (Y.length + k) * 3 + 2, none⟩ = some (.slice none 0 0)) := ⟨m0, m1, m2⟩
      go_wp2_with fail
      go_roundw
      case measure => simp [intOf]; omega
      exact ⟨k + 1, K1.out, by go_num, trivial⟩
    · have hge : ¬ ((Y.length : Int) + (k : Int) < (Y.length : Int) + 2) := by omega
      clear hk hk2
      obtain ⟨wo, rfl⟩ : ∃ wo : World, wo = wr := ⟨_, rfl⟩
      obtain ⟨k0, rfl⟩ : ∃ k0 : Nat, k0 = k := ⟨_, rfl⟩
      go_wp2_with fail
      clear hge
      go_loopw [7] (fun q wx => ∃ k : Nat, k ≤ Y.length ∧ q = .int .i64 k ∧ Below wo.heap.size wo wx) (fun q _ => Y.length - (intOf q).toNat)
      case atStart => exact ⟨0, by omega, rfl, Below.refl _ _⟩
      case round =>
        obtain ⟨k, hk, rfl, hB⟩ := hrel
        have HB := Lib.hid hB
        clear hB
        by_cases hk2 : k < Y.length
        · skip
          · skip
            have K1 : Hid (k + 1 ≤ Y.length) := hk2
            obtain ⟨b, o, rfl, hlt, hx⟩ := PSeg.full HV.out (by rw [List.length_map]; omega)
            have hx2 := hx k (by rw [List.length_map]; exact hk2)
            rw [List.getElem_map] at hx2
            obtain ⟨p0, p1, u, p2, hu⟩ := hx2
            obtain ⟨c0, c1, c2⟩ := HL.out.cells hk2
            have hlent := HL.out.dat _ (List.getElem_mem hk2)
            have hlen := HDL.out _ (List.getElem_mem hk2)
            have hglt := HL.out.lt
            clear hx
            obtain ⟨y, hye⟩ : ∃ y, Y[k]'hk2 = y := ⟨_, rfl⟩
            rw [hye] at p0 p1 hu c0 c1 c2 hlent hlen
            clear hye
            obtain ⟨⟨ym, yr, yd⟩, yv⟩ := y
            simp only at p0 p1 hu c0 c1 c2 hlent hlen
            have HWB : Hid (∀ W, Below wo.heap.size wo W → Calls Tryz.prog 90 #[yv, u] W _) := fun W hW => whole_bytes lo yv u yd W (by omega) (hlent.below hW) (hu.below hW)
            obtain ⟨gy, -, rfl, -⟩ := hlent
            obtain ⟨ua, uc, rfl⟩ := hu.shape
            have HK : Hid (∀ X, Below wo.heap.size wo X → X.cell? ⟨g, k * 3, none⟩ = some (.int .i64 ym) ∧ X.cell? ⟨g, k * 3 + 1, none⟩ = some (.int .i64 yr) ∧ X.cell? ⟨g, k * 3 + 2, none⟩ = some (.slice (some ⟨gy, 0, none⟩) yd.length (yd.length + 2)) ∧ X.cell? ⟨b, o + k * 3, none⟩ = some (.int .i64 ym) ∧ X.cell? ⟨b, o + k * 3 + 1, none⟩ = some (.int .i64 yr) ∧ X.cell? ⟨b, o + k * 3 + 2, none⟩ = some (.slice ua yd.length uc)) := fun X hX =>
              ⟨(hX.cell (p := ⟨g, k * 3, none⟩) hglt).trans c0, (hX.cell (p := ⟨g, k * 3 + 1, none⟩) hglt).trans c1, (hX.cell (p := ⟨g, k * 3 + 2, none⟩) hglt).trans c2, (hX.cell (p := ⟨b, o + k * 3, none⟩) hlt).trans p0, (hX.cell (p := ⟨b, o + k * 3 + 1, none⟩) hlt).trans p1, (hX.cell (p := ⟨b, o + k * 3 + 2, none⟩) hlt).trans p2⟩
            have HBD : Hid (Below wo.heap.size wo wr.drew) := HB.out.drew
            clear p0 p1 p2 c0 c1 c2 hu
            go_wp2_with fail
            go_region_held3 (fun w' => w'.cell? ⟨g, k * 3, none⟩ = some (.int .i64 ym) ∧ w'.cell? ⟨g, k * 3 + 1, none⟩ = some (.int .i64 yr) ∧ w'.cell? ⟨g, k * 3 + 2, none⟩ = some (.slice (some ⟨gy, 0, none⟩) yd.length (yd.length + 2)) ∧ w'.cell? ⟨b, o + k * 3, none⟩ = some (.int .i64 ym) ∧ w'.cell? ⟨b, o + k * 3 + 1, none⟩ = some (.int .i64 yr) ∧ w'.cell? ⟨b, o + k * 3 + 2, none⟩ = some (.slice ua yd.length uc))
              (first | with_reducible exact HK.out _ HB.out | with_reducible exact HK.out _ HBD.out | with_reducible exact HK.out _ HB4.out)
              (first | (go_at_call 90; (with_reducible refine (HWB.out _ HBD.out).mono ?_); rintro e w4 ⟨rfl, hb4⟩; have HB4 : Hid (Below wo.heap.size wo w4) := below_then HBD.out hb4; clear hb4))
            go_wp2_with fail
            go_roundw
            case measure => simp [intOf]; omega
            exact ⟨k + 1, K1.out, by go_num, HB4.out⟩
        · skip
          · skip
            obtain rfl : k = Y.length := by omega
            go_wp2_with fail
            go_ret
            exact ⟨rfl, HB.out⟩

set_option maxRecDepth 100000 in
set_option maxHeartbeats 2000000 in
theorem spoil_pats (lo hi g c : Nat) (Y : List OP) (w : World) (hL : LPats w lo (.slice (some ⟨g, 0, none⟩) (Y.length + 2) c) Y) (hn : Y.length ≤ 300000) (hl : ∀ y ∈ Y, y.1.d.length ≤ 300000) (hgi : g < hi) (hdi : ∀ y ∈ Y, ∀ q, y.2.ownBlock = some q → q < hi) :
    Calls Tryz.prog 25 #[.slice (some ⟨g, 0, none⟩) Y.length c] w fun e w' => e = .returned (.tuple #[]) ∧ Chg (fun k => lo ≤ k ∧ k < hi) w w' := by
  obtain ⟨hlo, hcap, hcm, -⟩ := own_at hL.row
  have HL := Lib.hid hL
  have HDL := Lib.hid hl
  have HDI := Lib.hid hdi
  have hci : (Y.length : Int) + 2 ≤ (c : Int) := by omega
  have hc0 : ¬ c = 0 := by omega
  have hcm' : (c : Int) ≤ 9223372036854775807 := by unfold maxLen at hcm; omega
  clear hL hl hdi
  go_enter Tryz.func25, Tryz.ntmps25
  go_wp2_with fail
  go_loopw [2] (fun q wx => ∃ k : Nat, k ≤ Y.length ∧ q = .int .i64 k ∧ wx.ownsRow lo 153 3 (.slice (some ⟨g, 0, none⟩) (Y.length + 2) c) (Y.length + 2) (opRow Y ++ patMarks) ∧ (∀ y ∈ Y, ∃ q cs, y.2 = .slice (some ⟨q, 0, none⟩) y.1.d.length (y.1.d.length + 2) ∧ lo ≤ q ∧ q < hi ∧ At wx q cs 5 ∧ cs.size = y.1.d.length + 2) ∧ Chg (fun k => lo ≤ k ∧ k < hi) w wx) (fun q _ => Y.length - (intOf q).toNat)
  case atStart =>
    refine ⟨0, by omega, rfl, HL.out.row, fun y hy => ?_, Chg.refl _ _⟩
    obtain ⟨q, hq, e, ha⟩ := HL.out.dat y hy
    exact ⟨q, _, e, hq, HDI.out y hy q (by rw [e]; rfl), ha, lentCells_size _⟩
  case round =>
    obtain ⟨k, hk, rfl, hrow, hdat, hch⟩ := hrel
    have HROW := Lib.hid hrow
    have HDAT := Lib.hid hdat
    have HCH := Lib.hid hch
    clear hdat hch HL
    by_cases hk2 : k < Y.length
    · skip
      · skip
        have K1 : Hid (k + 1 ≤ Y.length) := hk2
        obtain ⟨q, cs, e, hq1, hq2, hat, hcs⟩ := HDAT.out _ (List.getElem_mem hk2)
        have hlen := HDL.out _ (List.getElem_mem hk2)
        have e1 := hrow.cells (g := g) rfl (k * 3 + 2) (Y[k]'hk2).2 (by rw [List.getElem?_append_left (by rw [opRow_len]; omega), opRow_at Y k 2 hk2 (by omega)]; rfl)
        rw [Go.WideShapes.add_plain, Nat.zero_add, e] at e1
        have HSB := Lib.hid (spoil_bytes q (Y[k]'hk2).1.d.length ((Y[k]'hk2).1.d.length + 2) cs wr (by omega) (by omega) hat hcs)
        have hgq : g ≠ q := fun e => by
          subst e
          have h1 := (own_at hrow).2.2.2
          obtain ⟨cur, h2, -⟩ := h1
          unfold At at h2 hat
          rw [h2] at hat
          simp only [Option.some.injEq, Obj.cells.injEq] at hat
          exact absurd hat.2.1 (by decide)
        have HATQ := Lib.hid hat
        have HCSQ := Lib.hid hcs
        clear hrow e hat hcs
        generalize (Y[k]'hk2).1.d.length = n at *
        go_wp2_with (first
          | (go_at_call 92; (with_reducible refine HSB.out.mono ?_); rintro e w2 ⟨rfl, hc2, cs2, ha2, hs2⟩))
        go_roundw
        case measure => simp [intOf]; omega
        refine ⟨k + 1, K1.out, by go_num, ownsRow_mod HROW.out hc2 (fun z hz e => hgq (by simpa [Value.ownBlock, e] using hz)), fun y hy => ?_, HCH.out.trans (hc2.mono fun z hz => by subst hz; exact ⟨hq1, hq2⟩)⟩
        obtain ⟨q', cs', e', h1, h2, h3, h4⟩ := HDAT.out y hy
        by_cases hqq : q' = q
        · subst hqq
          have h5 := (at_one h3 HATQ.out).1
          exact ⟨q', cs2, e', h1, h2, ha2, by rw [hs2, ← h4, h5, HCSQ.out]⟩
        · exact ⟨q', cs', e', h1, h2, h3.mod hc2 hqq, h4⟩
    · skip
      · skip
        obtain rfl : k = Y.length := by omega
        obtain ⟨-, -, -, cur, hcur, hcs, -⟩ := own_at hrow
        have HCUR := Lib.hid hcur
        have HCS := Lib.hid hcs
        clear hrow hcur hcs HROW HDAT
        go_wp2_with fail
        go_loopw [4] (fun q wx => ∃ (k : Nat) (cs : Array Value), k ≤ c ∧ q = .int .i64 k ∧ At wx g cs 153 ∧ cs.size = c * 3 ∧ Chg (fun k => lo ≤ k ∧ k < hi) w wx) (fun q _ => c - (intOf q).toNat)
        case atStart => exact ⟨0, cur, by omega, rfl, HCUR.out, HCS.out, HCH.out⟩
        case round =>
          obtain ⟨k, cs, hk3, rfl, hat, hcs, hch2⟩ := hrel
          have HAT := Lib.hid hat
          have HCS2 := Lib.hid hcs
          have HCH2 := Lib.hid hch2
          clear hcs hch2 HCUR HCS HCH
          by_cases hkc : k < c
          · have K1 : Hid (k + 1 ≤ c) := hkc
            have hthere : wr.there g (k * 3) 3 := fun j hj => by
              have hz := HCS2.out
              exact ⟨by rw [hat.cell, Array.getElem?_eq_getElem (by omega)]; rfl, hat.free _⟩
            have HTH := Lib.hid hthere
            clear hthere hat
            go_wp2_with (refine wpList_store_mid rfl 153 _ _ rfl g (k * 3) #[.int .i64 (-77), .int .i64 0, .slice none 0 0] rfl rfl HTH.out (by kernel_rfl) patc_one ?_)
            go_roundw
            case measure => simp [intOf]; omega
            exact ⟨k + 1, _, K1.out, by go_num, ((HAT.out.set (k * 3) (.int .i64 (-77))).set (k * 3 + 1) (.int .i64 0)).set (k * 3 + 2) (.slice none 0 0), by simp [HCS2.out], HCH2.out.trans (Chg.setCell (S := fun z => lo ≤ z ∧ z < hi) (Chg.setCell (S := fun z => lo ≤ z ∧ z < hi) (Chg.setCell (S := fun z => lo ≤ z ∧ z < hi) (Chg.refl _ _) ⟨g, k * 3, none⟩ (.inl ⟨hlo, hgi⟩) _) ⟨g, k * 3 + 1, none⟩ (.inl ⟨hlo, hgi⟩) _) ⟨g, k * 3 + 2, none⟩ (.inl ⟨hlo, hgi⟩) _)⟩
          · go_wp2_with fail
            go_end0
            exact ⟨rfl, HCH2.out⟩

end Go.Proofs.YtpegbgomnpinfaaGreat
