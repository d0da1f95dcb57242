/- PlanWorks: the walk of what is not too much. -/
import Derived.Test.YtpegbgomnpinfaaGreatMrg19
import Derived.Test.YtpegbgomnpinfaaGreatPlyR
set_option linter.unusedVariables false
namespace Go.Proofs.YtpegbgomnpinfaaGreat
open Go.RowKit

theorem LRows.mod {S : Nat → Prop} {w w' : World} {lo : Nat} {v k1 k2 : Value} {Y : List OB} (h : LRows w lo v Y k1 k2) (hc : Chg S w w') (hS : ∀ k, lo ≤ k → ¬ S k) : LRows w' lo v Y k1 k2 :=
  ⟨ownsRow_mod h.row hc (fun g hg => hS g (h.row.lt g hg).1), fun x hx => (h.dat x hx).mod hc (fun g hg => by
    obtain ⟨g', hlo, e, -⟩ := h.dat x hx
    rw [e] at hg
    simp only [Value.ownBlock, Option.some.injEq] at hg
    exact hg ▸ hS g' hlo), h.m1.mod hc (fun g hg => by
    obtain ⟨g', hlo, e, -⟩ := h.m1
    rw [e] at hg
    simp only [Value.ownBlock, Option.some.injEq] at hg
    exact hg ▸ hS g' hlo), h.m2.mod hc (fun g hg => by
    obtain ⟨g', hlo, e, -⟩ := h.m2
    rw [e] at hg
    simp only [Value.ownBlock, Option.some.injEq] at hg
    exact hg ▸ hS g' hlo)⟩
/-- What lent rows give. -/
structure LentUseR (W : World) (lo hi : Nat) (ls : List (List UInt8)) (g c : Nat) : Prop where
  segs : Segs W (.slice (some ⟨g, 0, none⟩) ls.length c) ls
  whole : ∀ vrd, Segs W vrd ls → Calls Tryz.prog 36 #[.slice (some ⟨g, 0, none⟩) ls.length c, vrd] W fun e w' => e = .returned (.bool true) ∧ Below W.heap.size W w'
  spoil : Calls Tryz.prog 38 #[.slice (some ⟨g, 0, none⟩) ls.length c] W fun e w' => e = .returned (.tuple #[]) ∧ Chg (fun k => lo ≤ k ∧ k < hi) W w'
theorem lent_useR {w5 : World} {lo : Nat} {ls : List (List UInt8)} {g c : Nat} {k1 k2 : Value} {Y : List OB} (hY : Y.map (·.2) = ls) (h5 : LRows w5 lo (.slice (some ⟨g, 0, none⟩) (Y.length + 2) c) Y k1 k2) (hn : ls.length ≤ 300000) (hl : ∀ l ∈ ls, l.length ≤ 300000)
    (W : World) (hW : LRows W lo (.slice (some ⟨g, 0, none⟩) (Y.length + 2) c) Y k1 k2) (hs : w5.heap.size ≤ W.heap.size) : LentUseR W lo w5.heap.size ls g c := by
  have hyl : Y.length = ls.length := by rw [← hY, List.length_map]
  have hy2 : ∀ y ∈ Y, y.2.length ≤ 300000 := fun y hy => hl _ (by rw [← hY]; exact List.mem_map_of_mem hy)
  have hsg := hW.segs
  rw [hY, hyl] at hsg
  refine ⟨hsg, fun vrd hv => ?_, ?_⟩
  · have h := whole_rows lo g c vrd k1 k2 Y W hW (by rw [hY]; exact hv) (by omega) hy2
    rw [hyl] at h
    exact h
  · have h := spoil_rows lo w5.heap.size g c k1 k2 Y W hW (by omega) hy2 h5.lt (fun y hy q hq => by
      obtain ⟨g', -, e, ha⟩ := h5.dat y hy
      rw [e] at hq
      simp only [Value.ownBlock, Option.some.injEq] at hq
      exact hq ▸ ha.lt) hs
    rw [hyl] at h
    exact h
theorem TRow.bks {W W' : World} {K : Nat} {v : Value} {X : List OP} (h : TRow W v X) (hc : Chg (BkS W K) W W') : TRow W' v X :=
  h.mod hc (bks_off h.row (by decide) (by decide) (by decide) (by decide)) (fun x hx => bks_off (h.dat x hx) (by decide) (by decide) (by decide) (by decide))
theorem bk_low {W : World} {K : Nat} {bs is ps : List Value} (h : Bk W K bs is ps) : ∀ y, y ∈ bs ∨ y ∈ ps → ∀ g, y.ownBlock = some g → g < W.heap.size := fun y hy g hg => by
  obtain ⟨vb, vi, vp, hA⟩ := h
  rcases hy with hy | hy
  · obtain ⟨xs, h1, -⟩ := hA.beach y hy
    exact (h1.lt g hg).2
  · obtain ⟨xs, h1, -⟩ := hA.peach y hy
    exact (h1.lt g hg).2

/-- A plan among those that are tried. -/
structure PlanIn (w2 : World) (gp k : Nat) (r md par : Int) (vq vr : Value) (pp : List Pat) (zz : List Int) : Prop where
  np : pp.length ≤ 300000
  lp : ∀ u ∈ pp, u.d.length ≤ 300000
  nz : zz.length ≤ 1000
  seg : PSeg w2 vq pp
  zseg : ZSeg w2 vr zz
  lt : gp < w2.heap.size
  c0 : w2.cell? ⟨gp, k * 5, none⟩ = some (.int .i64 r)
  c1 : w2.cell? ⟨gp, k * 5 + 1, none⟩ = some (.int .u8 md)
  c2 : w2.cell? ⟨gp, k * 5 + 2, none⟩ = some (.int .i64 par)
  c3 : w2.cell? ⟨gp, k * 5 + 3, none⟩ = some vq
  c4 : w2.cell? ⟨gp, k * 5 + 4, none⟩ = some vr
theorem PlanIn.cells {w2 W : World} {gp k : Nat} {r md par : Int} {vq vr : Value} {pp : List Pat} {zz : List Int} (h : PlanIn w2 gp k r md par vq vr pp zz) (hb : Below w2.heap.size w2 W) :
    W.cell? ⟨gp, k * 5, none⟩ = some (.int .i64 r) ∧ W.cell? ⟨gp, k * 5 + 1, none⟩ = some (.int .u8 md) ∧ W.cell? ⟨gp, k * 5 + 2, none⟩ = some (.int .i64 par) ∧ W.cell? ⟨gp, k * 5 + 3, none⟩ = some vq ∧ W.cell? ⟨gp, k * 5 + 4, none⟩ = some vr :=
  ⟨(hb.cell (p := ⟨gp, k * 5, none⟩) h.lt).trans h.c0, (hb.cell (p := ⟨gp, k * 5 + 1, none⟩) h.lt).trans h.c1, (hb.cell (p := ⟨gp, k * 5 + 2, none⟩) h.lt).trans h.c2, (hb.cell (p := ⟨gp, k * 5 + 3, none⟩) h.lt).trans h.c3, (hb.cell (p := ⟨gp, k * 5 + 4, none⟩) h.lt).trans h.c4⟩

set_option maxRecDepth 100000 in
set_option maxHeartbeats 16000000 in
theorem works_all (m c s mem : Int) (br bmd bpar : Int) (vd vp bvq bvr vrd : Value) (l : List Bool) (ps bps : List Pat) (bzl : List Int) (ls : List (List UInt8)) (w : World) (hd : BooSeg w vd l) (hp : PSeg w vp ps) (hbq : PSeg w bvq bps) (hbz : ZSeg w bvr bzl) (hls : Segs w vrd ls) (hlf : ls.length ≤ 140737488351232) (hlf2 : ∀ l ∈ ls, l.length ≤ 140737488351232)
    (hknown : ∀ W, Calls Tryz.prog 28 #[] W fun e w' => e = .returned (.bool true) ∧ Below W.heap.size W w')
    (hm1 : muchIs (ps.map (·.d.length)) = false) (hm2 : muchIs (bps.map (·.d.length)) = false) (hm3 : muchIs (ls.map List.length) = false) (hl1 : l.length ≤ 1000) (hl2 : bzl.length ≤ 1000) :
    Calls Tryz.prog 5 #[geo m c s, vd, vp, planVal br bmd bpar bvq bvr, vrd, .int .i64 mem] w fun e w' => e = .returned (.bool true) ∧ Below w.heap.size w w' := by
  obtain ⟨r1, md1, par1, qs1, zl1, cd1, ⟨hq1, hq2, hq3⟩, hof⟩ := ref_Of_any m c s l ps
  have hmp1 : Hid (∀ W, Below w.heap.size w W → _) := fun W hW => much_pats vp ps W (hp.below hW)
  have hmp2 : Hid (∀ W, Below w.heap.size w W → _) := fun W hW => much_pats bvq bps W (hbq.below hW)
  have hmr : Hid (∀ W, Below w.heap.size w W → _) := fun W hW => much_rows vrd ls W (hls.below hW) hlf hlf2
  rw [hm1] at hmp1
  rw [hm2] at hmp2
  rw [hm3] at hmr
  obtain ⟨hbn, hbl0⟩ := much_few hm2
  rw [List.length_map] at hbn
  have hbl : ∀ u ∈ bps, u.d.length ≤ 300000 := fun u hu => hbl0 _ (List.mem_map_of_mem hu)
  obtain ⟨hrn, hrl0⟩ := much_few hm3
  rw [List.length_map] at hrn
  have hrl : ∀ l ∈ ls, l.length ≤ 300000 := fun l hl => hrl0 _ (List.mem_map_of_mem hl)
  have HRL := Lib.hid hrl
  obtain ⟨w0, hw0⟩ : ∃ w0, w0 = (w.alloc (.cells #[.int .i64 m, .int .i64 c, .int .i64 s] 23)).alloc (.cells #[.int .i64 br, .int .u8 bmd, .int .i64 bpar, bvq, bvr] 75) := ⟨_, rfl⟩
  have HB0 : Hid (Below w.heap.size w w0) := by rw [hw0]; exact ((Below.refl _ _).alloc (Nat.le_refl _) _).alloc (by rw [size_alloc]; omega) _
  have HG0 : Hid (At w0 w.heap.size #[.int .i64 m, .int .i64 c, .int .i64 s] 23) := by rw [hw0]; exact (At.new _ _ _).alloc _
  have HP0 : Hid (At w0 (w.heap.size + 1) #[.int .i64 br, .int .u8 bmd, .int .i64 bpar, bvq, bvr] 75) := by rw [hw0]; exact At.new2 _ _ _ _
  have HOF : Hid (∀ W, Below w.heap.size w W → _) := fun W hW => hof vd vp W (hd.below hW) (hp.below hW)
  have HD := Lib.hid hd
  have HBQ := Lib.hid hbq
  have HBZ := Lib.hid hbz
  have HLS := Lib.hid hls
  have HKN := Lib.hid hknown
  have HBPL : Hid (bps.length ≤ 300000 ∧ (∀ u ∈ bps, u.d.length ≤ 300000) ∧ bzl.length ≤ 1000) := ⟨hbn, hbl, hl2⟩
  have HQ1 : Hid (qs1.length ≤ 300000 ∧ (∀ u ∈ qs1, u.d.length ≤ 300000) ∧ zl1.length ≤ 1000) := ⟨by omega, hq2, by omega⟩
  have hlong : decide ((1000 : Int) < (l.length : Int)) = false := decide_eq_false (by omega)
  have hlong2 : decide ((1000 : Int) < (bzl.length : Int)) = false := decide_eq_false (by omega)
  have hshq := hbq.shape
  have hshz := hbz.shape
  obtain ⟨pa, pc, rfl⟩ := hp.shape
  obtain ⟨da, dc, rfl⟩ := hd.shape
  obtain ⟨sa, sc, rfl⟩ := hls.shape
  obtain ⟨bqa, bqc, rfl⟩ := hshq
  obtain ⟨bra, brc, rfl⟩ := hshz
  clear hd hp hbq hbz hls hm1 hm2 hm3 hknown hof hq1 hq2 hq3 hbl hbl0 hrl hrl0 hlf hlf2
  unfold geo planVal at *
  go_enter Tryz.func5, Tryz.ntmps5
  go_upto_region 1 with fail
  rw [← hw0]
  clear hw0
  have x0 := HP0.out.cell 0
  have x1 := HP0.out.cell 1
  have x2 := HP0.out.cell 2
  have x3 := HP0.out.cell 3
  have x4 := HP0.out.cell 4
  go_upto_region 3 with (first
    | (go_at_call 19; (with_reducible refine (hmp1.out _ HB0.out).mono ?_); rintro e w1 ⟨rfl, hw⟩; obtain rfl : w0 = w1 := hw.symm)
    | (go_at_call 19; (with_reducible refine (hmp2.out _ HB0.out).mono ?_); rintro e w1 ⟨rfl, hw⟩; obtain rfl : w0 = w1 := hw.symm)
    | (go_at_call 30; (with_reducible refine (hmr.out _ HB0.out).mono ?_); rintro e w1 ⟨rfl, hw⟩; obtain rfl : w0 = w1 := hw.symm))
  have c0 := HG0.out.cell 0
  have c1 := HG0.out.cell 1
  have c2 := HG0.out.cell 2
  go_upto_region 4 with (first
    | (go_at_call 26; (with_reducible refine (HOF.out _ HB0.out).mono ?_); rintro e w1 ⟨⟨vq1, vr1, rfl, hx1, hz1⟩, hb1⟩; have HW1 := Lib.hid hb1; obtain ⟨qa1, qc1, rfl⟩ := hx1.shape; obtain ⟨ra1, rc1, rfl⟩ := hz1.shape; have HX1 := Lib.hid hx1; have HZ1 := Lib.hid hz1; clear hx1 hz1 hb1 c0 c1 c2 x0 x1 x2 x3 x4))
  obtain ⟨w1b, hw1b⟩ : ∃ w1b, w1b = w1.alloc (.cells #[.int .i64 r1, .int .u8 md1, .int .i64 par1, .slice qa1 qs1.length qc1, .slice ra1 zl1.length rc1] 75) := ⟨_, rfl⟩
  have HPA1 : Hid (At w1b w1.heap.size #[.int .i64 r1, .int .u8 md1, .int .i64 par1, .slice qa1 qs1.length qc1, .slice ra1 zl1.length rc1] 75) := by rw [hw1b]; exact At.new _ _ _
  have HW1b : Hid (Below w0.heap.size w0 w1b) := by rw [hw1b]; exact HW1.out.alloc HW1.out.size _
  have HX1b : Hid (PSeg w1b (.slice qa1 qs1.length qc1) qs1) := by rw [hw1b]; exact HX1.out.below ((Below.refl _ _).alloc (Nat.le_refl _) _)
  have HZ1b : Hid (ZSeg w1b (.slice ra1 zl1.length rc1) zl1) := by rw [hw1b]; exact HZ1.out.below ((Below.refl _ _).alloc (Nat.le_refl _) _)
  rw [← hw1b]
  clear hw1b
  generalize w1.heap.size = g1 at *
  clear HX1 HZ1 HW1 HOF hmp1 hmp2 hmr
  have HB1 := Lib.hid (below_then HB0.out HW1b.out)
  have HP1 := Lib.hid (HP0.out.below HW1b.out HP0.out.lt)
  have HG1 := Lib.hid (HG0.out.below HW1b.out HG0.out.lt)
  clear HP0 HG0 HB0 HW1b
  have y0 := HPA1.out.cell 0
  have y1 := HPA1.out.cell 1
  have y2 := HPA1.out.cell 2
  have y3 := HPA1.out.cell 3
  have y4 := HPA1.out.cell 4
  have x0 := HP1.out.cell 0
  have x1 := HP1.out.cell 1
  have x2 := HP1.out.cell 2
  have x3 := HP1.out.cell 3
  have x4 := HP1.out.cell 4
  go_upto_region 5 with fail
  obtain ⟨w2, hw2⟩ : ∃ w2, w2 = w1b.alloc (.cells #[.int .i64 r1, .int .u8 md1, .int .i64 par1, .slice qa1 qs1.length qc1, .slice ra1 zl1.length rc1, .int .i64 br, .int .u8 bmd, .int .i64 bpar, .slice bqa bps.length bqc, .slice bra bzl.length brc] 75) := ⟨_, rfl⟩
  have HW2 : Hid (Below w1b.heap.size w1b w2) := by rw [hw2]; exact (Below.refl _ _).alloc (Nat.le_refl _) _
  have HA2 : Hid (At w2 w1b.heap.size #[.int .i64 r1, .int .u8 md1, .int .i64 par1, .slice qa1 qs1.length qc1, .slice ra1 zl1.length rc1, .int .i64 br, .int .u8 bmd, .int .i64 bpar, .slice bqa bps.length bqc, .slice bra bzl.length brc] 75) := by rw [hw2]; exact At.new _ _ _
  rw [← hw2]
  clear hw2 x0 x1 x2 x3 x4 y0 y1 y2 y3 y4
  have HPL : Hid (∀ k, k < 2 → ∃ r md par vq vr pp zz, PlanIn w2 w1b.heap.size k r md par vq vr pp zz) := fun k hk => by
    have hq1 := HQ1.out
    have hbp := HBPL.out
    match k, hk with
    | 0, _ => exact ⟨_, _, _, _, _, qs1, zl1, hq1.1, hq1.2.1, hq1.2.2, HX1b.out.below HW2.out, HZ1b.out.below HW2.out, HA2.out.lt, HA2.out.cell 0, HA2.out.cell 1, HA2.out.cell 2, HA2.out.cell 3, HA2.out.cell 4⟩
    | 1, _ => exact ⟨_, _, _, _, _, bps, bzl, hbp.1, hbp.2.1, hbp.2.2, (HBQ.out.below HB1.out).below HW2.out, (HBZ.out.below HB1.out).below HW2.out, HA2.out.lt, HA2.out.cell 5, HA2.out.cell 6, HA2.out.cell 7, HA2.out.cell 8, HA2.out.cell 9⟩
  have HB2 := Lib.hid (below_then HB1.out HW2.out)
  have HG2 := Lib.hid (HG1.out.below HW2.out HG1.out.lt)
  generalize w1b.heap.size = gp at *
  have hwl : w.heap.size < w2.heap.size := HG2.out.lt
  clear HQ1 HBPL HX1b HZ1b HW2 HA2 HBQ HBZ HB1 HG1 HP1 HPA1 hlong hlong2 hbn hl2
  go_upto_region 6 with fail
  obtain ⟨w3, hw3⟩ : ∃ w3, w3 = w2.alloc (.cells (bookC (.slice none 0 0) (.slice none 0 0) (.slice none 0 0)) 51) := ⟨_, rfl⟩
  have HBK3 : Hid (Bk w3 w2.heap.size [] [] []) := by
    rw [hw3]
    exact ⟨_, _, _, At.new _ _ _, World.ownsRow_nil _ _ _ _, World.ownsRow_nil _ _ _ _, World.ownsRow_nil _ _ _ _, fun x hx => (by cases hx), fun x hx => (by cases hx), fun x hx => (by cases hx), List.Pairwise.nil, List.Pairwise.nil, List.Pairwise.nil⟩
  have HK3 : Hid (Below w2.heap.size w2 w3) := by rw [hw3]; exact (Below.refl _ _).alloc (Nat.le_refl _) _
  have hkk : w3 = w2.alloc (.cells #[.slice none 0 0, .slice none 0 0, .slice none 0 0, .slice none 0 0, .slice none 0 0, .slice none 0 0, .slice none 0 0, .slice none 0 0, .slice none 0 0, .slice none 0 0, .slice none 0 0, .slice none 0 0] 51) := hw3
  rw [← hkk]
  clear hkk hw3
  go_wp2_with fail
  go_loopw [17] (fun q wx => ∃ (k : Nat) (bs pss : List Value), k ≤ 2 ∧ q = .int .i64 k ∧ Bk wx w2.heap.size bs [] pss ∧ bs.length ≤ 2000 * k ∧ pss.length ≤ k ∧ (∀ y, y ∈ bs ∨ y ∈ pss → ∀ g, y.ownBlock = some g → w.heap.size ≤ g) ∧ Below w2.heap.size w2 wx) (fun q _ => 2 - (intOf q).toNat)
  case atStart => exact ⟨0, [], [], by omega, rfl, HBK3.out, by simp, by simp, (fun y hy => by rcases hy with h | h <;> cases h), HK3.out⟩
  case round =>
    obtain ⟨k, bs, pss, hk, rfl, hbk, hbn, hpn, hown, hlow⟩ := hrel
    have HBK := Lib.hid hbk
    have HOW := Lib.hid hown
    have HLO := Lib.hid hlow
    clear hbk hown hlow HBK3 HK3
    by_cases hk2 : k < 2
    · have K1 : Hid (k + 1 ≤ 2) := hk2
      obtain ⟨r, md, par, vq, vr, pp, zz, hpi⟩ := HPL.out k hk2
      obtain ⟨qa, qc, rfl⟩ := hpi.seg.shape
      obtain ⟨ra, rc, rfl⟩ := hpi.zseg.shape
      have hnz : zz.length ≤ 1000000 := by have := hpi.nz; omega
      obtain ⟨cdw, qs, hwa⟩ := work_ans m c s r md par l pp zz ls hpi.np hnz hrn HRL.out
      obtain ⟨cds, out, hsa⟩ := solve_ans m c s r mem ls hrn HRL.out
      have HPI := Lib.hid hpi
      have HWA := Lib.hid hwa
      have HSA := Lib.hid hsa
      have hq1000 : qs.length ≤ 1000 := hwa.few
      have ho128 : out.length ≤ 128 := hsa.few
      have hcw : cdw ≤ 200 := hwa.code
      have hcs : cds ≤ 200 := hsa.code
      have HLP := Lib.hid (lent_plan r md par _ _ pp zz wr (hpi.seg.below HLO.out) (hpi.zseg.below HLO.out) hpi.np hpi.lp hnz)
      obtain ⟨x0, x1, x2, x3, x4⟩ := hpi.cells HLO.out
      clear hpi hwa hsa
      have HNZ := Lib.hid hnz
      unfold planVal at HLP
      go_upto_region 10 with (first
        | (go_at_call 31; (with_reducible refine HLP.out.mono ?_); rintro e w4 ⟨⟨g, gc, Y, g2, rfl, hY, hL, hg2, hz⟩, hb4⟩; have HLU := Lib.hid (lent_usePl (r := r) (md := md) (par := par) hY hL hg2 hz HPI.out.np HPI.out.lp HNZ.out); have HS4 := Lib.hid hb4; clear hY hL hg2 hz hb4 x0 x1 x2 x3 x4))
      obtain ⟨w4b, hw4b⟩ : ∃ w4b, w4b = w4.alloc (.cells #[.int .i64 r, .int .u8 md, .int .i64 par, .slice (some ⟨g, 0, none⟩) pp.length gc, .slice (some ⟨g2, 0, none⟩) zz.length (zz.length + 2)] 75) := ⟨_, rfl⟩
      have HBX : Hid (At w4b w4.heap.size #[.int .i64 r, .int .u8 md, .int .i64 par, .slice (some ⟨g, 0, none⟩) pp.length gc, .slice (some ⟨g2, 0, none⟩) zz.length (zz.length + 2)] 75) := by rw [hw4b]; exact At.new _ _ _
      have HU4 : Hid (Below w4.heap.size w4 w4b) := by rw [hw4b]; exact (Below.refl _ _).alloc (Nat.le_refl _) _
      rw [← hw4b]
      clear hw4b
      have HR4 : Hid (Below wr.heap.size wr w4b) := below_then HS4.out HU4.out
      have hz0 : w2.heap.size ≤ wr.heap.size := HLO.out.size
      have hz1 : wr.heap.size ≤ w4.heap.size := HS4.out.size
      have hz2 : w4.heap.size < w4b.heap.size := HBX.out.lt
      have HLR := Lib.hid (lent_rows (.slice sa ls.length sc) ls w4b (HLS.out.below (below_then (below_then HB2.out HLO.out) HR4.out)) hrn HRL.out)
      go_upto_region 11 with (first
        | (go_at_call 32; (with_reducible refine HLR.out.mono ?_); rintro e w5 ⟨⟨gr, gc5, Y, k1, k2, rfl, hY, hL⟩, hb5⟩; have HY := Lib.hid hY; have HL5 := Lib.hid hL; have HS5 := Lib.hid hb5; clear hY hL hb5))
      have hz3 : w4b.heap.size ≤ w5.heap.size := HS5.out.size
      have HR5 := Lib.hid (below_then HR4.out HS5.out)
      have HLB := Lib.hid (lent_bools (.slice da l.length dc) l w5 (by omega) (HD.out.below (below_then (below_then HB2.out HLO.out) HR5.out)))
      go_upto_region 12 with (first
        | (go_at_call 21; (with_reducible refine HLB.out.mono ?_); rintro e w6 ⟨rfl, hat6, hb6⟩; have HS6 := Lib.hid hb6; have HBO6 : Hid (LentB w6 w5.heap.size (.slice (some ⟨w5.heap.size, 0, none⟩) l.length (l.length + 2)) l) := ⟨w5.heap.size, Nat.le_refl _, rfl, hat6⟩; clear hat6 hb6))
      have hz4 : w5.heap.size ≤ w6.heap.size := HS6.out.size
      have HR6 := Lib.hid (below_then HR5.out HS6.out)
      have H46 := Lib.hid (below_then HS5.out HS6.out)
      have HL6 := Lib.hid (HL5.out.below HS6.out)
      have HUR6 := Lib.hid (lent_useR HY.out HL5.out hrn HRL.out w6 HL6.out hz4)
      have HCW := Lib.hid (HWA.out.prog _ _ _ _ w6 HBO6.out.seg (HLU.out.seg.below (below_then HU4.out H46.out)) (HLU.out.zseg.below (below_then HU4.out H46.out)) HUR6.out.segs)
      have HG6 := Lib.hid (HG2.out.below (HLO.out.trans (HR6.out.mono hz0)) HG2.out.lt)
      have c0 := HG6.out.cell 0
      have c1 := HG6.out.cell 1
      have c2 := HG6.out.cell 2
      have HX6 := Lib.hid (HBX.out.below H46.out HBX.out.lt)
      have x0 := HX6.out.cell 0
      have x1 := HX6.out.cell 1
      have x2 := HX6.out.cell 2
      have x3 := HX6.out.cell 3
      have x4 := HX6.out.cell 4
      unfold planVal geo at HCW
      go_upto_region 13 with (first
        | (go_at_call 33; (with_reducible refine HCW.out.mono ?_); rintro e w7 ⟨⟨va, Xa, rfl, hxa, hma⟩, hb7⟩; obtain ⟨aa, ac, rfl⟩ := ownsRow_shape hxa.row; have HXA := Lib.hid hxa; have HMA := Lib.hid hma; have HS7 := Lib.hid hb7; clear hxa hma hb7 c0 c1 c2 x0 x1 x2 x3 x4))
      have hz5 : w6.heap.size ≤ w7.heap.size := HS7.out.size
      have HR7 := Lib.hid (below_then HR6.out HS7.out)
      have H47 := Lib.hid (below_then H46.out HS7.out)
      have HL7 := Lib.hid (HL6.out.below HS7.out)
      clear HCW HX6 HG6 HUR6 HLB HLR HLP
      have HXL : Hid (∀ x ∈ Xa, ∀ q, x.2.ownBlock = some q → w6.heap.size ≤ q ∧ q < w7.heap.size) := fun x hx q hq => (HXA.out.dat x hx).lt q hq
      have HXV : Hid (∀ q, (Value.slice aa Xa.length ac).ownBlock = some q → w6.heap.size ≤ q) := fun q hq => (HXA.out.row.lt q hq).1
      have HAL := Lib.hid (show Xa.length = qs.length by rw [← HMA.out, List.length_map])
      have HUR7 := Lib.hid (lent_useR HY.out HL5.out hrn HRL.out w7.drew (HL7.out.below (Below.refl _ _).drew) (by show _ ≤ w7.heap.size; omega))
      have HCS := Lib.hid (HSA.out.prog _ w7.drew HUR7.out.segs)
      unfold geo at HCS
      have HCE : Hid (∀ W, Below w2.heap.size w2 W → W.cell? ⟨w.heap.size, 0, none⟩ = some (.int .i64 m) ∧ W.cell? ⟨w.heap.size, 1, none⟩ = some (.int .i64 c) ∧ W.cell? ⟨w.heap.size, 2, none⟩ = some (.int .i64 s)) := fun W hW =>
        ⟨(HG2.out.below hW HG2.out.lt).cell 0, (HG2.out.below hW HG2.out.lt).cell 1, (HG2.out.below hW HG2.out.lt).cell 2⟩
      have HK13 : Hid (∀ W, Below w2.heap.size w2 W → W.cell? ⟨w.heap.size, 0, none⟩ = some (.int .i64 m) ∧ W.cell? ⟨w.heap.size, 1, none⟩ = some (.int .i64 c) ∧ W.cell? ⟨w.heap.size, 2, none⟩ = some (.int .i64 s) ∧ W.cell? ⟨gp, k * 5, none⟩ = some (.int .i64 r)) := fun W hW =>
        ⟨(HCE.out W hW).1, (HCE.out W hW).2.1, (HCE.out W hW).2.2, (HPI.out.cells hW).1⟩
      have HT7 : Hid (Below w2.heap.size w2 w7) := HLO.out.trans (HR7.out.mono hz0)
      have HT7d : Hid (Below w2.heap.size w2 w7.drew) := HT7.out.drew
      go_region_held3 (fun w' => w'.cell? ⟨w.heap.size, 0, none⟩ = some (.int .i64 m) ∧ w'.cell? ⟨w.heap.size, 1, none⟩ = some (.int .i64 c) ∧ w'.cell? ⟨w.heap.size, 2, none⟩ = some (.int .i64 s) ∧ w'.cell? ⟨gp, k * 5, none⟩ = some (.int .i64 r))
        (first | with_reducible exact HK13.out _ HT7.out | with_reducible exact HK13.out _ HT7d.out | with_reducible exact HK13.out _ HT8.out)
        (first
          | (go_at_call 34; (with_reducible refine HCS.out.mono ?_); rintro e w8 ⟨⟨ve, rfl, hxe⟩, hb8⟩; obtain ⟨ea, ec, rfl⟩ := ownsRow_shape hxe; have HXE : Hid (w8.ownsRow w7.heap.size 5 1 (.slice ea out.length ec) out.length (ucells out)) := hxe; have HS8 : Hid (Below w7.heap.size w7 w8) := below_then (Below.refl _ _).drew hb8; have HT8 : Hid (Below w2.heap.size w2 w8) := HT7.out.trans (HS8.out.mono HT7.out.size); clear hxe hb8))
      go_upto_region 14 with fail
      have hz6 : w7.heap.size ≤ w8.heap.size := HS8.out.size
      have HR8 := Lib.hid (below_then HR7.out HS8.out)
      have H48 := Lib.hid (below_then H47.out HS8.out)
      have HL8 := Lib.hid (HL7.out.below HS8.out)
      have H68 := Lib.hid (below_then HS7.out HS8.out)
      have HT8d : Hid (Below w2.heap.size w2 w8.drew) := HT8.out.drew
      have HC9 := Lib.hid (HLU.out.whole w8.drew _ _ (below_then (below_then HU4.out H48.out) (Below.refl _ _).drew) (HPI.out.seg.below HT8d.out) (HPI.out.zseg.below HT8d.out))
      unfold planVal at HC9
      have HC10 : Hid (∀ W, Below w8.heap.size w8 W → Calls Tryz.prog 36 #[.slice (some ⟨gr, 0, none⟩) ls.length gc5, .slice sa ls.length sc] W _) := fun W hW => (lent_useR HY.out HL5.out hrn HRL.out W (HL8.out.below hW) (by have := hW.size; omega)).whole _ (HLS.out.below (below_then HB2.out (HT8.out.trans (hW.mono HT8.out.size))))
      have HC11 : Hid (∀ W, Below w8.heap.size w8 W → Calls Tryz.prog 24 #[.slice (some ⟨w5.heap.size, 0, none⟩) l.length (l.length + 2), .slice da l.length dc] W _) := fun W hW => whole_bools _ _ _ l W (by omega) (HBO6.out.below (below_then H68.out hW)) (HD.out.below (below_then HB2.out (HT8.out.trans (hW.mono HT8.out.size))))
      have HK14 : Hid (∀ W, Below w8.heap.size w8 W → W.cell? ⟨w4.heap.size, 0, none⟩ = some (.int .i64 r) ∧ W.cell? ⟨w4.heap.size, 1, none⟩ = some (.int .u8 md) ∧ W.cell? ⟨w4.heap.size, 2, none⟩ = some (.int .i64 par) ∧ W.cell? ⟨w4.heap.size, 3, none⟩ = some (.slice (some ⟨g, 0, none⟩) pp.length gc) ∧ W.cell? ⟨w4.heap.size, 4, none⟩ = some (.slice (some ⟨g2, 0, none⟩) zz.length (zz.length + 2)) ∧ W.cell? ⟨gp, k * 5, none⟩ = some (.int .i64 r) ∧ W.cell? ⟨gp, k * 5 + 1, none⟩ = some (.int .u8 md) ∧ W.cell? ⟨gp, k * 5 + 2, none⟩ = some (.int .i64 par) ∧ W.cell? ⟨gp, k * 5 + 3, none⟩ = some (.slice qa pp.length qc) ∧ W.cell? ⟨gp, k * 5 + 4, none⟩ = some (.slice ra zz.length rc)) := fun W hW => by
        have hx := HBX.out.below (below_then H48.out hW) HBX.out.lt
        have hp := HPI.out.cells (HT8.out.trans (hW.mono HT8.out.size))
        exact ⟨hx.cell 0, hx.cell 1, hx.cell 2, hx.cell 3, hx.cell 4, hp⟩
      have HS8o : Hid (Below w8.heap.size w8 w8) := Below.refl _ _
      have HS8d : Hid (Below w8.heap.size w8 w8.drew) := (Below.refl _ _).drew
      clear HUR7 HCS HT7 HT7d HCE HL7
      go_region_held3 (fun w' => w'.cell? ⟨w4.heap.size, 0, none⟩ = some (.int .i64 r) ∧ w'.cell? ⟨w4.heap.size, 1, none⟩ = some (.int .u8 md) ∧ w'.cell? ⟨w4.heap.size, 2, none⟩ = some (.int .i64 par) ∧ w'.cell? ⟨w4.heap.size, 3, none⟩ = some (.slice (some ⟨g, 0, none⟩) pp.length gc) ∧ w'.cell? ⟨w4.heap.size, 4, none⟩ = some (.slice (some ⟨g2, 0, none⟩) zz.length (zz.length + 2)) ∧ w'.cell? ⟨gp, k * 5, none⟩ = some (.int .i64 r) ∧ w'.cell? ⟨gp, k * 5 + 1, none⟩ = some (.int .u8 md) ∧ w'.cell? ⟨gp, k * 5 + 2, none⟩ = some (.int .i64 par) ∧ w'.cell? ⟨gp, k * 5 + 3, none⟩ = some (.slice qa pp.length qc) ∧ w'.cell? ⟨gp, k * 5 + 4, none⟩ = some (.slice ra zz.length rc))
        (first | with_reducible exact HK14.out _ HS8o.out | with_reducible exact HK14.out _ HS8d.out | with_reducible exact HK14.out _ HS9.out | with_reducible exact HK14.out _ HS10.out | with_reducible exact HK14.out _ HS11.out)
        (first
          | (go_at_call 35; (with_reducible refine HC9.out.mono ?_); rintro e w9 ⟨rfl, hb9⟩; have HS9 : Hid (Below w8.heap.size w8 w9) := below_then HS8d.out hb9; clear hb9)
          | (go_at_call 36; (with_reducible refine (HC10.out _ HS9.out).mono ?_); rintro e w10 ⟨rfl, hb10⟩; have HS10 : Hid (Below w8.heap.size w8 w10) := below_then HS9.out hb10; clear hb10)
          | (go_at_call 24; (with_reducible refine (HC11.out _ HS10.out).mono ?_); rintro e w11 ⟨rfl, hb11⟩; have HS11 : Hid (Below w8.heap.size w8 w11) := below_then HS10.out hb11; clear hb11))
      go_upto_region 15 with fail
      have hz7 : w8.heap.size ≤ w11.heap.size := HS11.out.size
      have HR11 := Lib.hid (below_then HR8.out HS11.out)
      have H411 := Lib.hid (below_then H48.out HS11.out)
      have HL11 := Lib.hid (HL8.out.below HS11.out)
      have HXA11 := Lib.hid ((HXA.out.below HS8.out).below HS11.out)
      have HXE11 := Lib.hid (ownsRow_below HXE.out HS11.out (Nat.le_refl _))
      clear HS9 HS10 HC9 HC10 HC11 HK14 HS8o HS8d HT8d HL8 HXA HXE HBO6 HS6 HS7 HS8
      have HC12 := Lib.hid (HLU.out.spoil w11 (below_then HU4.out H411.out))
      unfold planVal at HC12
      have HX11 := Lib.hid (HBX.out.below H411.out HBX.out.lt)
      have x0 := HX11.out.cell 0
      have x1 := HX11.out.cell 1
      have x2 := HX11.out.cell 2
      have x3 := HX11.out.cell 3
      have x4 := HX11.out.cell 4
      go_upto_region 16 with (first
        | (go_at_call 37; (with_reducible refine HC12.out.mono ?_); rintro e w12 ⟨rfl, hc12⟩; have HC12' := Lib.hid hc12; clear hc12 x0 x1 x2 x3 x4))
      have hz8 : w11.heap.size ≤ w12.heap.size := HC12'.out.size
      have HR12 : Hid (Below wr.heap.size wr w12) := HR11.out.trans (HC12'.out.below fun k hk => ⟨by omega, fun e => by omega⟩)
      have HL12 := Lib.hid (HL11.out.mod HC12'.out (fun k hk e => by omega))
      have HXA12 := Lib.hid (HXA11.out.mod HC12'.out (fun q hq e => by have := (HXA11.out.row.lt q hq).1; omega) (fun x hx q hq e => by have := ((HXA11.out.dat x hx).lt q hq).1; omega))
      have HXE12 := Lib.hid (ownsRow_mod HXE11.out HC12'.out (fun q hq e => by have := (HXE11.out.lt q hq).1; omega))
      have HC13 := Lib.hid (lent_useR HY.out HL5.out hrn HRL.out w12 HL12.out (by omega)).spoil
      clear HL11 HXA11 HXE11 HX11 HC12
      go_upto_region 17 with (first
        | (go_at_call 38; (with_reducible refine HC13.out.mono ?_); rintro e w13 ⟨rfl, hc13⟩; have HC13' := Lib.hid hc13; clear hc13))
      have hz9 : w12.heap.size ≤ w13.heap.size := HC13'.out.size
      have HR13 : Hid (Below wr.heap.size wr w13) := HR12.out.trans (HC13'.out.below fun k hk => ⟨by omega, fun e => by omega⟩)
      have HXA13 := Lib.hid (HXA12.out.mod HC13'.out (fun q hq e => by have := (HXA12.out.row.lt q hq).1; omega) (fun x hx q hq e => by have := ((HXA12.out.dat x hx).lt q hq).1; omega))
      have HXE13 := Lib.hid (ownsRow_mod HXE12.out HC13'.out (fun q hq e => by have := (HXE12.out.lt q hq).1; omega))
      clear HC12' HC13' HC13 HL12 HXA12 HXE12 HLU HL5 HL6 HY HBX HU4 HS4 HS5 HR4 HR5 HR6 HR7 HR8 HR11 HR12 H46 H47 H48 H68 H411 HS11
      have HCD : Hid (∀ W, Below w2.heap.size w2 W → BooSeg W (.slice da l.length dc) l ∧ Segs W (.slice sa ls.length sc) ls) := fun W hW => ⟨HD.out.below (below_then HB2.out hW), HLS.out.below (below_then HB2.out hW)⟩
      have HK17 : Hid (∀ W, Below w2.heap.size w2 W → W.cell? ⟨w.heap.size, 0, none⟩ = some (.int .i64 m) ∧ W.cell? ⟨w.heap.size, 1, none⟩ = some (.int .i64 c) ∧ W.cell? ⟨w.heap.size, 2, none⟩ = some (.int .i64 s) ∧ W.cell? ⟨gp, k * 5, none⟩ = some (.int .i64 r) ∧ W.cell? ⟨gp, k * 5 + 1, none⟩ = some (.int .u8 md) ∧ W.cell? ⟨gp, k * 5 + 2, none⟩ = some (.int .i64 par) ∧ W.cell? ⟨gp, k * 5 + 3, none⟩ = some (.slice qa pp.length qc) ∧ W.cell? ⟨gp, k * 5 + 4, none⟩ = some (.slice ra zz.length rc)) := fun W hW => by
        have hg := HG2.out.below hW HG2.out.lt
        have hp := HPI.out.cells hW
        exact ⟨hg.cell 0, hg.cell 1, hg.cell 2, hp⟩
      have HT13 : Hid (Below w2.heap.size w2 w13) := HLO.out.trans (HR13.out.mono hz0)
      have HT13d : Hid (Below w2.heap.size w2 w13.drew) := HT13.out.drew
      have HCR := Lib.hid (HWA.out.doc _ _ _ _ w13.drew (HCD.out _ HT13d.out).1 (HPI.out.seg.below HT13d.out) (HPI.out.zseg.below HT13d.out) (HCD.out _ HT13d.out).2)
      unfold planVal geo at HCR
      go_region_held3 (fun w' => w'.cell? ⟨w.heap.size, 0, none⟩ = some (.int .i64 m) ∧ w'.cell? ⟨w.heap.size, 1, none⟩ = some (.int .i64 c) ∧ w'.cell? ⟨w.heap.size, 2, none⟩ = some (.int .i64 s) ∧ w'.cell? ⟨gp, k * 5, none⟩ = some (.int .i64 r) ∧ w'.cell? ⟨gp, k * 5 + 1, none⟩ = some (.int .u8 md) ∧ w'.cell? ⟨gp, k * 5 + 2, none⟩ = some (.int .i64 par) ∧ w'.cell? ⟨gp, k * 5 + 3, none⟩ = some (.slice qa pp.length qc) ∧ w'.cell? ⟨gp, k * 5 + 4, none⟩ = some (.slice ra zz.length rc))
        (first | with_reducible exact HK17.out _ HT13.out | with_reducible exact HK17.out _ HT13d.out | with_reducible exact HK17.out _ HT14.out)
        (first
          | (go_at_call 39; (with_reducible refine HCR.out.mono ?_); rintro e w14 ⟨⟨vb, Xb, rfl, hxb, hmb⟩, hb14⟩; obtain ⟨ba, bc, rfl⟩ := ownsRow_shape hxb.row; have HXB := Lib.hid hxb; have HMB := Lib.hid hmb; have HS14 : Hid (Below w13.heap.size w13 w14) := below_then (Below.refl _ _).drew hb14; have HT14 : Hid (Below w2.heap.size w2 w14) := HT13.out.trans (HS14.out.mono HT13.out.size); clear hxb hmb hb14))
      go_upto_region 18 with fail
      have HBLN := Lib.hid (show Xb.length = qs.length by rw [← HMB.out, List.length_map])
      have HT14d : Hid (Below w2.heap.size w2 w14.drew) := HT14.out.drew
      have HCR2 := Lib.hid (HSA.out.doc _ w14.drew (HCD.out _ HT14d.out).2)
      unfold geo at HCR2
      clear HCR HK17 HT13d
      go_region_held3 (fun w' => w'.cell? ⟨w.heap.size, 0, none⟩ = some (.int .i64 m) ∧ w'.cell? ⟨w.heap.size, 1, none⟩ = some (.int .i64 c) ∧ w'.cell? ⟨w.heap.size, 2, none⟩ = some (.int .i64 s) ∧ w'.cell? ⟨gp, k * 5, none⟩ = some (.int .i64 r))
        (first | with_reducible exact HK13.out _ HT14.out | with_reducible exact HK13.out _ HT14d.out | with_reducible exact HK13.out _ HT15.out)
        (first
          | (go_at_call 40; (with_reducible refine HCR2.out.mono ?_); rintro e w15 ⟨⟨vf, rfl, hxf⟩, hb15⟩; obtain ⟨fa, fc, rfl⟩ := ownsRow_shape hxf; have HXF := Lib.hid hxf; have HS15 : Hid (Below w14.heap.size w14 w15) := below_then (Below.refl _ _).drew hb15; have HT15 : Hid (Below w2.heap.size w2 w15) := HT14.out.trans (HS15.out.mono HT14.out.size); clear hxf hb15))
      go_upto_region 19 with fail
      have HS1315 := Lib.hid (below_then HS14.out HS15.out)
      have HR15 := Lib.hid (below_then HR13.out HS1315.out)
      have HXA15 := Lib.hid (HXA13.out.below HS1315.out)
      have HXE15 := Lib.hid (ownsRow_below HXE13.out HS1315.out (Nat.le_refl _))
      have HXB15 := Lib.hid (HXB.out.below HS15.out)
      have HBK15 := Lib.hid (HBK.out.below HR15.out)
      have HBL : Hid (∀ y, y ∈ bs ∨ y ∈ pss → ∀ q, y.ownBlock = some q → q < wr.heap.size) := bk_low HBK.out
      have HOP : Hid (OffAll pss (.slice aa Xa.length ac)) := fun y hy q hq e => by
        have a1 := HBL.out y (.inr hy) q hq
        have a2 := HXV.out q e
        omega
      have HOD : Hid (∀ x ∈ Xa, OffAll bs x.2) := fun x hx y hy q hq e => by
        have a1 := HBL.out y (.inl hy) q hq
        have a2 := (HXL.out x hx q e).1
        omega
      have HEL : Hid (∀ q, (Value.slice ea out.length ec).ownBlock = some q → w7.heap.size ≤ q) := fun q hq => (HXE15.out.lt q hq).1
      have HOE : Hid (OffAll (bs ++ Xa.map (·.2)) (.slice ea out.length ec)) := fun y hy q hq e => by
        have a2 := HEL.out q e
        rcases List.mem_append.1 hy with hy | hy
        · have a1 := HBL.out y (.inl hy) q hq
          omega
        · obtain ⟨x, hx, rfl⟩ := List.mem_map.1 hy
          have a1 := (HXL.out x hx q hq).2
          omega
      have HCP := Lib.hid (book_patches HBK15.out (by have := HAL.out; omega) (by omega) (HXA15.out.lower (Nat.zero_le _)) (by have := HAL.out; omega) HOP.out HOD.out)
      clear HCR2 HK13 HCD HT13 HT14 HT14d HXA13 HXE13 HXB HS14 HS15 HS1315 HR13
      go_upto_region 20 with (first
        | (go_at_call 41; (with_reducible refine HCP.out.mono ?_); rintro e w16 ⟨rfl, hk16, hc16⟩; have HBK16 := Lib.hid hk16; have HC16 := Lib.hid hc16; clear hk16 hc16))
      have HT16 : Hid (Below w2.heap.size w2 w16) := HT15.out.trans (bks_below HC16.out HT15.out.size)
      have HXA16 := Lib.hid (HXA15.out.bks HC16.out)
      have HXB16 := Lib.hid (HXB15.out.bks HC16.out)
      have HXE16 := Lib.hid (ownsRow_mod HXE15.out HC16.out (bks_off HXE15.out (by decide) (by decide) (by decide) (by decide)))
      have HXF16 := Lib.hid (ownsRow_mod HXF.out HC16.out (bks_off HXF.out (by decide) (by decide) (by decide) (by decide)))
      have HCB := Lib.hid (book_bytes HBK16.out (by rw [List.length_append, List.length_map]; have := HAL.out; omega) (rebase_row HXE16.out (Nat.zero_le _)) (by rw [ucells_length]; omega) HOE.out)
      clear HXA15 HXB15 HXE15 HXF HC16 HBK15 HCP
      go_upto_region 21 with (first
        | (go_at_call 42; (with_reducible refine HCB.out.mono ?_); rintro e w17 ⟨rfl, hk17, hc17⟩; have HBK17 := Lib.hid hk17; have HC17 := Lib.hid hc17; clear hk17 hc17))
      have HT17 : Hid (Below w2.heap.size w2 w17) := HT16.out.trans (bks_below HC17.out HT16.out.size)
      have HPA : Hid (PSeg w17 (.slice aa Xa.length ac) qs) := by
        have h := (HXA16.out.bks HC17.out).pseg (by have := HAL.out; omega)
        rw [HMA.out] at h
        exact h
      have HPB : Hid (PSeg w17 (.slice ba Xb.length bc) qs) := by
        have h := (HXB16.out.bks HC17.out).pseg (by have := HBLN.out; omega)
        rw [HMB.out] at h
        exact h
      have HE17 : Hid (Seg w17 (.slice ea out.length ec) out) := seg_of_owns (ownsRow_mod HXE16.out HC17.out (bks_off HXE16.out (by decide) (by decide) (by decide) (by decide)))
      have HF17 : Hid (Seg w17 (.slice fa out.length fc) out) := seg_of_owns (ownsRow_mod HXF16.out HC17.out (bks_off HXF16.out (by decide) (by decide) (by decide) (by decide)))
      have HC18 := Lib.hid (same_pats _ _ qs w17 HPA.out HPB.out)
      have HC19 : Hid (∀ W, Below w17.heap.size w17 W → Calls Tryz.prog 17 #[.slice ea out.length ec, .slice fa out.length fc] W fun e w' => e = .returned (.bool true) ∧ Below W.heap.size W w') := fun W hW => (same_any _ _ out out W (by omega) (by omega) (HE17.out.below hW) (HF17.out.below hW)).mono fun e w' ⟨x1, x2⟩ => ⟨by rw [x1]; simp, x2⟩
      have hww : ((cdw : Int) != (cdw : Int)) = false := by simp
      have hss : ((cds : Int) != (cds : Int)) = false := by simp
      clear HXA16 HXB16 HXE16 HXF16 HC17 HBK16 HCB
      go_wp2_with (first
        | (go_at_call 43; (with_reducible refine HC18.out.mono ?_); rintro e w18 ⟨rfl, hb18⟩; have HS18 := Lib.hid hb18; clear hb18)
        | (go_at_call 17; (with_reducible refine (HC19.out _ HS18.out).mono ?_); rintro e w19 ⟨rfl, hb19⟩; have HS19 := Lib.hid (below_then HS18.out hb19); clear hb19))
      go_roundw
      case measure => simp [intOf]; omega
      refine ⟨k + 1, (bs ++ Xa.map (·.2)) ++ [.slice ea out.length ec], pss ++ [.slice aa Xa.length ac], K1.out, by go_num, HBK17.out.below HS19.out, by rw [List.length_append, List.length_append, List.length_map, List.length_singleton]; have := HAL.out; omega, by rw [List.length_append, List.length_singleton]; omega, fun y hy q hq => ?_, HT17.out.trans (HS19.out.mono HT17.out.size)⟩
      rcases hy with hy | hy
      · rcases List.mem_append.1 hy with hy | hy
        · rcases List.mem_append.1 hy with hy | hy
          · exact HOW.out y (.inl hy) q hq
          · obtain ⟨x, hx, rfl⟩ := List.mem_map.1 hy
            have a1 := (HXL.out x hx q hq).1
            omega
        · rw [List.mem_singleton] at hy
          subst hy
          have a1 := HEL.out q hq
          omega
      · rcases List.mem_append.1 hy with hy | hy
        · exact HOW.out y (.inr hy) q hq
        · rw [List.mem_singleton] at hy
          subst hy
          have a1 := HXV.out q hq
          omega
    · obtain rfl : k = 2 := by omega
      have HOWN : Hid (∀ W, Bk W w2.heap.size bs [] pss → _) := fun W h => book_own h (by omega) (by simp) (by omega)
      have HLOW : Hid (∀ k, InAny bs k ∨ InAny [] k ∨ InAny pss k → w.heap.size ≤ k) := fun k hk => by
        rcases hk with ⟨y, hy, e⟩ | ⟨y, hy, e⟩ | ⟨y, hy, e⟩
        · exact HOW.out y (.inl hy) k e
        · cases hy
        · exact HOW.out y (.inr hy) k e
      go_wp2_with (first
        | (go_at_call 28; (with_reducible refine (HKN.out _).mono ?_); rintro e wk ⟨rfl, hbk⟩; have HTK : Hid (Below w2.heap.size w2 wk) := HLO.out.trans (hbk.mono HLO.out.size); have HBKK := Lib.hid (HBK.out.below hbk); have HO := Lib.hid (HOWN.out _ HBKK.out); clear hbk)
        | (go_at_call 18; (with_reducible refine HO.out.mono ?_); rintro e wz ⟨rfl, hcz⟩; have HE := Lib.hid (Chg.own (below_then HB2.out HTK.out) hcz HLOW.out); clear hcz))
      go_ret
      exact ⟨rfl, HE.out⟩

end Go.Proofs.YtpegbgomnpinfaaGreat
