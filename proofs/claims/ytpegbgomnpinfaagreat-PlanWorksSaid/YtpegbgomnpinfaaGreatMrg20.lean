/- Several texts in one: WrkO, PlyS, WrkP, PlyJ. -/
import Derived.Test.YtpegbgomnpinfaaGreatWrkN
import Derived.Test.YtpegbgomnpinfaaGreatMrg16
import Derived.Test.YtpegbgomnpinfaaGreatMrg4
import Derived.Test.YtpegbgomnpinfaaGreatMrg11
import Derived.Deep.Grids
/- PlanWorks: what is too much. -/
set_option linter.unusedVariables false
namespace Go.Proofs.YtpegbgomnpinfaaGreat
open Go.RowKit

set_option maxRecDepth 100000 in
set_option maxHeartbeats 8000000 in
theorem works_much (m c s mem : Int) (br bmd bpar : Int) (vd vp bvq bvr vrd : Value) (l : List Bool) (ps bps : List Pat) (bzl : List Int) (ls : List (List UInt8)) (w : World) (hd : BooSeg w vd l) (hp : PSeg w vp ps) (hbq : PSeg w bvq bps) (hbz : ZSeg w bvr bzl) (hls : Segs w vrd ls) (hlf : ls.length ≤ 140737488351232) (hlf2 : ∀ l ∈ ls, l.length ≤ 140737488351232)
    (hm : muchIs (ps.map (·.d.length)) = true ∨ muchIs (bps.map (·.d.length)) = true ∨ muchIs (ls.map List.length) = true ∨ 1000 < l.length ∨ 1000 < bzl.length) :
    Calls Tryz.prog 5 #[geo m c s, vd, vp, planVal br bmd bpar bvq bvr, vrd, .int .i64 mem] w fun e w' => e = .returned (.bool true) ∧ Below w.heap.size w w' := by
  have hmp1 : Hid (∀ W, Below w.heap.size w W → _) := fun W hW => much_pats vp ps W (hp.below hW)
  have hmp2 : Hid (∀ W, Below w.heap.size w W → _) := fun W hW => much_pats bvq bps W (hbq.below hW)
  have hmr : Hid (∀ W, Below w.heap.size w W → _) := fun W hW => much_rows vrd ls W (hls.below hW) hlf hlf2
  obtain ⟨w0, hw0⟩ : ∃ w0, w0 = (w.alloc (.cells #[.int .i64 m, .int .i64 c, .int .i64 s] 23)).alloc (.cells #[.int .i64 br, .int .u8 bmd, .int .i64 bpar, bvq, bvr] 75) := ⟨_, rfl⟩
  have HB0 : Hid (Below w.heap.size w w0) := by rw [hw0]; exact ((Below.refl _ _).alloc (Nat.le_refl _) _).alloc (by rw [size_alloc]; omega) _
  have HP0 : Hid (At w0 (w.heap.size + 1) #[.int .i64 br, .int .u8 bmd, .int .i64 bpar, bvq, bvr] 75) := by rw [hw0]; exact At.new2 _ _ _ _
  have hshq := hbq.shape
  have hshz := hbz.shape
  obtain ⟨pa, pc, rfl⟩ := hp.shape
  obtain ⟨da, dc, rfl⟩ := hd.shape
  obtain ⟨sa, sc, rfl⟩ := hls.shape
  obtain ⟨bqa, bqc, rfl⟩ := hshq
  obtain ⟨bra, brc, rfl⟩ := hshz
  by_cases h1 : muchIs (ps.map (·.d.length)) = true
  · rw [h1] at hmp1
    clear hm h1
    clear hd hp hbq hbz hls hlf hlf2
    unfold geo planVal at *
    go_enter Tryz.func5, Tryz.ntmps5
    go_upto_region 1 with fail
    rw [← hw0]
    clear hw0
    have x3 := HP0.out.cell 3
    have x4 := HP0.out.cell 4
    go_wp2_with (first
      | (go_at_call 19; (with_reducible refine (hmp1.out _ HB0.out).mono ?_); rintro e w1 ⟨rfl, hw⟩; obtain rfl : w0 = w1 := hw.symm)
      | (go_at_call 19; (with_reducible refine (hmp2.out _ HB0.out).mono ?_); rintro e w1 ⟨rfl, hw⟩; obtain rfl : w0 = w1 := hw.symm)
      | (go_at_call 30; (with_reducible refine (hmr.out _ HB0.out).mono ?_); rintro e w1 ⟨rfl, hw⟩; obtain rfl : w0 = w1 := hw.symm))
    go_ret
    exact ⟨rfl, HB0.out⟩
  have g1 : muchIs (ps.map (·.d.length)) = false := by simpa using h1
  rw [g1] at hmp1
  by_cases h2 : muchIs (bps.map (·.d.length)) = true
  · rw [h2] at hmp2
    clear hm h2
    clear hd hp hbq hbz hls hlf hlf2
    unfold geo planVal at *
    go_enter Tryz.func5, Tryz.ntmps5
    go_upto_region 1 with fail
    rw [← hw0]
    clear hw0
    have x3 := HP0.out.cell 3
    have x4 := HP0.out.cell 4
    go_wp2_with (first
      | (go_at_call 19; (with_reducible refine (hmp1.out _ HB0.out).mono ?_); rintro e w1 ⟨rfl, hw⟩; obtain rfl : w0 = w1 := hw.symm)
      | (go_at_call 19; (with_reducible refine (hmp2.out _ HB0.out).mono ?_); rintro e w1 ⟨rfl, hw⟩; obtain rfl : w0 = w1 := hw.symm)
      | (go_at_call 30; (with_reducible refine (hmr.out _ HB0.out).mono ?_); rintro e w1 ⟨rfl, hw⟩; obtain rfl : w0 = w1 := hw.symm))
    go_ret
    exact ⟨rfl, HB0.out⟩
  have g2 : muchIs (bps.map (·.d.length)) = false := by simpa using h2
  rw [g2] at hmp2
  by_cases h3 : muchIs (ls.map List.length) = true
  · rw [h3] at hmr
    clear hm h3
    clear hd hp hbq hbz hls hlf hlf2
    unfold geo planVal at *
    go_enter Tryz.func5, Tryz.ntmps5
    go_upto_region 1 with fail
    rw [← hw0]
    clear hw0
    have x3 := HP0.out.cell 3
    have x4 := HP0.out.cell 4
    go_wp2_with (first
      | (go_at_call 19; (with_reducible refine (hmp1.out _ HB0.out).mono ?_); rintro e w1 ⟨rfl, hw⟩; obtain rfl : w0 = w1 := hw.symm)
      | (go_at_call 19; (with_reducible refine (hmp2.out _ HB0.out).mono ?_); rintro e w1 ⟨rfl, hw⟩; obtain rfl : w0 = w1 := hw.symm)
      | (go_at_call 30; (with_reducible refine (hmr.out _ HB0.out).mono ?_); rintro e w1 ⟨rfl, hw⟩; obtain rfl : w0 = w1 := hw.symm))
    go_ret
    exact ⟨rfl, HB0.out⟩
  have g3 : muchIs (ls.map List.length) = false := by simpa using h3
  rw [g3] at hmr
  have hm4 := ((hm.resolve_left h1).resolve_left h2).resolve_left h3
  clear hm h1 h2 h3 g1 g2 g3
  by_cases h4 : 1000 < l.length
  · have hd1 : decide ((1000 : Int) < (l.length : Int)) = true := decide_eq_true (by omega)
    clear hm4
    clear hd hp hbq hbz hls hlf hlf2
    unfold geo planVal at *
    go_enter Tryz.func5, Tryz.ntmps5
    go_upto_region 1 with fail
    rw [← hw0]
    clear hw0
    have x3 := HP0.out.cell 3
    have x4 := HP0.out.cell 4
    go_wp2_with (first
      | (go_at_call 19; (with_reducible refine (hmp1.out _ HB0.out).mono ?_); rintro e w1 ⟨rfl, hw⟩; obtain rfl : w0 = w1 := hw.symm)
      | (go_at_call 19; (with_reducible refine (hmp2.out _ HB0.out).mono ?_); rintro e w1 ⟨rfl, hw⟩; obtain rfl : w0 = w1 := hw.symm)
      | (go_at_call 30; (with_reducible refine (hmr.out _ HB0.out).mono ?_); rintro e w1 ⟨rfl, hw⟩; obtain rfl : w0 = w1 := hw.symm))
    go_ret
    exact ⟨rfl, HB0.out⟩
  have hd1 : decide ((1000 : Int) < (l.length : Int)) = false := decide_eq_false (by omega)
  have h5 := hm4.resolve_left h4
  have hd2 : decide ((1000 : Int) < (bzl.length : Int)) = true := decide_eq_true (by omega)
  clear hm4
  clear hd hp hbq hbz hls hlf hlf2
  unfold geo planVal at *
  go_enter Tryz.func5, Tryz.ntmps5
  go_upto_region 1 with fail
  rw [← hw0]
  clear hw0
  have x3 := HP0.out.cell 3
  have x4 := HP0.out.cell 4
  go_wp2_with (first
    | (go_at_call 19; (with_reducible refine (hmp1.out _ HB0.out).mono ?_); rintro e w1 ⟨rfl, hw⟩; obtain rfl : w0 = w1 := hw.symm)
    | (go_at_call 19; (with_reducible refine (hmp2.out _ HB0.out).mono ?_); rintro e w1 ⟨rfl, hw⟩; obtain rfl : w0 = w1 := hw.symm)
    | (go_at_call 30; (with_reducible refine (hmr.out _ HB0.out).mono ?_); rintro e w1 ⟨rfl, hw⟩; obtain rfl : w0 = w1 := hw.symm))
  go_ret
  exact ⟨rfl, HB0.out⟩

end Go.Proofs.YtpegbgomnpinfaaGreat

/- Patches, as an argument brings them. -/
set_option linter.unusedVariables false
namespace Go.Proofs.YtpegbgomnpinfaaGreat
open Go.RowKit Go.ChangeShapes Go.WideShapes Go.ChangeAt Go.Deep

theorem pats_of_trod' {H : Type} {enc : TypeId × Value → H} {P : Program} {W : World} {T E EB base : Nat} {v : Value} {d : DataW H} {ps : List MemPlace} {f0 f1 f2 : Field}
    (hT : P.underlying T = some (.slice E)) (hE : P.underlying E = some (.struct #[f0, f1, f2])) (ce : P.cellsOf E = 3) (be : 0 < P.bytesOf E) (o0 : f0.offset = 0) (o1 : f1.offset = 1) (o2 : f2.offset = 2) (c0 : P.cellsOf f0.type = 1) (c1 : P.cellsOf f1.type = 1) (c2 : P.cellsOf f2.type = 1)
    (t0 : P.underlying f0.type = some (.int .i64)) (t1 : P.underlying f1.type = some (.int .i64)) (t2 : P.underlying f2.type = some (.slice EB)) (tb : P.underlying EB = some (.int .u8)) (cb : P.cellsOf EB = 1) (bb : P.bytesOf EB = 1)
    (hv : Value.okWide P W .any base T v) (h : DataW.Trod enc P W 0 (fun _ => true) true T v d ps) (hw : ∀ n ∈ d.weights P T, n ≤ reachBytes) : ∃ us, PSeg W v us := by
  obtain ⟨a, len, cap, rfl⟩ := Go.WideShapes.okWide_slice hT hv
  obtain ⟨fuel, hf⟩ := h
  rcases Go.Deep.open_slice hT hf with ⟨hcs, _⟩ | ⟨x, l, c, m, n, D, Pl, hcs, _, hl, hm, hmm, hd, hx⟩
  · simp [Value.cells] at hcs
    obtain ⟨rfl, rfl, rfl⟩ := hcs
    exact ⟨[], none, 0, rfl, by simp, by simp, .inl rfl⟩
  · simp [Value.cells] at hcs
    obtain ⟨rfl, rfl, rfl⟩ := hcs
    simp only [if_true] at hmm
    subst hmm
    simp only [Prod.mk.injEq] at hd
    have hlenb : len ≤ 140737488351232 := by
      have hmem : (((List.range len).map D).length + ((List.range (m - len)).map fun j => D (len + j)).length) * P.bytesOf E ≤ reachBytes := by
        apply hw
        rw [hd.1]
        simp only [DataW.weights, hT]
        exact List.mem_cons_self
      simp only [List.length_map, List.length_range, reachBytes] at hmem
      have := Nat.le_mul_of_pos_right (len + (m - len)) be
      omega
    rw [ce] at hx
    have each : ∀ i, i < len → ∃ z : Pat, ∃ u, W.cell? (x.add (i * 3)) = some (.int .i64 z.m) ∧ W.cell? (x.add (i * 3 + 1)) = some (.int .i64 z.r) ∧ W.cell? (x.add (i * 3 + 2)) = some u ∧ Seg W u z.d ∧ z.d.length ≤ 140737488351232 := by
      intro i hi
      obtain ⟨cs', h1, h2⟩ := hx i (by omega)
      obtain ⟨_, hlen, hcell⟩ := World.cells?_some h1
      obtain ⟨xs, k, hk, hxy, _, hxl, hfld⟩ := DataW.trod_struct hE h2
      match xs, hxl, cs', hlen with
      | [y0, y1, y2], _, [v0, v1, v2], _ =>
        have g0 := hfld 0 f0 rfl
        have g1 := hfld 1 f1 rfl
        have g2 := hfld 2 f2 rfl
        simp [o0, o1, o2, c0, c1, c2] at g0 g1 g2
        have e0 := hcell 0 (by omega)
        have e1 := hcell 1 (by omega)
        have e2 := hcell 2 (by omega)
        rw [add_add] at e0 e1 e2
        obtain ⟨z0, q0, _⟩ := DataW.trod_int t0 g0
        obtain ⟨z1, q1, _⟩ := DataW.trod_int t1 g1
        have hDi : D i = .agg [y0.1, y1.1, y2.1] := by
          have := congrArg Prod.fst hxy
          simpa using this
        obtain ⟨lb, q3, q4⟩ := seg_of_cell_w t2 tb cb bb g2 (fun n hn => hw n (by
          rw [hd.1]
          simp only [DataW.weights, hT]
          refine List.mem_cons_of_mem _ (List.mem_append_left _ (weights_all_mem (i := i) (d := D i) (by simp [hi]) _ ?_))
          rw [hDi]
          simp only [DataW.weights, hE, DataW.weightsEach, List.map_cons, List.map_nil, List.append_nil]
          exact List.mem_append_right _ (List.mem_append_right _ hn)))
        simp at q0 q1
        subst q0
        subst q1
        exact ⟨⟨z0, z1, lb⟩, v2, by simpa using e0, by simpa using e1, by simpa using e2, q3, q4⟩
    haveI : Inhabited Pat := ⟨⟨0, 0, []⟩⟩
    obtain ⟨F, hF⟩ := choose_lt (α := Pat) each
    have hlen : ((List.range len).map F).length = len := by simp
    refine ⟨(List.range len).map F, some x, m, by rw [hlen], by rw [hlen]; omega, fun u hu => ?_, ?_⟩
    · obtain ⟨i, hi, rfl⟩ := List.mem_map.1 hu
      obtain ⟨_, _, _, _, _, h5⟩ := hF i (by simpa using hi)
      omega
    · rcases Nat.eq_zero_or_pos len with h0 | h0
      · left; rw [h0]; rfl
      · right
        obtain ⟨b, off, spot⟩ := x
        have hspot : spot = none := by
          obtain ⟨u, h0', _⟩ := hF 0 (by omega)
          simpa [Addr.add] using World.cell?_spot h0'
        subst hspot
        refine ⟨b, off, rfl, ?_, fun j hj => ?_⟩
        · obtain ⟨u, h1, _⟩ := hF 0 (by omega)
          rw [Go.WideShapes.add_plain] at h1
          exact block_lt_of_cell h1
        · rw [hlen] at hj
          obtain ⟨u, h1, h2, h3, h4, _⟩ := hF j hj
          rw [Go.WideShapes.add_plain] at h1 h2 h3
          rw [List.getElem_map, List.getElem_range]
          exact ⟨h1, by rw [show off + j * 3 + 1 = off + (j * 3 + 1) by omega]; exact h2, u, by rw [show off + j * 3 + 2 = off + (j * 3 + 2) by omega]; exact h3, h4⟩

set_option maxRecDepth 100000 in
theorem pats_of_trod {H : Type} {enc : TypeId × Value → H} {W : World} {base : Nat} {v : Value} {d : DataW H} {ps : List MemPlace}
    (hv : Value.okWide Tryz.prog W .any base 69 v) (h : DataW.Trod enc Tryz.prog W 0 (fun _ => true) true 69 v d ps) (hw : ∀ n ∈ d.weights Tryz.prog 69, n ≤ reachBytes) : ∃ us, PSeg W v us :=
  pats_of_trod' Tryz.underlying69 Tryz.underlying153 (by kernel_rfl) (by decide +kernel) rfl rfl rfl (by kernel_rfl) (by kernel_rfl) (by kernel_rfl) Tryz.underlying3 Tryz.underlying3 Tryz.underlying53 Tryz.underlying5 (by kernel_rfl) (by kernel_rfl) hv h hw

end Go.Proofs.YtpegbgomnpinfaaGreat

/- A plan, as an argument brings it. -/
set_option linter.unusedVariables false
namespace Go.Proofs.YtpegbgomnpinfaaGreat
open Go.RowKit Go.ChangeShapes Go.WideShapes Go.ChangeAt Go.Deep

theorem pats_of_cell {H : Type} {enc : TypeId × Value → H} {P : Program} {W : World} {T E EB fuel : Nat} {v : Value} {x0 : DataW H × List MemPlace} {f0 f1 f2 : Field}
    (hT : P.underlying T = some (.slice E)) (hE : P.underlying E = some (.struct #[f0, f1, f2])) (ce : P.cellsOf E = 3) (be : 0 < P.bytesOf E) (o0 : f0.offset = 0) (o1 : f1.offset = 1) (o2 : f2.offset = 2) (c0 : P.cellsOf f0.type = 1) (c1 : P.cellsOf f1.type = 1) (c2 : P.cellsOf f2.type = 1)
    (t0 : P.underlying f0.type = some (.int .i64)) (t1 : P.underlying f1.type = some (.int .i64)) (t2 : P.underlying f2.type = some (.slice EB)) (tb : P.underlying EB = some (.int .u8)) (cb : P.cellsOf EB = 1) (bb : P.bytesOf EB = 1)
    (hf : DataW.trod enc P W 0 (fun _ => true) true fuel T [v] = some x0) (hw : ∀ n ∈ x0.1.weights P T, n ≤ reachBytes) : ∃ us, PSeg W v us := by
  rcases Go.Deep.open_slice hT hf with ⟨hcs, _⟩ | ⟨x, len, cap, m, n, D, Pl, hcs, _, hl, hm, hmm, hd, hx⟩
  · simp only [List.cons.injEq, and_true] at hcs
    subst hcs
    exact ⟨[], none, 0, rfl, by simp, by simp, .inl rfl⟩
  · simp only [List.cons.injEq, and_true] at hcs
    subst hcs
    simp only [if_true] at hmm
    subst hmm
    subst hd
    have hlenb : len ≤ 140737488351232 := by
      have hmem : (((List.range len).map D).length + ((List.range (m - len)).map fun j => D (len + j)).length) * P.bytesOf E ≤ reachBytes := by
        apply hw
        simp only [DataW.weights, hT]
        exact List.mem_cons_self
      simp only [List.length_map, List.length_range, reachBytes] at hmem
      have := Nat.le_mul_of_pos_right (len + (m - len)) be
      omega
    rw [ce] at hx
    have each : ∀ i, i < len → ∃ z : Pat, ∃ u, W.cell? (x.add (i * 3)) = some (.int .i64 z.m) ∧ W.cell? (x.add (i * 3 + 1)) = some (.int .i64 z.r) ∧ W.cell? (x.add (i * 3 + 2)) = some u ∧ Seg W u z.d ∧ z.d.length ≤ 140737488351232 := by
      intro i hi
      obtain ⟨cs', h1, h2⟩ := hx i (by omega)
      obtain ⟨_, hlen, hcell⟩ := World.cells?_some h1
      obtain ⟨xs, k, hk, hxy, _, hxl, hfld⟩ := DataW.trod_struct hE h2
      match xs, hxl, cs', hlen with
      | [y0, y1, y2], _, [v0, v1, v2], _ =>
        have g0 := hfld 0 f0 rfl
        have g1 := hfld 1 f1 rfl
        have g2 := hfld 2 f2 rfl
        simp [o0, o1, o2, c0, c1, c2] at g0 g1 g2
        have e0 := hcell 0 (by omega)
        have e1 := hcell 1 (by omega)
        have e2 := hcell 2 (by omega)
        rw [add_add] at e0 e1 e2
        obtain ⟨z0, q0, _⟩ := DataW.trod_int t0 g0
        obtain ⟨z1, q1, _⟩ := DataW.trod_int t1 g1
        have hDi : D i = .agg [y0.1, y1.1, y2.1] := by
          have := congrArg Prod.fst hxy
          simpa using this
        obtain ⟨lb, q3, q4⟩ := seg_of_cell_w t2 tb cb bb g2 (fun n hn => hw n (by
          simp only [DataW.weights, hT]
          refine List.mem_cons_of_mem _ (List.mem_append_left _ (weights_all_mem (i := i) (d := D i) (by simp [hi]) _ ?_))
          rw [hDi]
          simp only [DataW.weights, hE, DataW.weightsEach, List.map_cons, List.map_nil, List.append_nil]
          exact List.mem_append_right _ (List.mem_append_right _ hn)))
        simp at q0 q1
        subst q0
        subst q1
        exact ⟨⟨z0, z1, lb⟩, v2, by simpa using e0, by simpa using e1, by simpa using e2, q3, q4⟩
    haveI : Inhabited Pat := ⟨⟨0, 0, []⟩⟩
    obtain ⟨F, hF⟩ := choose_lt (α := Pat) each
    have hlen : ((List.range len).map F).length = len := by simp
    refine ⟨(List.range len).map F, some x, m, by rw [hlen], by rw [hlen]; omega, fun u hu => ?_, ?_⟩
    · obtain ⟨i, hi, rfl⟩ := List.mem_map.1 hu
      obtain ⟨_, _, _, _, _, h5⟩ := hF i (by simpa using hi)
      omega
    · rcases Nat.eq_zero_or_pos len with h0 | h0
      · left; rw [h0]; rfl
      · right
        obtain ⟨b, off, spot⟩ := x
        have hspot : spot = none := by
          obtain ⟨u, h0', _⟩ := hF 0 (by omega)
          simpa [Addr.add] using World.cell?_spot h0'
        subst hspot
        refine ⟨b, off, rfl, ?_, fun j hj => ?_⟩
        · obtain ⟨u, h1, _⟩ := hF 0 (by omega)
          rw [Go.WideShapes.add_plain] at h1
          exact block_lt_of_cell h1
        · rw [hlen] at hj
          obtain ⟨u, h1, h2, h3, h4, _⟩ := hF j hj
          rw [Go.WideShapes.add_plain] at h1 h2 h3
          rw [List.getElem_map, List.getElem_range]
          exact ⟨h1, by rw [show off + j * 3 + 1 = off + (j * 3 + 1) by omega]; exact h2, u, by rw [show off + j * 3 + 2 = off + (j * 3 + 2) by omega]; exact h3, h4⟩

theorem zs_of_cell {H : Type} {enc : TypeId × Value → H} {P : Program} {W : World} {T E fuel : Nat} {v : Value} {x : DataW H × List MemPlace}
    (hT : P.underlying T = some (.slice E)) (hE : P.underlying E = some (.int .i64)) (hc : P.cellsOf E = 1)
    (hf : DataW.trod enc P W 0 (fun _ => true) true fuel T [v] = some x) : ∃ l, ZSeg W v l := by
  rcases open_ints hT hE hc hf with ⟨hcs, _⟩ | ⟨x', len, cap, zs, hcs, _, hl, hm, hz, hy, hcell, hwz⟩
  · simp only [List.cons.injEq, and_true] at hcs
    subst hcs
    exact ⟨[], ZSeg.nil _⟩
  · simp only [List.cons.injEq, and_true] at hcs
    subst hcs
    simp at hz
    have hlen : (zs.take len).length = len := by simp; omega
    refine ⟨zs.take len, some x', cap, by rw [hlen], ?_⟩
    refine ⟨⟨fun h => by simp at h, by rw [hlen]; exact hl⟩, ?_⟩
    rcases Nat.eq_zero_or_pos len with h0 | h0
    · left
      apply List.eq_nil_of_length_eq_zero
      omega
    · right
      obtain ⟨b, off, rfl, hat⟩ := ints_at hcell (by omega)
      have hlt : b < W.heap.size := block_lt_of_cell (hat 0 (by omega))
      refine ⟨b, off, rfl, hlt, fun j hj => ?_⟩
      rw [hlen] at hj
      rw [hat j (by omega), List.getElem_take, List.getD_eq_getElem?_getD, List.getElem?_eq_getElem (by omega)]
      rfl

theorem plan_of_trod' {H : Type} {enc : TypeId × Value → H} {P : Program} {W : World} {T base : Nat} {v : Value} {d : DataW H} {ps : List MemPlace} {f0 f1 f2 f3 f4 : Field}
    (hT : P.underlying T = some (.struct #[f0, f1, f2, f3, f4])) (ce : P.cellsOf T = 5) (o0 : f0.offset = 0) (o1 : f1.offset = 1) (o2 : f2.offset = 2) (o3 : f3.offset = 3) (o4 : f4.offset = 4)
    (c0 : P.cellsOf f0.type = 1) (c1 : P.cellsOf f1.type = 1) (c2 : P.cellsOf f2.type = 1) (c3 : P.cellsOf f3.type = 1) (c4 : P.cellsOf f4.type = 1)
    (t0 : P.underlying f0.type = some (.int .i64)) (t1 : P.underlying f1.type = some (.int .u8)) (t2 : P.underlying f2.type = some (.int .i64))
    (hq : ∀ fuel v x, DataW.trod enc P W 0 (fun _ => true) true fuel f3.type [v] = some x → (∀ n ∈ x.1.weights P f3.type, n ≤ reachBytes) → ∃ us, PSeg W v us)
    (hz : ∀ fuel v x, DataW.trod enc P W 0 (fun _ => true) true fuel f4.type [v] = some x → ∃ l, ZSeg W v l)
    (hv : Value.okWide P W .any base T v) (h : DataW.Trod enc P W 0 (fun _ => true) true T v d ps) (hw : ∀ n ∈ d.weights P T, n ≤ reachBytes) :
    ∃ (r md par : Int) (vq vr : Value) (us : List Pat) (zl : List Int), v = .agg #[.int .i64 r, .int .u8 md, .int .i64 par, vq, vr] ∧ PSeg W vq us ∧ ZSeg W vr zl := by
  obtain ⟨cs, rfl, hs⟩ := okWide_struct hT hv
  obtain ⟨fuel, hf⟩ := h
  obtain ⟨xs, n, -, hxy, hlen, hxl, hall⟩ := DataW.trod_struct hT hf
  have hx : xs.length = 5 := hxl
  rw [ce] at hs
  have h0 := hall 0 f0 rfl
  have h1 := hall 1 f1 rfl
  have h2 := hall 2 f2 rfl
  have h3 := hall 3 f3 rfl
  have h4 := hall 4 f4 rfl
  rw [o0, c0] at h0
  rw [o1, c1] at h1
  rw [o2, c2] at h2
  rw [o3, c3] at h3
  rw [o4, c4] at h4
  obtain ⟨l⟩ := cs
  match xs, hx, l, hs with
  | [y0, y1, y2, y3, y4], _, [a, b, c, vq, vr], _ =>
    simp [Value.cells] at h0 h1 h2 h3 h4
    obtain ⟨r, e0, -⟩ := DataW.trod_int t0 h0
    obtain ⟨md, e1, -⟩ := DataW.trod_int t1 h1
    obtain ⟨par, e2, -⟩ := DataW.trod_int t2 h2
    simp at e0 e1 e2
    subst e0
    subst e1
    subst e2
    have hd : d = .agg [y0.1, y1.1, y2.1, y3.1, y4.1] := by
      have := congrArg Prod.fst hxy
      simpa using this
    obtain ⟨us, hus⟩ := hq _ _ _ h3 (fun k hk => hw k (by
      rw [hd]
      simp only [DataW.weights, hT, DataW.weightsEach, List.map_cons, List.map_nil, List.append_nil]
      exact List.mem_append_right _ (List.mem_append_right _ (List.mem_append_right _ (List.mem_append_left _ hk)))))
    obtain ⟨zl, hzl⟩ := hz _ _ _ h4
    exact ⟨r, md, par, vq, vr, us, zl, rfl, hus, hzl⟩

set_option maxRecDepth 100000 in
theorem plan_of_trod {H : Type} {enc : TypeId × Value → H} {W : World} {base : Nat} {v : Value} {d : DataW H} {ps : List MemPlace}
    (hv : Value.okWide Tryz.prog W .any base 75 v) (h : DataW.Trod enc Tryz.prog W 0 (fun _ => true) true 75 v d ps) (hw : ∀ n ∈ d.weights Tryz.prog 75, n ≤ reachBytes) :
    ∃ (r md par : Int) (vq vr : Value) (us : List Pat) (zl : List Int), v = planVal r md par vq vr ∧ PSeg W vq us ∧ ZSeg W vr zl :=
  plan_of_trod' Tryz.underlying75 (by kernel_rfl) rfl rfl rfl rfl rfl (by kernel_rfl) (by kernel_rfl) (by kernel_rfl) (by kernel_rfl) (by kernel_rfl) Tryz.underlying3 (by kernel_rfl) Tryz.underlying3
    (fun fuel v x hf hw => pats_of_cell Tryz.underlying69 Tryz.underlying153 (by kernel_rfl) (by decide +kernel) rfl rfl rfl (by kernel_rfl) (by kernel_rfl) (by kernel_rfl) Tryz.underlying3 Tryz.underlying3 Tryz.underlying53 Tryz.underlying5 (by kernel_rfl) (by kernel_rfl) hf hw)
    (fun fuel v x hf => zs_of_cell Tryz.underlying27 Tryz.underlying3 (by kernel_rfl) hf)
    hv h hw

end Go.Proofs.YtpegbgomnpinfaaGreat

/- Lists of bits, as an argument brings them. -/
set_option linter.unusedVariables false
namespace Go.Proofs.YtpegbgomnpinfaaGreat
open Go.RowKit Go.ChangeShapes Go.WideShapes Go.ChangeAt Go.Deep

theorem boos_of_trod {H : Type} {enc : TypeId × Value → H} {P : Program} {W : World} {T E base : Nat} {v : Value} {d : DataW H} {ps : List MemPlace}
    (hT : P.underlying T = some (.slice E)) (hE : P.underlying E = some .bool) (hc : P.cellsOf E = 1)
    (hv : Value.okWide P W .any base T v) (h : DataW.Trod enc P W 0 (fun _ => true) true T v d ps) : ∃ l, BooSeg W v l ∧ l.length ≤ maxLen := by
  obtain ⟨a, len, cap, rfl⟩ := okWide_slice hT hv
  obtain ⟨fuel, hf⟩ := h
  rcases open_bools hT hE hc hf with ⟨hcs, _⟩ | ⟨x, l, c, B, hcs, _, hl, hm, _, hcell⟩
  · simp [Value.cells] at hcs
    obtain ⟨rfl, rfl, rfl⟩ := hcs
    exact ⟨[], ⟨none, 0, rfl, ⟨fun _ => ⟨rfl, rfl⟩, Nat.le_refl _⟩, .inl rfl⟩, by simp⟩
  · simp [Value.cells] at hcs
    obtain ⟨rfl, rfl, rfl⟩ := hcs
    have hlen : ((List.range len).map B).length = len := by simp
    refine ⟨(List.range len).map B, ⟨some x, cap, by rw [hlen], ⟨fun h => by simp at h, by rw [hlen]; exact hl⟩, ?_⟩, by rw [hlen]; omega⟩
    rcases Nat.eq_zero_or_pos len with h0 | h0
    · left
      subst h0
      rfl
    · right
      obtain ⟨b, off, spot⟩ := x
      have hspot : spot = none := by simpa [Addr.add] using World.cell?_spot (hcell 0 (by omega))
      subst hspot
      have hat : ∀ j, j < cap → W.cell? ⟨b, off + j, none⟩ = some (.bool (B j)) := fun j hj => by rw [← Go.WideShapes.add_plain]; exact hcell j hj
      have h00 := hat 0 (by omega)
      have hlt : b < W.heap.size := block_lt_of_cell h00
      refine ⟨b, off, rfl, hlt, fun j hj => ?_⟩
      rw [hlen] at hj
      rw [hat j (by omega)]
      simp

end Go.Proofs.YtpegbgomnpinfaaGreat
