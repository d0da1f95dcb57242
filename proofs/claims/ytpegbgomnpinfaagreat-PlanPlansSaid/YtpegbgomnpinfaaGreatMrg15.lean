/- Several texts in one: PlyS, PlyJ, PlwH. -/
import Derived.Test.YtpegbgomnpinfaaGreatMrg13
import Derived.Test.YtpegbgomnpinfaaGreatPlnA
import Derived.Test.YtpegbgomnpinfaaGreatPlyE
import Derived.Deep.Grids
import Derived.Test.YtpegbgomnpinfaaGreatPlwG
import Derived.Deep.Cut
import Derived.Deep.CutRange
/- Patches, as an argument brings them. -/
set_option linter.unusedVariables false
namespace Go.Proofs.YtpegbgomnpinfaaGreat
open Go.RowKit Go.ChangeShapes Go.WideShapes Go.ChangeAt Go.Deep

theorem pats_of_trod' {H : Type} {enc : TypeId × Value → H} {P : Program} {W : World} {T E EB base : Nat} {v : Value} {d : DataW H} {ps : List MemPlace} {f0 f1 f2 : Field}
    (hT : P.underlying T = some (.slice E)) (hE : P.underlying E = some (.struct #[f0, f1, f2])) (ce : P.cellsOf E = 3) (be : 0 < P.bytesOf E) (o0 : f0.offset = 0) (o1 : f1.offset = 1) (o2 : f2.offset = 2) (c0 : P.cellsOf f0.type = 1) (c1 : P.cellsOf f1.type = 1) (c2 : P.cellsOf f2.type = 1)
    (t0 : P.underlying f0.type = some (.int .i64)) (t1 : P.underlying f1.type = some (.int .i64)) (t2 : P.underlying f2.type = some (.slice EB)) (tb : P.underlying EB = some (.int .u8)) (cb : P.cellsOf EB = 1) (bb : P.bytesOf EB = 1)
    (hv : Value.okWide P W .any base T v) (h : DataW.Trod enc P W 0 (fun _ => true) true T v d ps) (hw : ∀ n ∈ d.weights P T, n ≤ reachBytes) : ∃ us, PSeg W v us := by
  obtain ⟨a, len, cap, rfl⟩ := Go.WideShapes.okWide_slice hT hv
  obtain ⟨fuel, hf⟩ := h
  rcases Go.Deep.open_slice hT hf with ⟨hcs, _⟩ | ⟨x, l, c, m, n, D, Pl, hcs, _, hl, hm, hmm, hd, hx⟩
  · simp [Value.cells] at hcs
    obtain ⟨rfl, rfl, rfl⟩ := hcs
    exact ⟨[], none, 0, rfl, by simp, by simp, .inl rfl⟩
  · simp [Value.cells] at hcs
    obtain ⟨rfl, rfl, rfl⟩ := hcs
    simp only [if_true] at hmm
    subst hmm
    simp only [Prod.mk.injEq] at hd
    have hlenb : len ≤ 140737488351232 := by
      have hmem : (((List.range len).map D).length + ((List.range (m - len)).map fun j => D (len + j)).length) * P.bytesOf E ≤ reachBytes := by
        apply hw
        rw [hd.1]
        simp only [DataW.weights, hT]
        exact List.mem_cons_self
      simp only [List.length_map, List.length_range, reachBytes] at hmem
      have := Nat.le_mul_of_pos_right (len + (m - len)) be
      omega
    rw [ce] at hx
    have each : ∀ i, i < len → ∃ z : Pat, ∃ u, W.cell? (x.add (i * 3)) = some (.int .i64 z.m) ∧ W.cell? (x.add (i * 3 + 1)) = some (.int .i64 z.r) ∧ W.cell? (x.add (i * 3 + 2)) = some u ∧ Seg W u z.d ∧ z.d.length ≤ 140737488351232 := by
      intro i hi
      obtain ⟨cs', h1, h2⟩ := hx i (by omega)
      obtain ⟨_, hlen, hcell⟩ := World.cells?_some h1
      obtain ⟨xs, k, hk, hxy, _, hxl, hfld⟩ := DataW.trod_struct hE h2
      match xs, hxl, cs', hlen with
      | [y0, y1, y2], _, [v0, v1, v2], _ =>
        have g0 := hfld 0 f0 rfl
        have g1 := hfld 1 f1 rfl
        have g2 := hfld 2 f2 rfl
        simp [o0, o1, o2, c0, c1, c2] at g0 g1 g2
        have e0 := hcell 0 (by omega)
        have e1 := hcell 1 (by omega)
        have e2 := hcell 2 (by omega)
        rw [add_add] at e0 e1 e2
        obtain ⟨z0, q0, _⟩ := DataW.trod_int t0 g0
        obtain ⟨z1, q1, _⟩ := DataW.trod_int t1 g1
        have hDi : D i = .agg [y0.1, y1.1, y2.1] := by
          have := congrArg Prod.fst hxy
          simpa using this
        obtain ⟨lb, q3, q4⟩ := seg_of_cell_w t2 tb cb bb g2 (fun n hn => hw n (by
          rw [hd.1]
          simp only [DataW.weights, hT]
          refine List.mem_cons_of_mem _ (List.mem_append_left _ (weights_all_mem (i := i) (d := D i) (by simp [hi]) _ ?_))
          rw [hDi]
          simp only [DataW.weights, hE, DataW.weightsEach, List.map_cons, List.map_nil, List.append_nil]
          exact List.mem_append_right _ (List.mem_append_right _ hn)))
        simp at q0 q1
        subst q0
        subst q1
        exact ⟨⟨z0, z1, lb⟩, v2, by simpa using e0, by simpa using e1, by simpa using e2, q3, q4⟩
    haveI : Inhabited Pat := ⟨⟨0, 0, []⟩⟩
    obtain ⟨F, hF⟩ := choose_lt (α := Pat) each
    have hlen : ((List.range len).map F).length = len := by simp
    refine ⟨(List.range len).map F, some x, m, by rw [hlen], by rw [hlen]; omega, fun u hu => ?_, ?_⟩
    · obtain ⟨i, hi, rfl⟩ := List.mem_map.1 hu
      obtain ⟨_, _, _, _, _, h5⟩ := hF i (by simpa using hi)
      omega
    · rcases Nat.eq_zero_or_pos len with h0 | h0
      · left; rw [h0]; rfl
      · right
        obtain ⟨b, off, spot⟩ := x
        have hspot : spot = none := by
          obtain ⟨u, h0', _⟩ := hF 0 (by omega)
          simpa [Addr.add] using World.cell?_spot h0'
        subst hspot
        refine ⟨b, off, rfl, ?_, fun j hj => ?_⟩
        · obtain ⟨u, h1, _⟩ := hF 0 (by omega)
          rw [Go.WideShapes.add_plain] at h1
          exact block_lt_of_cell h1
        · rw [hlen] at hj
          obtain ⟨u, h1, h2, h3, h4, _⟩ := hF j hj
          rw [Go.WideShapes.add_plain] at h1 h2 h3
          rw [List.getElem_map, List.getElem_range]
          exact ⟨h1, by rw [show off + j * 3 + 1 = off + (j * 3 + 1) by omega]; exact h2, u, by rw [show off + j * 3 + 2 = off + (j * 3 + 2) by omega]; exact h3, h4⟩

set_option maxRecDepth 100000 in
theorem pats_of_trod {H : Type} {enc : TypeId × Value → H} {W : World} {base : Nat} {v : Value} {d : DataW H} {ps : List MemPlace}
    (hv : Value.okWide Tryz.prog W .any base 69 v) (h : DataW.Trod enc Tryz.prog W 0 (fun _ => true) true 69 v d ps) (hw : ∀ n ∈ d.weights Tryz.prog 69, n ≤ reachBytes) : ∃ us, PSeg W v us :=
  pats_of_trod' Tryz.underlying69 Tryz.underlying153 (by kernel_rfl) (by decide +kernel) rfl rfl rfl (by kernel_rfl) (by kernel_rfl) (by kernel_rfl) Tryz.underlying3 Tryz.underlying3 Tryz.underlying53 Tryz.underlying5 (by kernel_rfl) (by kernel_rfl) hv h hw

end Go.Proofs.YtpegbgomnpinfaaGreat

/- Lists of bits, as an argument brings them. -/
set_option linter.unusedVariables false
namespace Go.Proofs.YtpegbgomnpinfaaGreat
open Go.RowKit Go.ChangeShapes Go.WideShapes Go.ChangeAt Go.Deep

theorem boos_of_trod {H : Type} {enc : TypeId × Value → H} {P : Program} {W : World} {T E base : Nat} {v : Value} {d : DataW H} {ps : List MemPlace}
    (hT : P.underlying T = some (.slice E)) (hE : P.underlying E = some .bool) (hc : P.cellsOf E = 1)
    (hv : Value.okWide P W .any base T v) (h : DataW.Trod enc P W 0 (fun _ => true) true T v d ps) : ∃ l, BooSeg W v l ∧ l.length ≤ maxLen := by
  obtain ⟨a, len, cap, rfl⟩ := okWide_slice hT hv
  obtain ⟨fuel, hf⟩ := h
  rcases open_bools hT hE hc hf with ⟨hcs, _⟩ | ⟨x, l, c, B, hcs, _, hl, hm, _, hcell⟩
  · simp [Value.cells] at hcs
    obtain ⟨rfl, rfl, rfl⟩ := hcs
    exact ⟨[], ⟨none, 0, rfl, ⟨fun _ => ⟨rfl, rfl⟩, Nat.le_refl _⟩, .inl rfl⟩, by simp⟩
  · simp [Value.cells] at hcs
    obtain ⟨rfl, rfl, rfl⟩ := hcs
    have hlen : ((List.range len).map B).length = len := by simp
    refine ⟨(List.range len).map B, ⟨some x, cap, by rw [hlen], ⟨fun h => by simp at h, by rw [hlen]; exact hl⟩, ?_⟩, by rw [hlen]; omega⟩
    rcases Nat.eq_zero_or_pos len with h0 | h0
    · left
      subst h0
      rfl
    · right
      obtain ⟨b, off, spot⟩ := x
      have hspot : spot = none := by simpa [Addr.add] using World.cell?_spot (hcell 0 (by omega))
      subst hspot
      have hat : ∀ j, j < cap → W.cell? ⟨b, off + j, none⟩ = some (.bool (B j)) := fun j hj => by rw [← Go.WideShapes.add_plain]; exact hcell j hj
      have h00 := hat 0 (by omega)
      have hlt : b < W.heap.size := block_lt_of_cell h00
      refine ⟨b, off, rfl, hlt, fun j hj => ?_⟩
      rw [hlen] at hj
      rw [hat j (by omega)]
      simp

end Go.Proofs.YtpegbgomnpinfaaGreat

/- The plan laws' 'known' tells true. -/
set_option linter.unusedVariables false
namespace Go.Proofs.YtpegbgomnpinfaaGreat
open Go.RowKit

section
variable {P : Program}
/-- 'make([]T, n)', its run. -/
theorem run_make_same (w : World) (t e : TypeId) (sz bytes : Nat) (hT : SliceOf P t e sz bytes) (u : Value) (hz : ((P.info? e).bind (·.zero)).map (·.cells) = some (List.replicate sz u).toArray)
    (kl kc : IntKind) (n : Nat) (b2 : bytes * n ≤ 281474976710656) (b3 : n ≤ maxLen) :
    ∃ w', (Instr.makeSlice t (.int kl (n : Int)) (.int kc (n : Int))).run P w = .ok (.slice (some ⟨w.heap.size, 0, none⟩) n n) w' ∧ At w' w.heap.size (List.replicate (n * sz) u).toArray e ∧ Below w.heap.size w w' := by
  obtain ⟨h1, h0, i, z', h2, h3, h4, h5, h6⟩ := hT
  have hcells : z'.cells = (List.replicate sz u).toArray := by
    rw [h2] at hz
    simpa [h3] using hz
  obtain ⟨w', hrun, hown, hgr⟩ := run_make_full (P := P) w w.heap.size t e i z' sz h1 h2 h3 h4 kl kc n (by rw [h5]; exact b2) b3 (Nat.le_refl _)
  refine ⟨w', hrun, ?_, ?_⟩
  · obtain ⟨hlen, hh⟩ := hown
    rcases hh with ⟨hh, _⟩ | ⟨g', cap, cur, hv, hb, hg', hc', _, hs, ht⟩
    · cases hh
    · simp only [Value.slice.injEq, Option.some.injEq, Addr.mk.injEq] at hv
      obtain ⟨⟨rfl, _, _⟩, _, rfl⟩ := hv
      have e1 : cur.toList = List.replicate (n * sz) u := by
        rw [List.take_of_length_le (by simp [hs])] at ht
        rw [ht]
        apply List.ext_getElem?
        intro j
        rw [List.getElem?_replicate, hcells]
        by_cases hj : j < n * sz
        · have hm : j % sz < sz := Nat.mod_lt _ h0
          simp [madeCells, hj, hm]
        · simp [madeCells, hj]
      rw [← e1, Array.toArray_toList]
      exact hg'
  · exact (Below.refl _ _).grown hgr (Nat.le_refl _) (fun k hk => by simp at hk)
end

abbrev cg425 : Array Value := #[.int .i64 4, .int .i64 2, .int .i64 5]
def ps1 : List Pat := [⟨0, 0, secOf 1⟩]

theorem pseg_new (W : World) (m r : Int) (v : Value) (d : List UInt8) (hv : Seg W v d) (hd : d.length ≤ 140737488355000) : PSeg (W.alloc (.cells #[.int .i64 m, .int .i64 r, v] 153)) (.slice (some ⟨W.heap.size, 0, none⟩) 1 1) [⟨m, r, d⟩] := by
  refine ⟨_, 1, rfl, by simp, fun p hp => ?_, .inr ⟨W.heap.size, 0, rfl, by rw [size_alloc]; omega, fun j hj => ?_⟩⟩
  · simp only [List.mem_singleton] at hp
    subst hp
    exact hd
  · obtain rfl : j = 0 := by simpa using hj
    have hA := At.new W #[.int .i64 m, .int .i64 r, v] 153
    exact ⟨hA.cell 0, hA.cell 1, v, hA.cell 2, hv.below ((Below.refl _ _).alloc (Nat.le_refl _) _)⟩

theorem ps1_ok (k : Nat) : PlanOk 4 2 5 (goneAt k) ps1 0 := by
  refine ⟨by decide, by decide, by decide, fun p hp => ?_, fun p hp => ?_, fun p hp => ?_, fun p hp => ?_, fun i j hi hj hij => ?_, fun p hp => ?_, gone_lone _ _⟩
  all_goals try (unfold ps1 at hp; simp only [List.mem_singleton] at hp; subst hp)
  · rfl
  · exact Int.le_refl _
  · show (0 : Int) < ((4 : Nat) : Int); decide
  · show (0 : Int) ≠ ((parOf 4 2 0 : Nat) : Int); decide
  · unfold ps1 at hi hj
    simp at hi hj
    omega
  · exact secOf_length 1

def us4 : List (Int × List UInt8) := [(2, secOf 1), (0, secOf 2), (1, secOf 3), (0, secOf 4)]
theorem us4_ok : BatchOk 4 2 5 us4 := by
  refine ⟨by decide, by decide, fun u hu => ?_, fun u hu => ?_⟩
  all_goals unfold us4 at hu; simp only [List.mem_cons, List.not_mem_nil, or_false] at hu
  · unfold thereIs
    rcases hu with rfl | rfl | rfl | rfl <;> decide
  · rcases hu with rfl | rfl | rfl | rfl <;> exact secOf_length _
theorem us4_most : mostIn 4 (5 * 2) (tabAll 4 2 us4) = 5 := by decide +kernel

theorem putseg_new (W : World) (b1 b2 b3 b4 : Int) (v1 v2 v3 v4 : Value) (d1 d2 d3 d4 : List UInt8) (h1 : Seg W v1 d1) (h2 : Seg W v2 d2) (h3 : Seg W v3 d3) (h4 : Seg W v4 d4) (l1 : d1.length = 128) (l2 : d2.length = 128) (l3 : d3.length = 128) (l4 : d4.length = 128) :
    PutSeg (W.alloc (.cells #[.int .i64 b1, v1, .int .i64 b2, v2, .int .i64 b3, v3, .int .i64 b4, v4] 171)) (.slice (some ⟨W.heap.size, 0, none⟩) 4 4) [(b1, d1), (b2, d2), (b3, d3), (b4, d4)] := by
  have hb : Below W.heap.size W (W.alloc (.cells #[.int .i64 b1, v1, .int .i64 b2, v2, .int .i64 b3, v3, .int .i64 b4, v4] 171)) := (Below.refl _ _).alloc (Nat.le_refl _) _
  have hA := At.new W #[.int .i64 b1, v1, .int .i64 b2, v2, .int .i64 b3, v3, .int .i64 b4, v4] 171
  refine ⟨_, 4, rfl, by simp, fun u hu => ?_, .inr ⟨W.heap.size, 0, rfl, by rw [size_alloc]; omega, fun j hj => ?_⟩⟩
  · simp only [List.mem_cons, List.not_mem_nil, or_false] at hu
    rcases hu with rfl | rfl | rfl | rfl
    · show d1.length ≤ _; omega
    · show d2.length ≤ _; omega
    · show d3.length ≤ _; omega
    · show d4.length ≤ _; omega
  · match j, hj with
    | 0, _ => exact ⟨hA.cell 0, v1, hA.cell 1, h1.below hb⟩
    | 1, _ => exact ⟨hA.cell 2, v2, hA.cell 3, h2.below hb⟩
    | 2, _ => exact ⟨hA.cell 4, v3, hA.cell 5, h3.below hb⟩
    | 3, _ => exact ⟨hA.cell 6, v4, hA.cell 7, h4.below hb⟩
    | j + 4, h => simp at h; omega

def ls4 : List (List UInt8) := [[], secOf 2, secOf 4, []]
theorem segs_new (W : World) (v2 v4 : Value) (h2 : Seg W v2 (secOf 2)) (h4 : Seg W v4 (secOf 4)) : Segs (W.alloc (.cells #[.slice none 0 0, v2, v4, .slice none 0 0] 53)) (.slice (some ⟨W.heap.size, 0, none⟩) 4 4) ls4 := by
  have hb : Below W.heap.size W (W.alloc (.cells #[.slice none 0 0, v2, v4, .slice none 0 0] 53)) := (Below.refl _ _).alloc (Nat.le_refl _) _
  have hA := At.new W #[.slice none 0 0, v2, v4, .slice none 0 0] 53
  refine ⟨_, 4, rfl, Nat.le_refl _, .inr ⟨W.heap.size, 0, rfl, by rw [size_alloc]; omega, fun j hj => ?_⟩⟩
  match j, hj with
  | 0, _ => exact ⟨_, hA.cell 0, Seg.nil _⟩
  | 1, _ => exact ⟨_, hA.cell 1, h2.below hb⟩
  | 2, _ => exact ⟨_, hA.cell 2, h4.below hb⟩
  | 3, _ => exact ⟨_, hA.cell 3, Seg.nil _⟩
  | j + 4, h => simp [ls4] at h; omega

theorem sec_at (x : UInt8) (i : Nat) (h : i < 128) : (secOf x).getD i 0 = x := sumL_at _ _ _ h
theorem work4_new : sumL (xorUp (addsOf [1, 2] ls4 ps1) (2 + 1)) 128 = secOf 7 := by
  refine sumL_congr fun i hi => ?_
  show ((0 ^^^ (secOf 2).getD i 0) ^^^ (secOf 4).getD i 0) ^^^ (secOf 1).getD i 0 = 7
  rw [sec_at _ _ hi, sec_at _ _ hi, sec_at _ _ hi]
  decide

theorem of4 (k : Nat) (md : Nat) (rd : List Nat) (hmd : modeOf 4 ps1 (parOf 4 2 0) (if k < 4 then (k : Int) else -1) = md) (hrd : readsOf ps1 (parOf 4 2 0) 4 md = rd) (W : World) (vd vp : Value) (h1 : BSeg W vd (goneAt k) 4) (h2 : PSeg W vp ps1) :
    Calls Tryz.prog 22 #[.agg #[.int .i64 4, .int .i64 2, .int .i64 5], vd, vp] W fun e w' => ∃ vq vr, e = .returned (.tuple #[.agg #[.int .i64 0, .int .u8 md, .int .i64 3, vq, vr], .int .u16 0]) ∧ (∃ dv, PRow w' 0 vq ps1 1 dv) ∧ w'.ownsRow 0 3 1 vr rd.length (mcells rd) ∧ Below W.heap.size W w' :=
  (plan_Of 4 2 5 0 vd vp (goneAt k) ps1 W (ps1_ok k) h1 h2 _ (gone_at_is k 4)).mono fun e w' ⟨vq, vr, dv, e1, e2, e3, e4⟩ => by
    rw [hmd] at e1 e3
    rw [hrd] at e3
    exact ⟨vq, vr, e1, ⟨dv, e2.lower (Nat.zero_le _)⟩, rebase_row e3 (Nat.zero_le _), e4⟩

theorem work4 (W : World) (vd vq vr vrd : Value) (h1 : BSeg W vd (goneAt 0) 4) (h2 : PSeg W vq ps1) (h3 : ISeg W vr [1, 2]) (h4 : Segs W vrd ls4) :
    Calls Tryz.prog 33 #[.agg #[.int .i64 4, .int .i64 2, .int .i64 5], vd, .agg #[.int .i64 0, .int .u8 3, .int .i64 3, vq, vr], vrd] W fun e w' => ∃ v, e = .returned (.tuple #[v, .int .u16 0]) ∧ PSeg w' v [⟨3, 0, secOf 7⟩] ∧ Below W.heap.size W w' := by
  have hmd : modeOf 4 ps1 (parOf 4 2 0) (if 0 < 4 then ((0 : Nat) : Int) else -1) = 3 := by decide
  have hrd : readsOf ps1 (parOf 4 2 0) 4 3 = [1, 2] := by decide
  have h := plan_Work 4 2 5 0 vd vq vr vrd (goneAt 0) ps1 ls4 W (ps1_ok 0) _ (gone_at_is 0 4) h1 h2 (by rw [hmd, hrd]; exact h3) h4 rfl (fun m hm => by
    rw [hmd, hrd] at hm
    simp only [List.mem_cons, List.not_mem_nil, or_false] at hm
    rcases hm with rfl | rfl
    · exact ⟨by omega, secOf_length 2⟩
    · exact ⟨by omega, secOf_length 4⟩)
  rw [hmd, hrd] at h
  refine h.mono fun e w' ⟨v, X, e1, e2, e3, e4⟩ => ⟨v, e1, ?_, e4⟩
  have ho : outPats (goneAt 0) ps1 (parOf 4 2 0) 0 (sumL (xorUp (addsOf [1, 2] ls4 ps1) ([1, 2].length + ps1.length)) 128) = [⟨3, 0, secOf 7⟩] := by
    rw [show ([1, 2] : List Nat).length + ps1.length = 2 + 1 from rfl, work4_new]
    rfl
  rw [ho] at e3
  have hx := List.perm_singleton.1 e3
  have hl : X.length = 1 := by
    have := congrArg List.length hx
    simpa using this
  have := e2.pseg (by omega)
  rw [hx] at this
  exact this

end Go.Proofs.YtpegbgomnpinfaaGreat
