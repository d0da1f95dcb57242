/- Batches and patches, as an argument brings them. -/
import Derived.Test.YtkcfmkhakghniaaGreatMrg8
import Derived.Test.YtkcfmkhakghniaaGreatMrg1
import Derived.Deep.Slices
import Derived.ChangeArms
set_option linter.unusedVariables false
namespace Go.Proofs.YtkcfmkhakghniaaGreat
open Go.RowKit Go.ChangeShapes Go.WideShapes Go.ChangeAt Go.Deep

theorem seg_of_cell_w {H : Type} {enc : TypeId × Value → H} {P : Program} {W : World} {T E fuel : Nat} {v : Value} {x : DataW H × List MemPlace}
    (hT : P.underlying T = some (.slice E)) (hE : P.underlying E = some (.int .u8)) (hc : P.cellsOf E = 1) (hb : P.bytesOf E = 1)
    (hf : DataW.trod enc P W 0 (fun _ => true) true fuel T [v] = some x) (hw : ∀ n ∈ x.1.weights P T, n ≤ reachBytes) : ∃ l, Seg W v l ∧ l.length ≤ 140737488351232 := by
  rcases open_ints hT hE hc hf with ⟨hcs, _⟩ | ⟨x', len, cap, zs, hcs, _, hl, hm, hz, hy, hcell, hwz⟩
  · simp only [List.cons.injEq, and_true] at hcs
    subst hcs
    exact ⟨[], Seg.nil _, by simp⟩
  · simp only [List.cons.injEq, and_true] at hcs
    subst hcs
    simp at hz
    have hlen : ((zs.take len).map fun z => UInt8.ofNat z.toNat).length = len := by simp; omega
    refine ⟨(zs.take len).map fun z => UInt8.ofNat z.toNat, ⟨some x', cap, by rw [hlen], ⟨fun h => by simp at h, by rw [hlen]; exact hl⟩, ?_⟩, ?_⟩
    · rcases Nat.eq_zero_or_pos len with h0 | h0
      · left
        apply List.eq_nil_of_length_eq_zero
        omega
      · right
        obtain ⟨b, off, rfl, hat⟩ := ints_at hcell (by omega)
        have hlt : b < W.heap.size := block_lt_of_cell (hat 0 (by omega))
        refine ⟨b, off, rfl, hlt, fun j hj => ?_⟩
        rw [hlen] at hj
        rw [hat j (by omega)]
        have := bytes_of_ints zs hwz j (by omega)
        rw [List.getElem_map, List.getElem_take]
        rw [List.getD_eq_getElem?_getD, List.getElem?_eq_getElem (by omega)] at this
        rw [List.getD_eq_getElem?_getD, List.getElem?_eq_getElem (by omega)]
        simp only [Option.getD_some] at this ⊢
        rw [this]
    · rw [hlen]
      have hmem : ((lits .u8 (zs.take len) : List (DataW H)).length + (lits .u8 (zs.drop len) : List (DataW H)).length) * P.bytesOf E ≤ reachBytes := by
        apply hw
        rw [hy]
        simp only [DataW.weights, hT]
        exact List.mem_cons_self
      rw [hb] at hmem
      simp only [lits, List.length_map, List.length_take, List.length_drop, reachBytes] at hmem
      omega

theorem puts_of_trod' {H : Type} {enc : TypeId × Value → H} {P : Program} {W : World} {T E EB base : Nat} {v : Value} {d : DataW H} {ps : List MemPlace} {f0 f1 : Field}
    (hT : P.underlying T = some (.slice E)) (hE : P.underlying E = some (.struct #[f0, f1])) (ce : P.cellsOf E = 2) (be : 0 < P.bytesOf E) (o0 : f0.offset = 0) (o1 : f1.offset = 1) (c0 : P.cellsOf f0.type = 1) (c1 : P.cellsOf f1.type = 1)
    (t0 : P.underlying f0.type = some (.int .i64)) (t1 : P.underlying f1.type = some (.slice EB)) (tb : P.underlying EB = some (.int .u8)) (cb : P.cellsOf EB = 1) (bb : P.bytesOf EB = 1)
    (hv : Value.okWide P W .any base T v) (h : DataW.Trod enc P W 0 (fun _ => true) true T v d ps) (hw : ∀ n ∈ d.weights P T, n ≤ reachBytes) : ∃ us, PutSeg W v us := by
  obtain ⟨a, len, cap, rfl⟩ := Go.WideShapes.okWide_slice hT hv
  obtain ⟨fuel, hf⟩ := h
  rcases Go.Deep.open_slice hT hf with ⟨hcs, _⟩ | ⟨x, l, c, m, n, D, Pl, hcs, _, hl, hm, hmm, hd, hx⟩
  · simp [Value.cells] at hcs
    obtain ⟨rfl, rfl, rfl⟩ := hcs
    exact ⟨[], none, 0, rfl, by simp, by simp, .inl rfl⟩
  · simp [Value.cells] at hcs
    obtain ⟨rfl, rfl, rfl⟩ := hcs
    simp only [if_true] at hmm
    subst hmm
    simp only [Prod.mk.injEq] at hd
    have hlenb : len ≤ 140737488351232 := by
      have hmem : (((List.range len).map D).length + ((List.range (m - len)).map fun j => D (len + j)).length) * P.bytesOf E ≤ reachBytes := by
        apply hw
        rw [hd.1]
        simp only [DataW.weights, hT]
        exact List.mem_cons_self
      simp only [List.length_map, List.length_range, reachBytes] at hmem
      have := Nat.le_mul_of_pos_right (len + (m - len)) be
      omega
    rw [ce] at hx
    have each : ∀ i, i < len → ∃ z : Int × List UInt8, ∃ u, W.cell? (x.add (i * 2)) = some (.int .i64 z.1) ∧ W.cell? (x.add (i * 2 + 1)) = some u ∧ Seg W u z.2 ∧ z.2.length ≤ 140737488351232 := by
      intro i hi
      obtain ⟨cs', h1, h2⟩ := hx i (by omega)
      obtain ⟨_, hlen, hcell⟩ := World.cells?_some h1
      obtain ⟨xs, k, hk, hxy, _, hxl, hfld⟩ := DataW.trod_struct hE h2
      match xs, hxl, cs', hlen with
      | [y0, y1], _, [v0, v1], _ =>
        have g0 := hfld 0 f0 rfl
        have g1 := hfld 1 f1 rfl
        simp [o0, o1, c0, c1] at g0 g1
        have e0 := hcell 0 (by omega)
        have e1 := hcell 1 (by omega)
        rw [add_add] at e0 e1
        obtain ⟨z0, q0, _⟩ := DataW.trod_int t0 g0
        have hDi : D i = .agg [y0.1, y1.1] := by
          have := congrArg Prod.fst hxy
          simpa using this
        obtain ⟨lb, q3, q4⟩ := seg_of_cell_w t1 tb cb bb g1 (fun n hn => hw n (by
          rw [hd.1]
          simp only [DataW.weights, hT]
          refine List.mem_cons_of_mem _ (List.mem_append_left _ (weights_all_mem (i := i) (d := D i) (by simp [hi]) _ ?_))
          rw [hDi]
          simp only [DataW.weights, hE, DataW.weightsEach, List.map_cons, List.map_nil, List.append_nil]
          exact List.mem_append_right _ hn))
        simp at q0
        subst q0
        exact ⟨(z0, lb), v1, by simpa using e0, by simpa using e1, q3, q4⟩
    obtain ⟨F, hF⟩ := choose_lt (α := Int × List UInt8) each
    have hlen : ((List.range len).map F).length = len := by simp
    refine ⟨(List.range len).map F, some x, m, by rw [hlen], by rw [hlen]; omega, fun u hu => ?_, ?_⟩
    · obtain ⟨i, hi, rfl⟩ := List.mem_map.1 hu
      obtain ⟨_, _, _, _, h5⟩ := hF i (by simpa using hi)
      omega
    · rcases Nat.eq_zero_or_pos len with h0 | h0
      · left; rw [h0]; rfl
      · right
        obtain ⟨b, off, spot⟩ := x
        have hspot : spot = none := by
          obtain ⟨u, h0', _⟩ := hF 0 (by omega)
          simpa [Addr.add] using World.cell?_spot h0'
        subst hspot
        refine ⟨b, off, rfl, ?_, fun j hj => ?_⟩
        · obtain ⟨u, h1, _⟩ := hF 0 (by omega)
          rw [Go.WideShapes.add_plain] at h1
          exact block_lt_of_cell h1
        · rw [hlen] at hj
          obtain ⟨u, h1, h2, h3, h4⟩ := hF j hj
          rw [Go.WideShapes.add_plain] at h1 h2
          rw [List.getElem_map, List.getElem_range]
          exact ⟨h1, u, by rw [show off + j * 2 + 1 = off + (j * 2 + 1) by omega]; exact h2, h3⟩

set_option maxRecDepth 100000 in
theorem puts_of_trod {H : Type} {enc : TypeId × Value → H} {W : World} {base : Nat} {v : Value} {d : DataW H} {ps : List MemPlace}
    (hv : Value.okWide Tryz.prog W .any base 68 v) (h : DataW.Trod enc Tryz.prog W 0 (fun _ => true) true 68 v d ps) (hw : ∀ n ∈ d.weights Tryz.prog 68, n ≤ reachBytes) : ∃ us, PutSeg W v us :=
  puts_of_trod' Tryz.underlying68 Tryz.underlying167 (by kernel_rfl) (by decide +kernel) rfl rfl (by kernel_rfl) (by kernel_rfl) Tryz.underlying3 Tryz.underlying53 Tryz.underlying5 (by kernel_rfl) (by kernel_rfl) hv h hw

end Go.Proofs.YtkcfmkhakghniaaGreat
