/- A script, as an argument brings it. -/
import Derived.Test.YtkcfmkhakghniaaGeoO
import Derived.Deep.Slices
import Derived.ChangeArms
set_option linter.unusedVariables false
namespace Go
open Go.RowKit Go.ChangeShapes Go.WideShapes Go.ChangeAt

theorem seg_of_cell {H : Type} {enc : TypeId × Value → H} {P : Program} {W : World} {T E fuel : Nat} {v : Value} {x : DataW H × List MemPlace}
    (hT : P.underlying T = some (.slice E)) (hE : P.underlying E = some (.int .u8)) (hc : P.cellsOf E = 1)
    (hf : DataW.trod enc P W 0 (fun _ => true) true fuel T [v] = some x) : ∃ l, Seg W v l ∧ l.length ≤ 9223372036854775807 := by
  rcases open_ints hT hE hc hf with ⟨hcs, _⟩ | ⟨x, len, cap, zs, hcs, _, hl, hm, hz, _, hcell, hwz⟩
  · simp only [List.cons.injEq, and_true] at hcs
    subst hcs
    exact ⟨[], Seg.nil _, by simp⟩
  · simp only [List.cons.injEq, and_true] at hcs
    subst hcs
    simp at hz
    have hlen : ((zs.take len).map fun z => UInt8.ofNat z.toNat).length = len := by simp; omega
    refine ⟨(zs.take len).map fun z => UInt8.ofNat z.toNat, ⟨some x, cap, by rw [hlen], ⟨fun h => by simp at h, by rw [hlen]; exact hl⟩, ?_⟩, by rw [hlen]; unfold maxLen at hm; omega⟩
    rcases Nat.eq_zero_or_pos len with h0 | h0
    · left
      apply List.eq_nil_of_length_eq_zero
      omega
    · right
      obtain ⟨b, off, rfl, hat⟩ := ints_at hcell (by omega)
      have hlt : b < W.heap.size := block_lt_of_cell (hat 0 (by omega))
      refine ⟨b, off, rfl, hlt, fun j hj => ?_⟩
      rw [hlen] at hj
      rw [hat j (by omega)]
      have := bytes_of_ints zs hwz j (by omega)
      rw [List.getElem_map, List.getElem_take]
      rw [List.getD_eq_getElem?_getD, List.getElem?_eq_getElem (by omega)] at this
      rw [List.getD_eq_getElem?_getD, List.getElem?_eq_getElem (by omega)]
      simp only [Option.getD_some] at this ⊢
      rw [this]

end Go
namespace Go.Proofs.Ytkcfmkhakghniaa
open Go.RowKit Go.ChangeShapes Go.WideShapes Go.Deep

theorem acts_of_trod' {H : Type} {enc : TypeId × Value → H} {P : Program} {W : World} {T E EB base : Nat} {v : Value} {d : DataW H} {ps : List MemPlace} {f0 f1 f2 f3 : Field}
    (hT : P.underlying T = some (.slice E)) (hE : P.underlying E = some (.struct #[f0, f1, f2, f3])) (ce : P.cellsOf E = 4) (o1 : f1.offset = 1) (o2 : f2.offset = 2) (o3 : f3.offset = 3) (c1 : P.cellsOf f1.type = 1) (c2 : P.cellsOf f2.type = 1) (c3 : P.cellsOf f3.type = 1)
    (t1 : P.underlying f1.type = some (.int .i64)) (t2 : P.underlying f2.type = some (.int .i64)) (t3 : P.underlying f3.type = some (.slice EB)) (tb : P.underlying EB = some (.int .u8)) (cb : P.cellsOf EB = 1)
    (hv : Value.okWide P W .any base T v) (h : DataW.Trod enc P W 0 (fun _ => true) true T v d ps) : ∃ l, Acts W v l := by
  obtain ⟨a, len, cap, rfl⟩ := Go.WideShapes.okWide_slice hT hv
  obtain ⟨fuel, hf⟩ := h
  rcases Go.Deep.open_slice hT hf with ⟨hcs, _⟩ | ⟨x, l, c, m, n, D, Pl, hcs, _, hl, hm, hmm, hd, hx⟩
  · simp [Value.cells] at hcs
    obtain ⟨rfl, rfl, rfl⟩ := hcs
    exact ⟨[], Acts.nil W⟩
  · simp [Value.cells] at hcs
    obtain ⟨rfl, rfl, rfl⟩ := hcs
    simp only [if_true] at hmm
    subst hmm
    rw [ce] at hx
    have each : ∀ i, i < len → ∃ z : Int × Int × List UInt8, ∃ u y, W.cell? (x.add (i * 4)) = some y ∧ W.cell? (x.add (i * 4 + 1)) = some (.int .i64 z.1) ∧ W.cell? (x.add (i * 4 + 2)) = some (.int .i64 z.2.1) ∧ W.cell? (x.add (i * 4 + 3)) = some u ∧ Seg W u z.2.2 ∧ z.2.2.length ≤ 9223372036854775807 := by
      intro i hi
      obtain ⟨cs', h1, h2⟩ := hx i (by omega)
      obtain ⟨_, hlen, hcell⟩ := World.cells?_some h1
      obtain ⟨xs, k, hk, hxy, _, hxl, hfld⟩ := DataW.trod_struct hE h2
      match xs, hxl, cs', hlen with
      | [y0, y1, y2, y3], _, [v0, v1, v2, v3], _ =>
        have g1 := hfld 1 f1 rfl
        have g2 := hfld 2 f2 rfl
        have g3 := hfld 3 f3 rfl
        simp [o1, o2, o3, c1, c2, c3] at g1 g2 g3
        have e0 := hcell 0 (by omega)
        have e1 := hcell 1 (by omega)
        have e2 := hcell 2 (by omega)
        have e3 := hcell 3 (by omega)
        rw [add_add] at e0 e1 e2 e3
        obtain ⟨z1, q1, _⟩ := DataW.trod_int t1 g1
        obtain ⟨z2, q2, _⟩ := DataW.trod_int t2 g2
        obtain ⟨lb, q3, q4⟩ := seg_of_cell t3 tb cb g3
        simp at q1 q2
        subst q1
        subst q2
        exact ⟨(z1, z2, lb), v3, v0, by simpa using e0, by simpa using e1, by simpa using e2, by simpa using e3, q3, q4⟩
    obtain ⟨F, hF⟩ := choose_lt (α := Int × Int × List UInt8) each
    have hlen : ((List.range len).map F).length = len := by simp
    refine ⟨(List.range len).map F, some x, m, by rw [hlen], by rw [hlen]; unfold maxLen at hm; omega, ?_⟩
    rcases Nat.eq_zero_or_pos len with h0 | h0
    · left; rw [h0]; rfl
    · right
      obtain ⟨b, off, spot⟩ := x
      have hspot : spot = none := by
        obtain ⟨u, y, h0', _⟩ := hF 0 (by omega)
        simpa [Addr.add] using World.cell?_spot h0'
      subst hspot
      refine ⟨b, off, rfl, ?_, fun j hj => ?_⟩
      · obtain ⟨u, y, h1, _⟩ := hF 0 (by omega)
        rw [Go.WideShapes.add_plain] at h1
        exact block_lt_of_cell h1
      · rw [hlen] at hj
        obtain ⟨u, y, -, h1, h2, h3, h4, h5⟩ := hF j hj
        rw [Go.WideShapes.add_plain] at h1 h2 h3
        rw [List.getElem_map, List.getElem_range]
        exact ⟨u, by rw [show off + j * 4 + 1 = off + (j * 4 + 1) by omega]; exact h1, by rw [show off + j * 4 + 2 = off + (j * 4 + 2) by omega]; exact h2, by rw [show off + j * 4 + 3 = off + (j * 4 + 3) by omega]; exact h3, h4, h5⟩

set_option maxRecDepth 100000 in
theorem acts_of_trod {H : Type} {enc : TypeId × Value → H} {W : World} {base : Nat} {v : Value} {d : DataW H} {ps : List MemPlace}
    (hv : Value.okWide Try.prog W .any base 45 v) (h : DataW.Trod enc Try.prog W 0 (fun _ => true) true 45 v d ps) : ∃ l, Acts W v l :=
  acts_of_trod' Try.underlying45 Try.underlying47 (by kernel_rfl) rfl rfl rfl (by kernel_rfl) (by kernel_rfl) (by kernel_rfl) Try.underlying3 Try.underlying3 Try.underlying34 Try.underlying5 (by kernel_rfl) hv h

end Go.Proofs.Ytkcfmkhakghniaa
