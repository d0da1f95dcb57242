/- A row of calls, as an argument brings it: structs of two numbers. -/
import Derived.Test.YtjmnbpghfnageaaRingJ
import Derived.Deep.SlicePairs
import Derived.OpenShut
import Derived.ProofKit
set_option linter.unusedVariables false
namespace Go.Proofs.Ytjmnbpghfnageaa
open Go.RowKit Go.ChangeShapes Go.WideShapes Go.ChangeAt Go.Deep

/-- A slice of pairs of numbers. -/
def Ops (w : World) (v : Value) (l : List (Int × Int)) : Prop :=
  ∃ a cap, v = .slice a l.length cap ∧ l.length ≤ 9223372036854775807 ∧
    (l = [] ∨ ∃ b off, a = some ⟨b, off, none⟩ ∧ b < w.heap.size ∧ ∀ j (h : j < l.length), w.cell? ⟨b, off + j * 2, none⟩ = some (.int .i64 l[j].1) ∧ w.cell? ⟨b, off + j * 2 + 1, none⟩ = some (.int .i64 l[j].2))

theorem Ops.below {w w' : World} {v : Value} {l : List (Int × Int)} (h : Ops w v l) (hb : Below w.heap.size w w') : Ops w' v l := by
  obtain ⟨a, cap, hv, hc, h⟩ := h
  refine ⟨a, cap, hv, hc, ?_⟩
  rcases h with h | ⟨b, off, ha, hlt, hx⟩
  · exact .inl h
  · refine .inr ⟨b, off, ha, Nat.lt_of_lt_of_le hlt hb.size, fun j hj => ?_⟩
    obtain ⟨h1, h2⟩ := hx j hj
    exact ⟨(hb.cell (p := ⟨b, off + j * 2, none⟩) hlt).trans h1, (hb.cell (p := ⟨b, off + j * 2 + 1, none⟩) hlt).trans h2⟩

theorem Ops.shape {w : World} {v : Value} {l : List (Int × Int)} (h : Ops w v l) : ∃ a cap, v = .slice a l.length cap := by
  obtain ⟨a, cap, hv, _⟩ := h
  exact ⟨a, cap, hv⟩

theorem Ops.full {w : World} {v : Value} {l : List (Int × Int)} (h : Ops w v l) (hl : 0 < l.length) :
    ∃ b off cap, v = .slice (some ⟨b, off, none⟩) l.length cap ∧ b < w.heap.size ∧ ∀ j (h : j < l.length), w.cell? ⟨b, off + j * 2, none⟩ = some (.int .i64 l[j].1) ∧ w.cell? ⟨b, off + j * 2 + 1, none⟩ = some (.int .i64 l[j].2) := by
  obtain ⟨a, cap, hv, _, h⟩ := h
  rcases h with rfl | ⟨b, off, rfl, hb, hc⟩
  · simp at hl
  · exact ⟨b, off, cap, hv, hb, hc⟩

theorem ops_of_trod {H : Type} {enc : TypeId × Value → H} {P : Program} {W : World} {T E base : Nat} {v : Value} {d : DataW H} {ps : List MemPlace} {f0 f1 : Field}
    (hT : P.underlying T = some (.slice E)) (hE : P.underlying E = some (.struct #[f0, f1])) (ce : P.cellsOf E = 2) (o0 : f0.offset = 0) (o1 : f1.offset = 1) (c0 : P.cellsOf f0.type = 1) (c1 : P.cellsOf f1.type = 1)
    (t0 : P.underlying f0.type = some (.int .i64)) (t1 : P.underlying f1.type = some (.int .i64))
    (hv : Value.okWide P W .any base T v) (h : DataW.Trod enc P W 0 (fun _ => true) true T v d ps) : ∃ l, Ops W v l := by
  obtain ⟨a, len, cap, rfl⟩ := okWide_slice hT hv
  obtain ⟨fuel, hf⟩ := h
  rcases Go.Deep.open_slice_pairs hT hE ce o0 o1 c0 c1 hf with ⟨hcs, _⟩ | ⟨x, l, c, m, n, V0, V1, D0, D1, P0, P1, hcs, _, hl, hm, hmm, hd, hx⟩
  · simp [Value.cells] at hcs
    obtain ⟨rfl, rfl, rfl⟩ := hcs
    exact ⟨[], none, 0, rfl, by simp, .inl rfl⟩
  · simp [Value.cells] at hcs
    obtain ⟨rfl, rfl, rfl⟩ := hcs
    simp only [if_true] at hmm
    subst hmm
    have each : ∀ i, i < len → ∃ z : Int × Int, V0 i = .int .i64 z.1 ∧ V1 i = .int .i64 z.2 := by
      intro i hi
      obtain ⟨_, _, h1, h2⟩ := hx i (by omega)
      obtain ⟨z0, e0, _⟩ := DataW.trod_int t0 h1
      obtain ⟨z1, e1, _⟩ := DataW.trod_int t1 h2
      simp at e0 e1
      exact ⟨(z0, z1), e0, e1⟩
    obtain ⟨F, hF⟩ := choose_lt (α := Int × Int) each
    have hlen : ((List.range len).map F).length = len := by simp
    refine ⟨(List.range len).map F, some x, m, by rw [hlen], by rw [hlen]; unfold maxLen at hm; omega, ?_⟩
    rcases Nat.eq_zero_or_pos len with h0 | h0
    · left; rw [h0]; rfl
    · right
      obtain ⟨b, off, spot⟩ := x
      have hspot : spot = none := by simpa [Addr.add] using World.cell?_spot (hx 0 (by omega)).1
      subst hspot
      refine ⟨b, off, rfl, ?_, fun j hj => ?_⟩
      · have := (hx 0 (by omega)).1
        rw [Go.WideShapes.add_plain] at this
        exact block_lt_of_cell this
      · rw [hlen] at hj
        obtain ⟨h1, h2, _, _⟩ := hx j (by omega)
        obtain ⟨e0, e1⟩ := hF j hj
        rw [Go.WideShapes.add_plain] at h1 h2
        rw [List.getElem_map, List.getElem_range]
        exact ⟨by rw [h1, e0], by rw [show off + j * 2 + 1 = off + (j * 2 + 1) by omega, h2, e1]⟩

end Go.Proofs.Ytjmnbpghfnageaa
