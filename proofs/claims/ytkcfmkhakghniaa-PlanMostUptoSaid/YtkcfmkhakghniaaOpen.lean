/- What an argument's reading gives to a walk. -/
import Derived.Test.YtkcfmkhakghniaaBlk
import Derived.OpenShut
import Derived.ProofKit
namespace Go
open Go.ChangeShapes Go.WideShapes Go.ChangeAt Go.RowKit

theorem bytes_of_ints (zs : List Int) (h : ∀ n ∈ zs, (Lit.int .u8 n).wf = true) (j : Nat) (hj : j < zs.length) :
    ((UInt8.ofNat (zs.getD j 0).toNat).toNat : Int) = zs.getD j 0 := by
  have hm : zs.getD j 0 ∈ zs := by
    rw [List.getD_eq_getElem?_getD, List.getElem?_eq_getElem hj]
    simp
  have hw := h _ hm
  have hb := bounds_u8 hw
  rw [UInt8.toNat_ofNat']
  omega

theorem seg_of_trod {H : Type} {enc : TypeId × Value → H} {P : Program} {W : World} {T E base : Nat} {v : Value} {d : DataW H} {ps : List MemPlace}
    (hT : P.underlying T = some (.slice E)) (hE : P.underlying E = some (.int .u8)) (hc : P.cellsOf E = 1)
    (hv : Value.okWide P W .any base T v) (h : DataW.Trod enc P W 0 (fun _ => true) true T v d ps) : ∃ l, Seg W v l ∧ l.length ≤ 9223372036854775807 := by
  obtain ⟨a, len, cap, rfl⟩ := okWide_slice hT hv
  obtain ⟨fuel, hf⟩ := h
  rcases open_ints hT hE hc hf with ⟨hcs, _⟩ | ⟨x, l, c, zs, hcs, _, hl, hm, hz, _, hcell, hwz⟩
  · simp [Value.cells] at hcs
    obtain ⟨rfl, rfl, rfl⟩ := hcs
    exact ⟨[], Seg.nil _, by simp⟩
  · simp [Value.cells] at hcs
    obtain ⟨rfl, rfl, rfl⟩ := hcs
    simp at hz
    have hlen : ((zs.take len).map fun z => UInt8.ofNat z.toNat).length = len := by simp; omega
    refine ⟨(zs.take len).map fun z => UInt8.ofNat z.toNat, ⟨some x, cap, by rw [hlen], ⟨fun h => by simp at h, by rw [hlen]; exact hl⟩, ?_⟩, by rw [hlen]; unfold maxLen at hm; omega⟩
    rcases Nat.eq_zero_or_pos len with h0 | h0
    · left
      apply List.eq_nil_of_length_eq_zero
      omega
    · right
      obtain ⟨b, off, rfl, hat⟩ := ints_at hcell (by omega)
      have hlt : b < W.heap.size := block_lt_of_cell (hat 0 (by omega))
      refine ⟨b, off, rfl, hlt, fun j hj => ?_⟩
      rw [hlen] at hj
      rw [hat j (by omega)]
      have := bytes_of_ints zs hwz j (by omega)
      rw [List.getElem_map, List.getElem_take]
      rw [List.getD_eq_getElem?_getD, List.getElem?_eq_getElem (by omega)] at this
      rw [List.getD_eq_getElem?_getD, List.getElem?_eq_getElem (by omega)]
      simp only [Option.getD_some] at this ⊢
      rw [this]

end Go
