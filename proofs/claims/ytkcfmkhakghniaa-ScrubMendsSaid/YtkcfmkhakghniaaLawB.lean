/- The scrub laws' own helpers: a sector, the sizes. -/
import Derived.Test.YtkcfmkhakghniaaLawA
set_option linter.unusedVariables false
namespace Go.Proofs.Ytkcfmkhakghniaa
open Go.RowKit

theorem zsec_ucells : (List.replicate (128 * 1) (Value.int .u8 0)) = ucells zsec := by
  unfold zsec ucells
  rw [List.map_replicate]
  rfl

/-- A byte of a block of bytes is turned. -/
theorem ucells_set (l : List UInt8) (i : Nat) (x : UInt8) : (ucells l).toArray.setIfInBounds i (.int .u8 ((x.toNat : Nat) : Int)) = (ucells (l.set i x)).toArray := by
  apply Array.ext_getElem?
  intro j
  rw [Array.getElem?_setIfInBounds]
  simp only [List.getElem?_toArray, List.size_toArray, ucells_length]
  unfold ucells
  rw [List.getElem?_map, List.getElem?_map, List.getElem?_set]
  by_cases h : i = j
  · subst h
    by_cases hi : i < l.length
    · simp [hi]
    · simp [hi]
  · simp [h]

theorem seg_row {w : World} {g : Nat} {l : List UInt8} (h : At w g (ucells l).toArray 5) (hl : l.length = 128) : w.ownsRow 0 5 1 (.slice (some ⟨g, 0, none⟩) 128 128) 128 (ucells l) := by
  refine ⟨by rw [ucells_length, hl], .inr ⟨g, 128, (ucells l).toArray, rfl, Nat.zero_le _, h, Nat.le_refl _, by decide, by simp [ucells_length, hl], ?_⟩⟩
  rw [List.take_of_length_le (by rw [ucells_length]; omega)]

set_option maxRecDepth 100000 in
set_option maxHeartbeats 1000000 in
theorem law_sector (x : UInt8) (w : World) :
    Calls Try.prog 38 #[.int .u8 ((x.toNat : Nat) : Int)] w fun e w' => e = .returned (.slice (some ⟨w.heap.size, 0, none⟩) 128 128) ∧ At w' w.heap.size (ucells (zsec.set 7 x)).toArray 5 ∧ Below w.heap.size w w' := by
  have hset := Lib.hid (ucells_set zsec 7 x)
  generalize hy : ((x.toNat : Nat) : Int) = y at *
  clear hy
  go_enter Try.func38, Try.ntmps38
  go_wp2_with (refine wpList_make_same rfl _ _ 34 5 1 1 rfl slice_bytes (.int .u8 0) (by kernel_rfl) _ _ _ _ 128 rfl rfl rfl rfl (by omega) (by unfold maxLen; omega) ?_; intro w1 a1 b1; rw [zsec_ucells] at a1; have f0 := a1.free 7; have d0 : w1.cell? ⟨w.heap.size, 7, none⟩ = some (.int .u8 0) := (a1.cell 7).trans (by simp [ucells, zsec]); have A1 := Lib.hid a1; clear a1)
  go_ret
  refine ⟨rfl, ?_, b1.setCell (p := ⟨w.heap.size, 7, none⟩) (Nat.le_refl _) _⟩
  rw [← hset.out]
  exact A1.out.set 7 _

/-- The sizes of a geometry's disks, and one for the journal. -/
def sizeL (M R : Nat) : List Nat := List.replicate M (1 + R) ++ [7]
theorem sizeL_length (M R : Nat) : (sizeL M R).length = M + 1 := by simp [sizeL]
theorem sizeL_at (M R m : Nat) (h : m < M) : (sizeL M R).getD m 0 = 1 + R := by
  unfold sizeL
  rw [List.getD_eq_getElem?_getD, List.getElem?_append_left (by simpa using h), List.getElem?_replicate, if_pos h]
  rfl

set_option maxRecDepth 100000 in
set_option maxHeartbeats 4000000 in
theorem law_sizes (M C S : Nat) (w : World) (hg : geoIs M C S = true) :
    Calls Try.prog 12 #[geo M C S] w fun e w' => ∃ v, e = .returned v ∧ w'.ownsRow (w.heap.size + 1) 3 1 v (sizeL M (S * C)).length (kcells (sizeL M (S * C))) ∧ Below w.heap.size w w' := by
  obtain ⟨g1, g2, g3, g4, g5, g6⟩ := (geoIs_iff M C S).1 hg
  have hbd := geo_bounds hg
  have hR1 : S * C ≤ 4096 := by have := hbd.2; exact_mod_cast this
  have hrows : Hid (∀ W, Calls Try.prog 14 #[geo M C S] W fun e w' => e = .returned (.int .i64 ((S * C : Nat) : Int)) ∧ Below W.heap.size W w') := fun W => (ref_rows M C S W).mono fun e w' ⟨x1, x2⟩ => ⟨by rw [x1]; unfold geoRows; rw [if_pos hg, Int.natCast_mul], x2⟩
  have e1 : (w.alloc (.cells #[.int .i64 M, .int .i64 C, .int .i64 S] 23)).heap.size = w.heap.size + 1 := size_alloc _ _
  clear hbd
  generalize S * C = R at *
  unfold geo at *
  go_enter Try.func12, Try.ntmps12
  go_wp2
  go_loopw [3, 4] (fun v q wr => ∃ k : Nat, k ≤ M ∧ q = .int .i64 k ∧ wr.ownsRow (w.heap.size + 1) 3 1 v k (kcells (List.replicate k (1 + R))) ∧ Below w.heap.size w wr ∧ At wr w.heap.size #[.int .i64 M, .int .i64 C, .int .i64 S] 23) (fun _ q _ => M - (intOf q).toNat)
  case atStart => exact ⟨0, by omega, rfl, World.ownsRow_nil _ _ _ _, (Below.refl _ _).alloc (Nat.le_refl _) _, At.new _ _ _⟩
  case round =>
    obtain ⟨k, hk, rfl, hown, hbel, hA⟩ := hrel
    have c0 := hA.cell 0
    have c1 := hA.cell 1
    have c2 := hA.cell 2
    have HA := Lib.hid hA
    have HO := Lib.hid hown
    have hzl := hA.lt
    clear hA hown
    by_cases hkM : k < M
    · have K1 : Hid (k + 1 ≤ M) := hkM
      go_wp2_with (first
        | (go_at_call 14; refine (hrows.out _).mono ?_; rintro e w2 ⟨rfl, hb2⟩; have hown2 := ownsRow_below HO.out hb2 (Nat.le_refl _))
        | (refine wpList_append_one rfl _ _ 31 3 8 rfl slice_ints (w.heap.size + 1) u3 k _ rfl hown2 _ rfl rfl (by unfold maxLen; omega) (by omega) (by have := hb2.size; omega) ?_; intro v' w5 hown5 hb5 hgr5))
      refine ⟨⟨k + 1, K1.out, by go_num, ?_, (below_then hbel hb2).trans (hb5.mono (Nat.le_succ _)), (HA.out.below hb2 hzl).below hb5 (Nat.lt_succ_self _)⟩, by simp [intOf]; omega⟩
      rw [List.replicate_succ', kcells_snoc, show (((1 + R : Nat)) : Int) = 1 + (R : Int) by omega]
      exact hown5
    · obtain rfl : k = M := by omega
      go_wp2_with (first
        | (refine wpList_append_one rfl _ _ 31 3 8 rfl slice_ints (w.heap.size + 1) u3 k _ rfl HO.out _ rfl rfl (by unfold maxLen; omega) (by omega) (by omega) ?_; intro v' w5 hown5 hb5 hgr5))
      go_ret
      refine ⟨v', rfl, ?_, hbel.trans (hb5.mono (Nat.le_succ _))⟩
      rw [sizeL_length]
      unfold sizeL
      rw [kcells_snoc]
      exact hown5

end Go.Proofs.Ytkcfmkhakghniaa
