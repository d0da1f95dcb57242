/- The book: a plan. -/
import Derived.Test.YtpegbgomnpinfaaGreatPlzN
import Derived.Test.YtpegbgomnpinfaaGreatPlnF
import Derived.Test.YtpegbgomnpinfaaGreatMrg12
set_option linter.unusedVariables false
namespace Go.Proofs.YtpegbgomnpinfaaGreat
open Go.RowKit

/-- A row of patches by places, as one of patches with their bytes. -/
def orowOf (ps : List Pat) (dv : Nat → Value) : List OP := (List.range ps.length).map fun j => (ps.getD j pat0, dv j)
theorem orowOf_len (ps : List Pat) (dv : Nat → Value) : (orowOf ps dv).length = ps.length := by unfold orowOf; simp
theorem orowOf_at (ps : List Pat) (dv : Nat → Value) (j : Nat) (hj : j < ps.length) : (orowOf ps dv).getD j op0 = (ps.getD j pat0, dv j) := by
  unfold orowOf
  rw [List.getD_eq_getElem?_getD, List.getElem?_map, List.getElem?_range hj]
  rfl
theorem orowOf_pats (ps : List Pat) (dv : Nat → Value) : (orowOf ps dv).map (·.1) = ps := by
  unfold orowOf
  rw [List.map_map]
  apply List.ext_getElem
  · simp
  · intro i h1 h2
    rw [List.getElem_map, List.getElem_range]
    exact getD_of ps i h2
theorem PRow.orow {w : World} {B : Nat} {v : Value} {ps : List Pat} {dv : Nat → Value} (h : PRow w B v ps ps.length dv) : ORow w B v (orowOf ps dv) := by
  refine ⟨?_, fun x hx => ?_, ?_⟩
  · rw [orowOf_len, elems_congr (g := patCells ps dv) (fun j hj => by rw [orowOf_at ps dv j hj]; rfl)]
    exact h.row
  · unfold orowOf at hx
    obtain ⟨j, hj, rfl⟩ := List.mem_map.1 hx
    exact h.dat j (List.mem_range.1 hj)
  · rw [List.pairwise_iff_getElem]
    intro i j hi hj hij g hg
    have ei : (orowOf ps dv)[i]'hi = (ps.getD i pat0, dv i) := by simp [orowOf]
    have ej : (orowOf ps dv)[j]'hj = (ps.getD j pat0, dv j) := by simp [orowOf]
    rw [ei] at hg
    rw [ej]
    rw [orowOf_len] at hj
    exact h.apart i j hij hj g hg

theorem bks_at {W : World} {K g : Nat} {cs : Array Value} {t : TypeId} (h : At W g cs t) (h1 : t ≠ 51) (h2 : t ≠ 53) (h3 : t ≠ 27) (h4 : t ≠ 69) : ¬ BkS W K g := fun ⟨_, cs', t', ha, ht⟩ => by
  obtain ⟨-, rfl⟩ := at_one h ha
  rcases ht with rfl | rfl | rfl | rfl
  · exact h1 rfl
  · exact h2 rfl
  · exact h3 rfl
  · exact h4 rfl

set_option maxRecDepth 100000 in
set_option maxHeartbeats 4000000 in
theorem book_plan {W : World} {K n : Nat} {bs is ps : List Value} {vq vr : Value} {X : List OP} {xs : List Value} (r md par : Int) (h : Bk W K bs is ps) (hn : bs.length + X.length ≤ 1000000) (hin : is.length ≤ 1000000) (hpn : ps.length ≤ 1000000)
    (hq : ORow W 0 vq X) (hXl : X.length ≤ 100000) (hap : OffAll ps vq) (hd : ∀ x ∈ X, OffAll bs x.2) (hr : W.ownsRow 0 3 1 vr n xs) (hl : xs.length ≤ 300000) (hai : OffAll is vr) :
    Calls Tryz.prog 27 #[.pointer (some ⟨K, 0, none⟩), .agg #[.int .i64 r, .int .u8 md, .int .i64 par, vq, vr]] W fun e W' => e = .returned (.tuple #[]) ∧ Bk W' K (bs ++ X.map (·.2)) (is ++ [vr]) (ps ++ [vq]) ∧ Chg (BkS W K) W W' := by
  obtain ⟨qa, qc, rfl⟩ := ownsRow_shape hq.row
  obtain ⟨ra, rc, rfl⟩ := ownsRow_shape hr
  have HB0 : Hid (Below W.heap.size W (W.alloc (.cells #[.int .i64 r, .int .u8 md, .int .i64 par, .slice qa X.length qc, .slice ra n rc] 75))) := (Below.refl _ _).alloc (Nat.le_refl _) _
  have HC0 : Hid (Chg (BkS W K) W (W.alloc (.cells #[.int .i64 r, .int .u8 md, .int .i64 par, .slice qa X.length qc, .slice ra n rc] 75))) := (Chg.refl _ _).alloc _
  have HA0 : Hid (At (W.alloc (.cells #[.int .i64 r, .int .u8 md, .int .i64 par, .slice qa X.length qc, .slice ra n rc] 75)) W.heap.size #[.int .i64 r, .int .u8 md, .int .i64 par, .slice qa X.length qc, .slice ra n rc] 75) := At.new _ _ _
  have HP := Lib.hid (book_patches (h.below HB0.out) hn hpn (hq.below HB0.out) hXl hap hd)
  have HR := Lib.hid (ownsRow_below hr HB0.out (Nat.le_refl _))
  have HI : Hid (∀ W1, Bk W1 K (bs ++ X.map (·.2)) is (ps ++ [.slice qa X.length qc]) → W1.ownsRow 0 3 1 (.slice ra n rc) n xs → _) := fun W1 h1 h2 => book_ints h1 hin h2 hl hai
  clear h hq hr hap hd hai
  go_enter Tryz.func27, Tryz.ntmps27
  go_wp2_with (first
    | (go_at_call 41; (with_reducible refine HP.out.mono ?_); rintro e w1 ⟨rfl, hk1, hc1⟩; have HK1 := Lib.hid hk1; have hA1 := HA0.out.mod hc1 (bks_at HA0.out (by decide) (by decide) (by decide) (by decide)); have c4 := hA1.cell 4; have HR1 := Lib.hid (ownsRow_mod HR.out hc1 (bks_off HR.out (by decide) (by decide) (by decide) (by decide))); have HC1 := Lib.hid (bks_trans HC0.out hc1); clear hk1 hc1 hA1)
    | (go_at_call 63; (with_reducible refine (HI.out _ HK1.out HR1.out).mono ?_); rintro e w2 ⟨rfl, hk2, hc2⟩; have HK2 := Lib.hid hk2; have HC2 := Lib.hid (bks_trans HC1.out hc2); clear hk2 hc2))
  go_end0
  exact ⟨rfl, HK2.out, HC2.out⟩

end Go.Proofs.YtpegbgomnpinfaaGreat
