/- Several texts in one: PlyQ, PlyO, WrkI. -/
import Derived.Test.YtpegbgomnpinfaaGreatPlzN
import Derived.Test.YtpegbgomnpinfaaGreatPlnF
import Derived.Test.YtpegbgomnpinfaaGreatMrg13
import Derived.Test.YtpegbgomnpinfaaGreatPlyN
import Derived.Test.YtpegbgomnpinfaaGreatWrkH
import Derived.Test.YtpegbgomnpinfaaGreatMrg12
import Derived.Test.YtpegbgomnpinfaaGreatPlnK
/- The book: a plan. -/
set_option linter.unusedVariables false
namespace Go.Proofs.YtpegbgomnpinfaaGreat
open Go.RowKit

/-- A row of patches by places, as one of patches with their bytes. -/
def orowOf (ps : List Pat) (dv : Nat → Value) : List OP := (List.range ps.length).map fun j => (ps.getD j pat0, dv j)
theorem orowOf_len (ps : List Pat) (dv : Nat → Value) : (orowOf ps dv).length = ps.length := by unfold orowOf; simp
theorem orowOf_at (ps : List Pat) (dv : Nat → Value) (j : Nat) (hj : j < ps.length) : (orowOf ps dv).getD j op0 = (ps.getD j pat0, dv j) := by
  unfold orowOf
  rw [List.getD_eq_getElem?_getD, List.getElem?_map, List.getElem?_range hj]
  rfl
theorem orowOf_pats (ps : List Pat) (dv : Nat → Value) : (orowOf ps dv).map (·.1) = ps := by
  unfold orowOf
  rw [List.map_map]
  apply List.ext_getElem
  · simp
  · intro i h1 h2
    rw [List.getElem_map, List.getElem_range]
    exact getD_of ps i h2
theorem PRow.orow {w : World} {B : Nat} {v : Value} {ps : List Pat} {dv : Nat → Value} (h : PRow w B v ps ps.length dv) : ORow w B v (orowOf ps dv) := by
  refine ⟨?_, fun x hx => ?_, ?_⟩
  · rw [orowOf_len, elems_congr (g := patCells ps dv) (fun j hj => by rw [orowOf_at ps dv j hj]; rfl)]
    exact h.row
  · unfold orowOf at hx
    obtain ⟨j, hj, rfl⟩ := List.mem_map.1 hx
    exact h.dat j (List.mem_range.1 hj)
  · rw [List.pairwise_iff_getElem]
    intro i j hi hj hij g hg
    have ei : (orowOf ps dv)[i]'hi = (ps.getD i pat0, dv i) := by simp [orowOf]
    have ej : (orowOf ps dv)[j]'hj = (ps.getD j pat0, dv j) := by simp [orowOf]
    rw [ei] at hg
    rw [ej]
    rw [orowOf_len] at hj
    exact h.apart i j hij hj g hg

theorem bks_at {W : World} {K g : Nat} {cs : Array Value} {t : TypeId} (h : At W g cs t) (h1 : t ≠ 51) (h2 : t ≠ 53) (h3 : t ≠ 27) (h4 : t ≠ 69) : ¬ BkS W K g := fun ⟨_, cs', t', ha, ht⟩ => by
  obtain ⟨-, rfl⟩ := at_one h ha
  rcases ht with rfl | rfl | rfl | rfl
  · exact h1 rfl
  · exact h2 rfl
  · exact h3 rfl
  · exact h4 rfl

set_option maxRecDepth 100000 in
set_option maxHeartbeats 4000000 in
theorem book_plan {W : World} {K n : Nat} {bs is ps : List Value} {vq vr : Value} {X : List OP} {xs : List Value} (r md par : Int) (h : Bk W K bs is ps) (hn : bs.length + X.length ≤ 1000000) (hin : is.length ≤ 1000000) (hpn : ps.length ≤ 1000000)
    (hq : ORow W 0 vq X) (hXl : X.length ≤ 100000) (hap : OffAll ps vq) (hd : ∀ x ∈ X, OffAll bs x.2) (hr : W.ownsRow 0 3 1 vr n xs) (hl : xs.length ≤ 300000) (hai : OffAll is vr) :
    Calls Tryz.prog 27 #[.pointer (some ⟨K, 0, none⟩), .agg #[.int .i64 r, .int .u8 md, .int .i64 par, vq, vr]] W fun e W' => e = .returned (.tuple #[]) ∧ Bk W' K (bs ++ X.map (·.2)) (is ++ [vr]) (ps ++ [vq]) ∧ Chg (BkS W K) W W' := by
  obtain ⟨qa, qc, rfl⟩ := ownsRow_shape hq.row
  obtain ⟨ra, rc, rfl⟩ := ownsRow_shape hr
  have HB0 : Hid (Below W.heap.size W (W.alloc (.cells #[.int .i64 r, .int .u8 md, .int .i64 par, .slice qa X.length qc, .slice ra n rc] 75))) := (Below.refl _ _).alloc (Nat.le_refl _) _
  have HC0 : Hid (Chg (BkS W K) W (W.alloc (.cells #[.int .i64 r, .int .u8 md, .int .i64 par, .slice qa X.length qc, .slice ra n rc] 75))) := (Chg.refl _ _).alloc _
  have HA0 : Hid (At (W.alloc (.cells #[.int .i64 r, .int .u8 md, .int .i64 par, .slice qa X.length qc, .slice ra n rc] 75)) W.heap.size #[.int .i64 r, .int .u8 md, .int .i64 par, .slice qa X.length qc, .slice ra n rc] 75) := At.new _ _ _
  have HP := Lib.hid (book_patches (h.below HB0.out) hn hpn (hq.below HB0.out) hXl hap hd)
  have HR := Lib.hid (ownsRow_below hr HB0.out (Nat.le_refl _))
  have HI : Hid (∀ W1, Bk W1 K (bs ++ X.map (·.2)) is (ps ++ [.slice qa X.length qc]) → W1.ownsRow 0 3 1 (.slice ra n rc) n xs → _) := fun W1 h1 h2 => book_ints h1 hin h2 hl hai
  clear h hq hr hap hd hai
  go_enter Tryz.func27, Tryz.ntmps27
  go_wp2_with (first
    | (go_at_call 41; (with_reducible refine HP.out.mono ?_); rintro e w1 ⟨rfl, hk1, hc1⟩; have HK1 := Lib.hid hk1; have hA1 := HA0.out.mod hc1 (bks_at HA0.out (by decide) (by decide) (by decide) (by decide)); have c4 := hA1.cell 4; have HR1 := Lib.hid (ownsRow_mod HR.out hc1 (bks_off HR.out (by decide) (by decide) (by decide) (by decide))); have HC1 := Lib.hid (bks_trans HC0.out hc1); clear hk1 hc1 hA1)
    | (go_at_call 63; (with_reducible refine (HI.out _ HK1.out HR1.out).mono ?_); rintro e w2 ⟨rfl, hk2, hc2⟩; have HK2 := Lib.hid hk2; have HC2 := Lib.hid (bks_trans HC1.out hc2); clear hk2 hc2))
  go_end0
  exact ⟨rfl, HK2.out, HC2.out⟩

end Go.Proofs.YtpegbgomnpinfaaGreat

/- What may be planned, by its code; the mode, as spindleref13 tells it (plain). -/
set_option linter.unusedVariables false
namespace Go.Proofs.YtpegbgomnpinfaaGreat
open Go.RowKit

/-- The bits, as a function. -/
abbrev bitOf (l : List Bool) : Nat → Bool := fun j => l.getD j false
theorem bit_at {l : List Bool} {i : Nat} (h : i < l.length) : bitOf l i = l[i] := by
  show l.getD i false = _
  rw [List.getD_eq_getElem?_getD, List.getElem?_eq_getElem h]; rfl
theorem lone_of {l : List Bool} (h : l.count true ≤ 1) : Lone (bitOf l) l.length := by
  have key : ∀ i j, i < j → j < l.length → bitOf l i = true → bitOf l j = true → False := fun i j hij hj h1 h2 => by
    rw [bit_at (by omega)] at h1
    rw [bit_at hj] at h2
    have e : l = l.take j ++ l.drop j := (List.take_append_drop j l).symm
    have c1 : 0 < (l.take j).count true := List.count_pos_iff.2 (by
      rw [← h1]
      exact List.mem_take_iff_getElem.2 ⟨i, by omega, rfl⟩)
    have c2 : 0 < (l.drop j).count true := List.count_pos_iff.2 (by
      rw [List.drop_eq_getElem_cons hj, h2]
      exact List.mem_cons_self)
    have c3 : l.count true = (l.take j).count true + (l.drop j).count true := by rw [← List.count_append, ← e]
    omega
  intro i j hi hj h1 h2
  rcases Nat.lt_trichotomy i j with hlt | heq | hgt
  · exact (key i j hlt hj h1 h2).elim
  · exact heq
  · exact (key j i hgt hi h2 h1).elim

theorem rising_of {ps : List Pat} (h : ∀ j, (hj : j + 1 < ps.length) → (ps[j]'(by omega)).m < (ps[j + 1]'hj).m) : ∀ k i (hi : i < ps.length) (hk : i + k + 1 < ps.length), (ps[i]'hi).m < (ps[i + k + 1]'hk).m
  | 0, i, hi, hk => h i hk
  | k + 1, i, hi, hk => by
    have h1 := rising_of h k i hi (by omega)
    have h2 := h (i + k + 1) (by omega)
    exact Int.lt_trans h1 h2

/-- Where nothing is refused. -/
theorem plan_ok_of {m c s : Int} {l : List Bool} {ps : List Pat} (hz : planCode m c s l ps = 0) : ∃ M C S r : Nat, m = M ∧ c = C ∧ s = S ∧ l.length = M ∧ PlanOk M C S (bitOf l) ps r := by
  by_cases h : geoIs m c s = false ∨ ((l.length : Int) ≠ m ∨ ps.length = 0)
  · exfalso
    unfold planCode at hz
    by_cases hg : geoIs m c s = false
    · rw [if_pos hg] at hz; omega
    · rw [if_neg hg, if_pos (h.resolve_left hg)] at hz; omega
  · have hg : geoIs m c s = true := by
      cases e : geoIs m c s
      · exact absurd (.inl e) h
      · rfl
    have hl : (l.length : Int) = m := Classical.byContradiction fun e => h (.inr (.inl e))
    have hn : ps.length ≠ 0 := fun e => h (.inr (.inr e))
    obtain ⟨h1, h2, h3, h4, h5, h6⟩ := (geoIs_iff m c s).1 hg
    obtain ⟨M, rfl⟩ := Int.eq_ofNat_of_zero_le (by omega : 0 ≤ m)
    obtain ⟨C, rfl⟩ := Int.eq_ofNat_of_zero_le (by omega : 0 ≤ c)
    obtain ⟨S, rfl⟩ := Int.eq_ofNat_of_zero_le (by omega : 0 ≤ s)
    have L : Long M C S l ps := ⟨hg, by omega, by omega⟩
    rw [L.code] at hz
    have a3 : ps.any (patBad M C S) = false := by
      cases e : ps.any (patBad M C S)
      · rfl
      · rw [if_pos e] at hz; omega
    rw [if_neg (by simp [a3])] at hz
    have a1 : (List.range ps.length).any (ordBad (parOf M C (ps.getD 0 pat0).r.toNat : Nat) ps) = false := by
      cases e : (List.range ps.length).any (ordBad (parOf M C (ps.getD 0 pat0).r.toNat : Nat) ps)
      · rfl
      · rw [if_pos e] at hz; omega
    rw [if_neg (by rw [a1]; simp)] at hz
    have a4 : (ps.any fun p => decide (p.d.length ≠ 128)) = false := by
      cases e : (ps.any fun p => decide (p.d.length ≠ 128))
      · rfl
      · rw [if_pos e] at hz; omega
    rw [if_neg (by rw [a4]; simp)] at hz
    have a5 : l.count true ≤ 1 := by
      apply Classical.byContradiction
      intro e
      rw [if_pos (by omega)] at hz
      omega
    obtain ⟨r, hr0, hr1⟩ := row_zero L a3
    have hn0 := L.hn
    rw [getD_of ps 0 hn0, hr0] at a1
    have hbad : ∀ p ∈ ps, patBad M C S p = false := fun p hp => by
      rw [List.any_eq_false] at a3
      simpa using a3 p hp
    have hlo : ∀ p ∈ ps, 0 ≤ p.m ∧ p.m < (M : Int) := fun p hp => by
      have hb := hbad p hp
      unfold patBad at hb
      simp only [Bool.or_eq_false_iff, decide_eq_false_iff_not] at hb
      omega
    have hord : ∀ k, k < ps.length → ordBad (parOf M C r : Nat) ps k = false := fun k hk => by
      rw [List.any_eq_false] at a1
      simpa using a1 k (List.mem_range.2 hk)
    have hstep : ∀ j, (hj : j + 1 < ps.length) → (ps[j]'(by omega)).m < (ps[j + 1]'hj).m := fun j hj => by
      have h := hord (j + 1) hj
      rw [ord_succ _ ps j (j + 1) rfl hj] at h
      simp only [Bool.or_eq_false_iff, decide_eq_false_iff_not] at h
      omega
    refine ⟨M, C, S, r, rfl, rfl, rfl, L.hl, ⟨hg, hr1, hn0, fun p hp => ?_, fun p hp => (hlo p hp).1, fun p hp => (hlo p hp).2, fun p hp => ?_, fun i j hi hj hij => ?_, fun p hp => ?_, ?_⟩⟩
    · obtain ⟨k, hk, rfl⟩ := List.getElem_of_mem hp
      have h := hord k hk
      unfold ordBad at h
      rw [getD_of ps k hk, getD_of ps 0 hn0, hr0] at h
      simp only [Bool.or_eq_false_iff] at h
      have h0 := h.1
      simpa using h0
    · obtain ⟨k, hk, rfl⟩ := List.getElem_of_mem hp
      have h := hord k hk
      unfold ordBad at h
      rw [getD_of ps k hk] at h
      simp only [Bool.or_eq_false_iff] at h
      have h0 := h.2.2
      intro e
      rw [e] at h0
      simp at h0
    · obtain ⟨k, rfl⟩ : ∃ k, j = i + k + 1 := ⟨j - i - 1, by omega⟩
      exact rising_of hstep k i hi hj
    · rw [List.any_eq_false] at a4
      have := a4 p hp
      simpa using this
    · have := lone_of a5
      rwa [L.hl] at this

/-- Is one that is down given, among the first k members; is another one down. -/
def givK (d : Nat → Bool) (ps : List Pat) (k : Nat) : Bool := (List.range k).any fun m => d m && givenIn ps (m : Int)
def othK (d : Nat → Bool) (ps : List Pat) (par k : Nat) : Bool := (List.range k).any fun m => d m && (!givenIn ps (m : Int) && !(m == par))
theorem givK_succ (d : Nat → Bool) (ps : List Pat) (k : Nat) : givK d ps (k + 1) = (givK d ps k || (d k && givenIn ps (k : Int))) := by
  unfold givK; rw [List.range_succ, List.any_append]; simp
theorem othK_succ (d : Nat → Bool) (ps : List Pat) (par k : Nat) : othK d ps par (k + 1) = (othK d ps par k || (d k && (!givenIn ps (k : Int) && !(k == par)))) := by
  unfold othK; rw [List.range_succ, List.any_append]; simp

/-- The mode, by what the loop over the members has told. -/
def modeK (M : Nat) (ps : List Pat) (dp gv ot : Bool) : Nat :=
  if ps.length = M - 1 then 1 else if dp = true then 4 else if gv = true ∨ (ot = false ∧ M - 1 - ps.length < ps.length + 1) then 3 else 2
theorem modeK_is {M C S r : Nat} {d : Nat → Bool} {ps : List Pat} {z : Int} (ok : PlanOk M C S d ps r) (hz : GoneIs d M z) :
    modeK M ps (d (parOf M C r)) (givK d ps M) (othK d ps (parOf M C r) M) = modeOf M ps (parOf M C r) z := by
  obtain ⟨h1, h2, h3, h4, h5, h6⟩ := (geoIs_iff M C S).1 ok.hg
  have hpl : parOf M C r < M := by unfold parOf; omega
  have hfew := ok.few
  generalize parOf M C r = par at *
  unfold modeK modeOf
  have e0 : (ps.length = M - 1) ↔ (M - 1 - ps.length = 0) := by omega
  by_cases c0 : ps.length = M - 1
  · rw [if_pos c0, if_pos (e0.1 c0)]
  rw [if_neg c0, if_neg (fun h => c0 (e0.2 h))]
  rcases hz with ⟨k, hk1, hk2, hk3, hk4⟩ | ⟨hk1, hk2⟩
  · have only : ∀ i, i < M → d i = true → i = k := fun i hi hd => ok.lone i k hi hk2 hd hk3
    by_cases c1 : k = par
    · subst c1
      rw [if_pos hk3, if_pos hk1]
    · have c1' : d par ≠ true := fun h => c1 (only par hpl h).symm
      rw [if_neg c1', if_neg (show ¬ z = (par : Int) by omega)]
      have hz0 : 0 ≤ z := by omega
      cases hg : givenIn ps (k : Int)
      · have g1 : givK d ps M = false := by
          unfold givK
          rw [List.any_eq_false]
          intro i hi hb
          simp only [Bool.and_eq_true] at hb
          rw [only i (List.mem_range.1 hi) hb.1, hg] at hb
          exact absurd hb.2 (by simp)
        have g2 : othK d ps par M = true := by
          unfold othK
          rw [List.any_eq_true]
          exact ⟨k, List.mem_range.2 hk2, by simp [hk3, hg, c1]⟩
        rw [g1, g2, if_neg (by simp), if_neg (by rw [hk1, hg]; simp; omega)]
      · have g1 : givK d ps M = true := by
          unfold givK
          rw [List.any_eq_true]
          exact ⟨k, List.mem_range.2 hk2, by simp [hk3, hg]⟩
        rw [g1, if_pos (.inl rfl), if_pos (.inl ⟨hz0, by rw [hk1]; exact hg⟩)]
  · have c1' : d par ≠ true := by rw [hk2 par hpl]; simp
    have g1 : givK d ps M = false := by
      unfold givK
      rw [List.any_eq_false]
      intro i hi hb
      rw [hk2 i (List.mem_range.1 hi)] at hb
      simp at hb
    have g2 : othK d ps par M = false := by
      unfold othK
      rw [List.any_eq_false]
      intro i hi hb
      rw [hk2 i (List.mem_range.1 hi)] at hb
      simp at hb
    rw [if_neg c1', if_neg (show ¬ z = (par : Int) by omega), g1, g2]
    by_cases c2 : M - 1 - ps.length < ps.length + 1
    · rw [if_pos (.inr ⟨rfl, c2⟩), if_pos (.inr ⟨by omega, c2⟩)]
    · rw [if_neg (by simp; omega), if_neg (by omega)]

end Go.Proofs.YtpegbgomnpinfaaGreat

/- plan.Work, where it refuses. -/
set_option linter.unusedVariables false
namespace Go.Proofs.YtpegbgomnpinfaaGreat
open Go.RowKit

set_option maxRecDepth 100000 in
set_option maxHeartbeats 2000000 in
theorem plan_Work_form (m c s r md par : Int) (ad : Option Addr) (nd cd' : Nat) (aq ar al : Option Addr) (nq cq nr cr nl cl : Nat) (w : World) (h : geoIs m c s = false) :
    Calls Tryz.prog 33 #[geo m c s, .slice ad nd cd', planVal r md par (.slice aq nq cq) (.slice ar nr cr), .slice al nl cl] w fun e w' => e = .returned (.tuple #[.slice none 0 0, .int .u16 60]) ∧ Below w.heap.size w w' := by
  have hk := Lib.hid (fun W => geom_check m c s W)
  unfold geoCode at hk
  rw [h] at hk
  simp only [Bool.false_eq_true, if_false] at hk
  have HB0 : Hid (Below w.heap.size w ((w.alloc (.cells #[.int .i64 m, .int .i64 c, .int .i64 s] 23)).alloc (.cells #[.int .i64 r, .int .u8 md, .int .i64 par, .slice aq nq cq, .slice ar nr cr] 75))) := ((Below.refl _ _).alloc (Nat.le_refl _) _).alloc (by rw [size_alloc]; omega) _
  unfold geo planVal at *
  go_enter Tryz.func33, Tryz.ntmps33
  go_wp2_with (go_at_call 101; (with_reducible refine (hk.out _).mono ?_); rintro e w1 ⟨rfl, hb1⟩; have HB1 := Lib.hid (below_then HB0.out hb1); clear hb1)
  go_ret2
  exact ⟨rfl, HB1.out⟩

set_option maxRecDepth 100000 in
set_option maxHeartbeats 4000000 in
theorem plan_Work_ref (m c s r md par : Int) (vd vq vr : Value) (l : List Bool) (ps : List Pat) (zl : List Int) (al : Option Addr) (nl cl : Nat) (w : World) (hg : geoIs m c s = true) (hd : BooSeg w vd l) (hq : PSeg w vq ps) (hz : ZSeg w vr zl) (h : planCode m c s l ps ≠ 0) :
    Calls Tryz.prog 33 #[geo m c s, vd, planVal r md par vq vr, .slice al nl cl] w fun e w' => e = .returned (.tuple #[.slice none 0 0, .int .u16 1]) ∧ Below w.heap.size w w' := by
  have hk := Lib.hid (fun W => geom_check m c s W)
  unfold geoCode at hk
  rw [hg] at hk
  simp only [if_true] at hk
  have hle := code_le m c s l ps
  have hof : Hid (∀ W, Below w.heap.size w W → _) := fun W hW => plan_Of_code m c s vd vq l ps W (hd.below hW) (hq.below hW) h
  generalize planCode m c s l ps = cd at *
  have hne : ((cd : Int) != 0) = true := by simp; omega
  obtain ⟨da, dc, rfl⟩ := hd.shape
  obtain ⟨qa, qc, rfl⟩ := hq.shape
  obtain ⟨ra, rc, rfl⟩ := hz.shape
  obtain ⟨w0, hw0⟩ : ∃ w0, w0 = (w.alloc (.cells #[.int .i64 m, .int .i64 c, .int .i64 s] 23)).alloc (.cells #[.int .i64 r, .int .u8 md, .int .i64 par, .slice qa ps.length qc, .slice ra zl.length rc] 75) := ⟨_, rfl⟩
  have HB0 : Hid (Below w.heap.size w w0) := by rw [hw0]; exact ((Below.refl _ _).alloc (Nat.le_refl _) _).alloc (by rw [size_alloc]; omega) _
  have HG0 : Hid (At w0 w.heap.size #[.int .i64 m, .int .i64 c, .int .i64 s] 23) := by rw [hw0]; exact (At.new _ _ _).alloc _
  have HP0 : Hid (At w0 (w.heap.size + 1) #[.int .i64 r, .int .u8 md, .int .i64 par, .slice qa ps.length qc, .slice ra zl.length rc] 75) := by rw [hw0]; exact At.new2 _ _ _ _
  clear hd hq hz h
  unfold geo planVal noPlan at *
  go_enter Tryz.func33, Tryz.ntmps33
  go_upto_region 1 with fail
  rw [← hw0]
  clear hw0
  have c0 := HG0.out.cell 0
  have c1 := HG0.out.cell 1
  have c2 := HG0.out.cell 2
  go_wp2_with (first
    | (go_at_call 101; (with_reducible refine (hk.out _).mono ?_); rintro e w1 ⟨rfl, hb1⟩; clear c0 c1 c2; have hg1 := HG0.out.below hb1 HG0.out.lt; have hp1 := HP0.out.below hb1 HP0.out.lt; have c0 := hg1.cell 0; have c1 := hg1.cell 1; have c2 := hg1.cell 2; have c3 := hp1.cell 3; have HB1 := Lib.hid (below_then HB0.out hb1); clear hg1 hp1 hb1)
    | (go_at_call 22; (with_reducible refine (hof.out _ HB1.out).mono ?_); rintro e w4 ⟨rfl, hb4⟩; have HB4 := Lib.hid ((below_then HB1.out hb4).alloc (below_then HB1.out hb4).size (.cells #[.int .i64 0, .int .u8 0, .int .i64 0, .slice none 0 0, .slice none 0 0] 75)); clear hb4))
  go_ret2
  exact ⟨rfl, HB4.out⟩

set_option maxRecDepth 100000 in
set_option maxHeartbeats 8000000 in
theorem plan_Work_bad (M C S rr : Nat) (r md par : Int) (vd vq vr vrd : Value) (l : List Bool) (ps : List Pat) (zl : List Int) (ls : List (List UInt8)) (w : World) (ok : PlanOk M C S (bitOf l) ps rr) (hl : l.length = M) (z : Int) (hgz : GoneIs (bitOf l) M z) (hzl : zl.length ≤ 1000000) (hlf : ls.length ≤ 300000) (hll : ∀ l ∈ ls, l.length ≤ 300000)
    (hd : BooSeg w vd l) (hq : PSeg w vq ps) (hz : ZSeg w vr zl) (hls : Segs w vrd ls) (L : List Nat) (hL : L = readsOf ps (parOf M C rr) M (modeOf M ps (parOf M C rr) z))
    (bad : headIs r md par rr (modeOf M ps (parOf M C rr) z : Nat) (parOf M C rr : Nat) zl (L.map fun x : Nat => (x : Int)) = false ∨ ls.length ≠ M) :
    Calls Tryz.prog 33 #[geo M C S, vd, planVal r md par vq vr, vrd] w fun e w' => e = .returned (.tuple #[.slice none 0 0, .int .u16 1]) ∧ Below w.heap.size w w' := by
  have h16 := (geoIs_iff M C S).1 ok.hg
  have hfew := ok.few
  have hLl : L.length ≤ 16 := by rw [hL]; have := readsOf_length ps (parOf M C rr) M (modeOf M ps (parOf M C rr) z); omega
  have hk := Lib.hid (fun W => geom_check M C S W)
  unfold geoCode at hk
  rw [ok.hg] at hk
  simp only [if_true] at hk
  have hof : Hid (∀ W, Below w.heap.size w W → _) := fun W hW => plan_Of M C S rr vd vq (bitOf l) ps W ok (by have h := hd.bseg; rw [hl] at h; exact h.below hW) (hq.below hW) z hgz
  rw [← hL] at hof
  generalize parOf M C rr = qpar at *
  generalize modeOf M ps qpar z = qmd at *
  have hlk : Hid (∀ (W : World) vq' vr', Below w.heap.size w W → PSeg W vq' ps → ZSeg W vr' (L.map fun x : Nat => (x : Int)) → _) := fun W vq' vr' hW h1 h2 => plan_likeZ r md par rr qmd qpar vq vr vq' vr' ps zl _ W hzl (by rw [List.length_map]; omega) (hq.below hW) (hz.below hW) h1 h2
  generalize hhd : headIs r md par rr qmd qpar zl (L.map fun x : Nat => (x : Int)) = hb at *
  obtain ⟨qa, qc, rfl⟩ := hq.shape
  obtain ⟨da, dc, rfl⟩ := hd.shape
  obtain ⟨ra, rc, rfl⟩ := hz.shape
  obtain ⟨sa, sc, rfl⟩ := hls.shape
  rw [hl] at hof ⊢
  have hps : ps.length ≤ 16 := by omega
  obtain ⟨w0, hw0⟩ : ∃ w0, w0 = (w.alloc (.cells #[.int .i64 M, .int .i64 C, .int .i64 S] 23)).alloc (.cells #[.int .i64 r, .int .u8 md, .int .i64 par, .slice qa ps.length qc, .slice ra zl.length rc] 75) := ⟨_, rfl⟩
  have HB0 : Hid (Below w.heap.size w w0) := by rw [hw0]; exact ((Below.refl _ _).alloc (Nat.le_refl _) _).alloc (by rw [size_alloc]; omega) _
  have HG0 : Hid (At w0 w.heap.size #[.int .i64 M, .int .i64 C, .int .i64 S] 23) := by rw [hw0]; exact (At.new _ _ _).alloc _
  have HP0 : Hid (At w0 (w.heap.size + 1) #[.int .i64 r, .int .u8 md, .int .i64 par, .slice qa ps.length qc, .slice ra zl.length rc] 75) := by rw [hw0]; exact At.new2 _ _ _ _
  have HLQ : Hid (hb = false ∨ ((ls.length : Int) != (M : Int)) = true) := bad.imp id (fun h => by simp; omega)
  clear hd hq hz hls hL bad hgz hhd
  unfold geo planVal at *
  go_enter Tryz.func33, Tryz.ntmps33
  go_upto_region 1 with fail
  rw [← hw0]
  clear hw0
  have c0 := HG0.out.cell 0
  have c1 := HG0.out.cell 1
  have c2 := HG0.out.cell 2
  cases hb
  · go_wp2_with (first
      | (go_at_call 101; (with_reducible refine (hk.out _).mono ?_); rintro e w1 ⟨rfl, hb1⟩; clear c0 c1 c2; have hg1 := HG0.out.below hb1 HG0.out.lt; have hp1 := HP0.out.below hb1 HP0.out.lt; have c0 := hg1.cell 0; have c1 := hg1.cell 1; have c2 := hg1.cell 2; have c3 := hp1.cell 3; have HP1 := Lib.hid hp1; have HB1 := Lib.hid (below_then HB0.out hb1); clear hg1 hp1 hb1)
      | (go_at_call 22; (with_reducible refine (hof.out _ HB1.out).mono ?_); rintro e w4 ⟨vq', vr', dv, rfl, hpr, hri, hb4⟩; obtain ⟨qa', qc', rfl⟩ := ownsRow_shape hpr.row; obtain ⟨ra', rc', rfl⟩ := ownsRow_shape hri; have hal := (Below.refl w4.heap.size w4).alloc (Nat.le_refl _) (.cells #[.int .i64 rr, .int .u8 qmd, .int .i64 qpar, .slice qa' ps.length qc', .slice ra' L.length rc'] 75); have HB5 := Lib.hid (below_then (below_then HB1.out hb4) hal); have hA5 := (HP1.out.below hb4 HP1.out.lt).alloc (.cells #[.int .i64 rr, .int .u8 qmd, .int .i64 qpar, .slice qa' ps.length qc', .slice ra' L.length rc'] 75); have hQ5 := At.new w4 #[.int .i64 rr, .int .u8 qmd, .int .i64 qpar, .slice qa' ps.length qc', .slice ra' L.length rc'] 75; have a0 := hA5.cell 0; have a1 := hA5.cell 1; have a2 := hA5.cell 2; have a3 := hA5.cell 3; have a4 := hA5.cell 4; have b0 := hQ5.cell 0; have b1 := hQ5.cell 1; have b2 := hQ5.cell 2; have b3 := hQ5.cell 3; have b4 := hQ5.cell 4; have HL5 := Lib.hid (hlk.out _ _ _ HB5.out ((hpr.below hal).pseg (by omega)) (zseg_of_members (ownsRow_below hri hal (Nat.le_refl _)))); clear hA5 hQ5 hpr hri hb4 hal c0 c1 c2 c3)
      | (go_at_call 102; (with_reducible refine HL5.out.mono ?_); rintro e w6 ⟨rfl, hb6⟩; have HB6 := Lib.hid (below_then HB5.out hb6); clear hb6))
    go_ret2
    exact ⟨rfl, HB6.out⟩
  · have hne := HLQ.out.resolve_left (by simp)
    go_wp2_with (first
      | (go_at_call 101; (with_reducible refine (hk.out _).mono ?_); rintro e w1 ⟨rfl, hb1⟩; clear c0 c1 c2; have hg1 := HG0.out.below hb1 HG0.out.lt; have hp1 := HP0.out.below hb1 HP0.out.lt; have c0 := hg1.cell 0; have c1 := hg1.cell 1; have c2 := hg1.cell 2; have c3 := hp1.cell 3; have HP1 := Lib.hid hp1; have HG1 := Lib.hid hg1; have HB1 := Lib.hid (below_then HB0.out hb1); clear hg1 hp1 hb1)
      | (go_at_call 22; (with_reducible refine (hof.out _ HB1.out).mono ?_); rintro e w4 ⟨vq', vr', dv, rfl, hpr, hri, hb4⟩; obtain ⟨qa', qc', rfl⟩ := ownsRow_shape hpr.row; obtain ⟨ra', rc', rfl⟩ := ownsRow_shape hri; have hal := (Below.refl w4.heap.size w4).alloc (Nat.le_refl _) (.cells #[.int .i64 rr, .int .u8 qmd, .int .i64 qpar, .slice qa' ps.length qc', .slice ra' L.length rc'] 75); have HB5 := Lib.hid (below_then (below_then HB1.out hb4) hal); have hA5 := (HP1.out.below hb4 HP1.out.lt).alloc (.cells #[.int .i64 rr, .int .u8 qmd, .int .i64 qpar, .slice qa' ps.length qc', .slice ra' L.length rc'] 75); have HG5 := Lib.hid ((HG1.out.below hb4 HG1.out.lt).alloc (.cells #[.int .i64 rr, .int .u8 qmd, .int .i64 qpar, .slice qa' ps.length qc', .slice ra' L.length rc'] 75)); have hQ5 := At.new w4 #[.int .i64 rr, .int .u8 qmd, .int .i64 qpar, .slice qa' ps.length qc', .slice ra' L.length rc'] 75; have a0 := hA5.cell 0; have a1 := hA5.cell 1; have a2 := hA5.cell 2; have a3 := hA5.cell 3; have a4 := hA5.cell 4; have b0 := hQ5.cell 0; have b1 := hQ5.cell 1; have b2 := hQ5.cell 2; have b3 := hQ5.cell 3; have b4 := hQ5.cell 4; have HL5 := Lib.hid (hlk.out _ _ _ HB5.out ((hpr.below hal).pseg (by omega)) (zseg_of_members (ownsRow_below hri hal (Nat.le_refl _)))); clear hA5 hQ5 hpr hri hb4 hal c0 c1 c2 c3)
      | (go_at_call 102; (with_reducible refine HL5.out.mono ?_); rintro e w6 ⟨rfl, hb6⟩; have HB6 := Lib.hid (below_then HB5.out hb6); have e0 := (HG5.out.below hb6 HG5.out.lt).cell 0; clear hb6 a0 a1 a2 a3 a4 b0 b1 b2 b3 b4))
    go_ret2
    exact ⟨rfl, HB6.out⟩

end Go.Proofs.YtpegbgomnpinfaaGreat
