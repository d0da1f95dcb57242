/- Several texts in one: PlyO, PlzAa, PlzK. -/
import Derived.Test.YtpegbgomnpinfaaGreatPlyN
import Derived.Test.YtpegbgomnpinfaaGreatMrg9
import Derived.Test.YtpegbgomnpinfaaGreatPlwG
import Derived.Deep.MidRow
/- What may be planned, by its code; the mode, as spindleref13 tells it (plain). -/
set_option linter.unusedVariables false
namespace Go.Proofs.YtpegbgomnpinfaaGreat
open Go.RowKit

/-- The bits, as a function. -/
abbrev bitOf (l : List Bool) : Nat → Bool := fun j => l.getD j false
theorem bit_at {l : List Bool} {i : Nat} (h : i < l.length) : bitOf l i = l[i] := by
  show l.getD i false = _
  rw [List.getD_eq_getElem?_getD, List.getElem?_eq_getElem h]; rfl
theorem lone_of {l : List Bool} (h : l.count true ≤ 1) : Lone (bitOf l) l.length := by
  have key : ∀ i j, i < j → j < l.length → bitOf l i = true → bitOf l j = true → False := fun i j hij hj h1 h2 => by
    rw [bit_at (by omega)] at h1
    rw [bit_at hj] at h2
    have e : l = l.take j ++ l.drop j := (List.take_append_drop j l).symm
    have c1 : 0 < (l.take j).count true := List.count_pos_iff.2 (by
      rw [← h1]
      exact List.mem_take_iff_getElem.2 ⟨i, by omega, rfl⟩)
    have c2 : 0 < (l.drop j).count true := List.count_pos_iff.2 (by
      rw [List.drop_eq_getElem_cons hj, h2]
      exact List.mem_cons_self)
    have c3 : l.count true = (l.take j).count true + (l.drop j).count true := by rw [← List.count_append, ← e]
    omega
  intro i j hi hj h1 h2
  rcases Nat.lt_trichotomy i j with hlt | heq | hgt
  · exact (key i j hlt hj h1 h2).elim
  · exact heq
  · exact (key j i hgt hi h2 h1).elim

theorem rising_of {ps : List Pat} (h : ∀ j, (hj : j + 1 < ps.length) → (ps[j]'(by omega)).m < (ps[j + 1]'hj).m) : ∀ k i (hi : i < ps.length) (hk : i + k + 1 < ps.length), (ps[i]'hi).m < (ps[i + k + 1]'hk).m
  | 0, i, hi, hk => h i hk
  | k + 1, i, hi, hk => by
    have h1 := rising_of h k i hi (by omega)
    have h2 := h (i + k + 1) (by omega)
    exact Int.lt_trans h1 h2

/-- Where nothing is refused. -/
theorem plan_ok_of {m c s : Int} {l : List Bool} {ps : List Pat} (hz : planCode m c s l ps = 0) : ∃ M C S r : Nat, m = M ∧ c = C ∧ s = S ∧ l.length = M ∧ PlanOk M C S (bitOf l) ps r := by
  by_cases h : geoIs m c s = false ∨ ((l.length : Int) ≠ m ∨ ps.length = 0)
  · exfalso
    unfold planCode at hz
    by_cases hg : geoIs m c s = false
    · rw [if_pos hg] at hz; omega
    · rw [if_neg hg, if_pos (h.resolve_left hg)] at hz; omega
  · have hg : geoIs m c s = true := by
      cases e : geoIs m c s
      · exact absurd (.inl e) h
      · rfl
    have hl : (l.length : Int) = m := Classical.byContradiction fun e => h (.inr (.inl e))
    have hn : ps.length ≠ 0 := fun e => h (.inr (.inr e))
    obtain ⟨h1, h2, h3, h4, h5, h6⟩ := (geoIs_iff m c s).1 hg
    obtain ⟨M, rfl⟩ := Int.eq_ofNat_of_zero_le (by omega : 0 ≤ m)
    obtain ⟨C, rfl⟩ := Int.eq_ofNat_of_zero_le (by omega : 0 ≤ c)
    obtain ⟨S, rfl⟩ := Int.eq_ofNat_of_zero_le (by omega : 0 ≤ s)
    have L : Long M C S l ps := ⟨hg, by omega, by omega⟩
    rw [L.code] at hz
    have a3 : ps.any (patBad M C S) = false := by
      cases e : ps.any (patBad M C S)
      · rfl
      · rw [if_pos e] at hz; omega
    rw [if_neg (by simp [a3])] at hz
    have a1 : (List.range ps.length).any (ordBad (parOf M C (ps.getD 0 pat0).r.toNat : Nat) ps) = false := by
      cases e : (List.range ps.length).any (ordBad (parOf M C (ps.getD 0 pat0).r.toNat : Nat) ps)
      · rfl
      · rw [if_pos e] at hz; omega
    rw [if_neg (by rw [a1]; simp)] at hz
    have a4 : (ps.any fun p => decide (p.d.length ≠ 128)) = false := by
      cases e : (ps.any fun p => decide (p.d.length ≠ 128))
      · rfl
      · rw [if_pos e] at hz; omega
    rw [if_neg (by rw [a4]; simp)] at hz
    have a5 : l.count true ≤ 1 := by
      apply Classical.byContradiction
      intro e
      rw [if_pos (by omega)] at hz
      omega
    obtain ⟨r, hr0, hr1⟩ := row_zero L a3
    have hn0 := L.hn
    rw [getD_of ps 0 hn0, hr0] at a1
    have hbad : ∀ p ∈ ps, patBad M C S p = false := fun p hp => by
      rw [List.any_eq_false] at a3
      simpa using a3 p hp
    have hlo : ∀ p ∈ ps, 0 ≤ p.m ∧ p.m < (M : Int) := fun p hp => by
      have hb := hbad p hp
      unfold patBad at hb
      simp only [Bool.or_eq_false_iff, decide_eq_false_iff_not] at hb
      omega
    have hord : ∀ k, k < ps.length → ordBad (parOf M C r : Nat) ps k = false := fun k hk => by
      rw [List.any_eq_false] at a1
      simpa using a1 k (List.mem_range.2 hk)
    have hstep : ∀ j, (hj : j + 1 < ps.length) → (ps[j]'(by omega)).m < (ps[j + 1]'hj).m := fun j hj => by
      have h := hord (j + 1) hj
      rw [ord_succ _ ps j (j + 1) rfl hj] at h
      simp only [Bool.or_eq_false_iff, decide_eq_false_iff_not] at h
      omega
    refine ⟨M, C, S, r, rfl, rfl, rfl, L.hl, ⟨hg, hr1, hn0, fun p hp => ?_, fun p hp => (hlo p hp).1, fun p hp => (hlo p hp).2, fun p hp => ?_, fun i j hi hj hij => ?_, fun p hp => ?_, ?_⟩⟩
    · obtain ⟨k, hk, rfl⟩ := List.getElem_of_mem hp
      have h := hord k hk
      unfold ordBad at h
      rw [getD_of ps k hk, getD_of ps 0 hn0, hr0] at h
      simp only [Bool.or_eq_false_iff] at h
      have h0 := h.1
      simpa using h0
    · obtain ⟨k, hk, rfl⟩ := List.getElem_of_mem hp
      have h := hord k hk
      unfold ordBad at h
      rw [getD_of ps k hk] at h
      simp only [Bool.or_eq_false_iff] at h
      have h0 := h.2.2
      intro e
      rw [e] at h0
      simp at h0
    · obtain ⟨k, rfl⟩ : ∃ k, j = i + k + 1 := ⟨j - i - 1, by omega⟩
      exact rising_of hstep k i hi hj
    · rw [List.any_eq_false] at a4
      have := a4 p hp
      simpa using this
    · have := lone_of a5
      rwa [L.hl] at this

/-- Is one that is down given, among the first k members; is another one down. -/
def givK (d : Nat → Bool) (ps : List Pat) (k : Nat) : Bool := (List.range k).any fun m => d m && givenIn ps (m : Int)
def othK (d : Nat → Bool) (ps : List Pat) (par k : Nat) : Bool := (List.range k).any fun m => d m && (!givenIn ps (m : Int) && !(m == par))
theorem givK_succ (d : Nat → Bool) (ps : List Pat) (k : Nat) : givK d ps (k + 1) = (givK d ps k || (d k && givenIn ps (k : Int))) := by
  unfold givK; rw [List.range_succ, List.any_append]; simp
theorem othK_succ (d : Nat → Bool) (ps : List Pat) (par k : Nat) : othK d ps par (k + 1) = (othK d ps par k || (d k && (!givenIn ps (k : Int) && !(k == par)))) := by
  unfold othK; rw [List.range_succ, List.any_append]; simp

/-- The mode, by what the loop over the members has told. -/
def modeK (M : Nat) (ps : List Pat) (dp gv ot : Bool) : Nat :=
  if ps.length = M - 1 then 1 else if dp = true then 4 else if gv = true ∨ (ot = false ∧ M - 1 - ps.length < ps.length + 1) then 3 else 2
theorem modeK_is {M C S r : Nat} {d : Nat → Bool} {ps : List Pat} {z : Int} (ok : PlanOk M C S d ps r) (hz : GoneIs d M z) :
    modeK M ps (d (parOf M C r)) (givK d ps M) (othK d ps (parOf M C r) M) = modeOf M ps (parOf M C r) z := by
  obtain ⟨h1, h2, h3, h4, h5, h6⟩ := (geoIs_iff M C S).1 ok.hg
  have hpl : parOf M C r < M := by unfold parOf; omega
  have hfew := ok.few
  generalize parOf M C r = par at *
  unfold modeK modeOf
  have e0 : (ps.length = M - 1) ↔ (M - 1 - ps.length = 0) := by omega
  by_cases c0 : ps.length = M - 1
  · rw [if_pos c0, if_pos (e0.1 c0)]
  rw [if_neg c0, if_neg (fun h => c0 (e0.2 h))]
  rcases hz with ⟨k, hk1, hk2, hk3, hk4⟩ | ⟨hk1, hk2⟩
  · have only : ∀ i, i < M → d i = true → i = k := fun i hi hd => ok.lone i k hi hk2 hd hk3
    by_cases c1 : k = par
    · subst c1
      rw [if_pos hk3, if_pos hk1]
    · have c1' : d par ≠ true := fun h => c1 (only par hpl h).symm
      rw [if_neg c1', if_neg (show ¬ z = (par : Int) by omega)]
      have hz0 : 0 ≤ z := by omega
      cases hg : givenIn ps (k : Int)
      · have g1 : givK d ps M = false := by
          unfold givK
          rw [List.any_eq_false]
          intro i hi hb
          simp only [Bool.and_eq_true] at hb
          rw [only i (List.mem_range.1 hi) hb.1, hg] at hb
          exact absurd hb.2 (by simp)
        have g2 : othK d ps par M = true := by
          unfold othK
          rw [List.any_eq_true]
          exact ⟨k, List.mem_range.2 hk2, by simp [hk3, hg, c1]⟩
        rw [g1, g2, if_neg (by simp), if_neg (by rw [hk1, hg]; simp; omega)]
      · have g1 : givK d ps M = true := by
          unfold givK
          rw [List.any_eq_true]
          exact ⟨k, List.mem_range.2 hk2, by simp [hk3, hg]⟩
        rw [g1, if_pos (.inl rfl), if_pos (.inl ⟨hz0, by rw [hk1]; exact hg⟩)]
  · have c1' : d par ≠ true := by rw [hk2 par hpl]; simp
    have g1 : givK d ps M = false := by
      unfold givK
      rw [List.any_eq_false]
      intro i hi hb
      rw [hk2 i (List.mem_range.1 hi)] at hb
      simp at hb
    have g2 : othK d ps par M = false := by
      unfold othK
      rw [List.any_eq_false]
      intro i hi hb
      rw [hk2 i (List.mem_range.1 hi)] at hb
      simp at hb
    rw [if_neg c1', if_neg (show ¬ z = (par : Int) by omega), g1, g2]
    by_cases c2 : M - 1 - ps.length < ps.length + 1
    · rw [if_pos (.inr ⟨rfl, c2⟩), if_pos (.inr ⟨by omega, c2⟩)]
    · rw [if_neg (by simp; omega), if_neg (by omega)]

end Go.Proofs.YtpegbgomnpinfaaGreat

/- Blocks of a call's own rows, taken apart. -/
set_option linter.unusedVariables false
namespace Go.Proofs.YtpegbgomnpinfaaGreat
open Go.RowKit

theorem own_at {w : World} {B e sz g n c : Nat} {xs : List Value} (h : w.ownsRow B e sz (.slice (some ⟨g, 0, none⟩) n c) n xs) : B ≤ g ∧ n ≤ c ∧ c ≤ maxLen ∧ ∃ cur, At w g cur e ∧ cur.size = c * sz ∧ cur.toList.take (n * sz) = xs := by
  rcases h.2 with ⟨h, _⟩ | ⟨g', cap, cur, hv, hb, hg, hc, hm, hs, ht⟩
  · cases h
  · simp only [Value.slice.injEq, Option.some.injEq, Addr.mk.injEq] at hv
    obtain ⟨⟨rfl, _, _⟩, _, rfl⟩ := hv
    exact ⟨hb, hc, hm, cur, hg, hs, ht⟩

theorem at_one {w : World} {g : Nat} {cs cs' : Array Value} {t t' : TypeId} (h : At w g cs t) (h' : At w g cs' t') : cs = cs' ∧ t = t' := by
  unfold At at h h'
  rw [h] at h'
  simp only [Option.some.injEq, Obj.cells.injEq] at h'
  exact ⟨h'.1, h'.2.1⟩

end Go.Proofs.YtpegbgomnpinfaaGreat

/- Helpers for what the book asks. -/
set_option linter.unusedVariables false
namespace Go.Proofs.YtpegbgomnpinfaaGreat
open Go.RowKit

theorem take_set_one (xs : List Value) (k : Nat) (a : Value) (h : k < xs.length) : (xs.set k a).take ((k + 1) * 1) = xs.take (k * 1) ++ [a] := by
  rw [Nat.mul_one, Nat.mul_one, List.take_succ_eq_append_getElem (by rw [List.length_set]; exact h), List.getElem_set_self, List.take_set_of_le (Nat.le_refl _)]
theorem take_set_three (xs : List Value) (k : Nat) (a b c : Value) (h : k * 3 + 2 < xs.length) : (((xs.set (k * 3) a).set (k * 3 + 1) b).set (k * 3 + 2) c).take ((k + 1) * 3) = xs.take (k * 3) ++ [a, b, c] := by
  apply List.ext_getElem?
  intro i
  rw [List.getElem?_take]
  by_cases h1 : i < (k + 1) * 3
  · rw [if_pos h1]
    by_cases h2 : i < k * 3
    · rw [List.getElem?_append_left (by rw [List.length_take]; omega), List.getElem?_take, if_pos h2, List.getElem?_set_ne (by omega), List.getElem?_set_ne (by omega), List.getElem?_set_ne (by omega)]
    · rw [List.getElem?_append_right (by rw [List.length_take]; omega), List.length_take, Nat.min_eq_left (by omega)]
      by_cases h3 : i = k * 3
      · subst h3
        rw [List.getElem?_set_ne (by omega), List.getElem?_set_ne (by omega), List.getElem?_set_self (by omega)]
        simp
      · by_cases h4 : i = k * 3 + 1
        · subst h4
          rw [List.getElem?_set_ne (by omega), List.getElem?_set_self (by simp; omega), show k * 3 + 1 - k * 3 = 1 by omega]
          rfl
        · obtain rfl : i = k * 3 + 2 := by omega
          rw [List.getElem?_set_self (by simp; omega), show k * 3 + 2 - k * 3 = 2 by omega]
          rfl
  · rw [if_neg h1, List.getElem?_eq_none]
    simp only [List.length_append, List.length_take, List.length_cons, List.length_nil]
    omega

/-- What is new does not count. -/
theorem chg_old {S0 S : Nat → Prop} {w W W1 : World} (h : Chg S0 w W) (hc : Chg S W W1) (hS : ∀ k, k < w.heap.size → S k → S0 k) : Chg S0 w W1 :=
  ⟨hc.os.trans h.os, hc.tape.trans h.tape, hc.output.trans h.output, Nat.le_trans h.size hc.size, fun k hk hn => (hc.block k (Nat.lt_of_lt_of_le hk h.size) (fun hs => hn (hS k hk hs))).trans (h.block k hk hn)⟩
theorem pat_oneA (n : Int) : (#[Value.int .i64 0, .int .i64 n, .slice none 0 0].all (·.oneCell')) = true := all_oneCell_toArray (cs := [.int .i64 0, .int .i64 n, .slice none 0 0]) fun v hv => by
  simp only [List.mem_cons, List.not_mem_nil, or_false] at hv
  rcases hv with rfl | rfl | rfl <;> rfl

end Go.Proofs.YtpegbgomnpinfaaGreat
