/- Several texts in one: PlwD, PlwE. -/
import Derived.Test.YtpegbgomnpinfaaGreatMrg9
import Derived.Test.YtpegbgomnpinfaaGreatPlnP
/- plan.Split told plainly: which rows, which members, which bytes; how many at most; the order of unlike blocks. No program in sight. -/
set_option linter.unusedVariables false
namespace Go.Proofs.YtpegbgomnpinfaaGreat
open Go.RowKit

theorem there_nat {M C S : Nat} {b : Int} (h : thereIs M C S b) (hg : geoIs M C S = true) : ∃ n : Nat, b = n ∧ n < S * C * (M - 1) := by
  obtain ⟨h1, -⟩ := (geoIs_iff M C S).1 hg
  obtain ⟨h0, hb⟩ := h
  obtain ⟨n, rfl⟩ := Int.eq_ofNat_of_zero_le h0
  refine ⟨n, rfl, ?_⟩
  have e1 : ((M - 1 : Nat) : Int) = (M : Int) - 1 := by omega
  rw [← e1] at hb
  exact_mod_cast hb

/-- Where a block lies. -/
structure Lies (M C S b : Nat) : Prop where
  stripe : stripeOf M C b < S
  row : rowOf M C b < S * C
  memb : membOf M C b < M
  rowC : rowOf M C b / C = stripeOf M C b
  rowMod : rowOf M C b % C = b % ((M - 1) * C) % C
  mem : membOf M C b = (parOf M C (rowOf M C b) + 1 + b % ((M - 1) * C) / C) % M
  few : b % ((M - 1) * C) / C < M - 1
  whole : stripeOf M C b * ((M - 1) * C) + (b % ((M - 1) * C) / C * C + b % ((M - 1) * C) % C) = b

theorem lies {M C S b : Nat} (hg : geoIs M C S = true) (hb : b < S * C * (M - 1)) : Lies M C S b := by
  obtain ⟨h1, h2, h3, h4, h5, h6⟩ := (geoIs_iff M C S).1 hg
  have hC : 0 < C := by omega
  have hM : 0 < M - 1 := by omega
  have hE : 0 < (M - 1) * C := Nat.mul_pos hM hC
  have hst : stripeOf M C b < S := by
    unfold stripeOf
    rw [Nat.div_lt_iff_lt_mul hE, Nat.mul_comm (M - 1) C, ← Nat.mul_assoc]
    exact hb
  have hi : b % ((M - 1) * C) < (M - 1) * C := Nat.mod_lt _ hE
  have hm : b % ((M - 1) * C) % C < C := Nat.mod_lt _ hC
  have hrc : rowOf M C b / C = stripeOf M C b := by
    unfold rowOf
    rw [Nat.mul_comm, Nat.mul_add_div hC, Nat.div_eq_of_lt hm, Nat.add_zero]
  have hrm : rowOf M C b % C = b % ((M - 1) * C) % C := by
    unfold rowOf
    rw [Nat.mul_comm, Nat.mul_add_mod, Nat.mod_eq_of_lt hm]
  refine ⟨hst, ?_, ?_, hrc, hrm, ?_, ?_, ?_⟩
  · rw [← Nat.div_lt_iff_lt_mul hC, hrc]
    exact hst
  · unfold membOf memOf
    exact Nat.mod_lt _ (by omega)
  · unfold parOf
    rw [hrc]
    rfl
  · rw [Nat.div_lt_iff_lt_mul hC]
    exact hi
  · have e1 : b % ((M - 1) * C) / C * C + b % ((M - 1) * C) % C = b % ((M - 1) * C) := by
      rw [Nat.mul_comm]; exact Nat.div_add_mod _ _
    rw [e1]
    unfold stripeOf
    rw [Nat.mul_comm]
    exact Nat.div_add_mod _ _

/-- How far behind the parity's a member comes. -/
def behind (M p m : Nat) : Nat := (m + 2 * M - p - 1) % M
theorem behind_of {M p i : Nat} (hp : p < M) (hi : i < M - 1) : behind M p ((p + 1 + i) % M) = i := by
  unfold behind
  by_cases h : p + 1 + i < M
  · rw [Nat.mod_eq_of_lt h, show p + 1 + i + 2 * M - p - 1 = i + M * 2 by omega, Nat.add_mul_mod_self_left, Nat.mod_eq_of_lt (by omega)]
  · rw [show (p + 1 + i) % M = p + 1 + i - M by rw [Nat.mod_eq_sub_mod (by omega), Nat.mod_eq_of_lt (by omega)], show p + 1 + i - M + 2 * M - p - 1 = i + M by omega, Nat.add_mod_right, Nat.mod_eq_of_lt (by omega)]

/-- What block lies there. -/
def blockAt (M C m r : Nat) : Nat := r / C * (M - 1) * C + behind M (parOf M C r) m * C + r % C

theorem block_at {M C S b : Nat} (hg : geoIs M C S = true) (hb : b < S * C * (M - 1)) : blockAt M C (membOf M C b) (rowOf M C b) = b := by
  have L := lies hg hb
  obtain ⟨h1, h2, h3, h4, h5, h6⟩ := (geoIs_iff M C S).1 hg
  have hp : parOf M C (rowOf M C b) < M := by unfold parOf; omega
  unfold blockAt
  rw [L.mem, behind_of hp L.few, L.rowC, L.rowMod, Nat.mul_assoc, Nat.add_assoc]
  exact L.whole

theorem not_par {M C S b : Nat} (hg : geoIs M C S = true) (hb : b < S * C * (M - 1)) : membOf M C b ≠ parOf M C (rowOf M C b) := by
  have L := lies hg hb
  obtain ⟨h1, h2, h3, h4, h5, h6⟩ := (geoIs_iff M C S).1 hg
  have hp : parOf M C (rowOf M C b) < M := by unfold parOf; omega
  rw [L.mem]
  have hf := L.few
  generalize parOf M C (rowOf M C b) = p at *
  generalize b % ((M - 1) * C) / C = i at *
  intro e
  by_cases h : p + 1 + i < M
  · rw [Nat.mod_eq_of_lt h] at e; omega
  · rw [show (p + 1 + i) % M = p + 1 + i - M by rw [Nat.mod_eq_sub_mod (by omega), Nat.mod_eq_of_lt (by omega)]] at e
    omega

theorem pos_inj {M C S b c : Nat} (hg : geoIs M C S = true) (hb : b < S * C * (M - 1)) (hc : c < S * C * (M - 1)) (hr : rowOf M C b = rowOf M C c) (hm : membOf M C b = membOf M C c) : b = c := by
  rw [← block_at hg hb, ← block_at hg hc, hr, hm]

/-- Two rising lists of the same things are one. -/
theorem sorted_ext : ∀ {l m : List Int}, l.Pairwise (· < ·) → m.Pairwise (· < ·) → (∀ x, x ∈ l ↔ x ∈ m) → l = m
  | [], [], _, _, _ => rfl
  | [], b :: m, _, _, h => by have := (h b).2 List.mem_cons_self; cases this
  | a :: l, [], _, _, h => by have := (h a).1 List.mem_cons_self; cases this
  | a :: l, b :: m, h1, h2, h => by
    rw [List.pairwise_cons] at h1 h2
    have hab : a = b := by
      rcases List.mem_cons.1 ((h a).1 List.mem_cons_self) with e | e
      · exact e
      · rcases List.mem_cons.1 ((h b).2 List.mem_cons_self) with e' | e'
        · exact e'.symm
        · have := h2.1 a e
          have := h1.1 b e'
          omega
    subst hab
    rw [sorted_ext h1.2 h2.2 fun x => ?_]
    constructor
    · intro hx
      rcases List.mem_cons.1 ((h x).1 (List.mem_cons_of_mem _ hx)) with e | e
      · subst e; have := h1.1 x hx; omega
      · exact e
    · intro hx
      rcases List.mem_cons.1 ((h x).2 (List.mem_cons_of_mem _ hx)) with e | e
      · subst e; have := h2.1 x hx; omega
      · exact e

/-- What the k-th .. give lies at one of them. -/
theorem tab_from {M C : Nat} {us : List (Int × List UInt8)} : ∀ {k : Nat}, k ≤ us.length → ∀ {r m : Int} {d : List UInt8}, tabOf M C us k r m = some d → ∃ j, j < k ∧ r = ((rowOf M C (us.getD j put0).1.toNat : Nat) : Int) ∧ m = ((membOf M C (us.getD j put0).1.toNat : Nat) : Int) ∧ d = (us.getD j put0).2
  | 0, _, r, m, d, h => by cases h
  | k + 1, hk, r, m, d, h => by
    have h' : tabSet (tabOf M C us k) (rowOf M C (us.getD k put0).1.toNat : Nat) (membOf M C (us.getD k put0).1.toNat : Nat) (us.getD k put0).2 r m = some d := h
    unfold tabSet at h'
    split at h'
    · rename_i hh
      simp only [Option.some.injEq] at h'
      exact ⟨k, by omega, hh.1, hh.2, h'.symm⟩
    · obtain ⟨j, h1, h2⟩ := tab_from (k := k) (by omega) h'
      exact ⟨j, by omega, h2⟩

/-- The rows that are written. -/
def hasRow (M : Nat) (G : Tab) (r : Nat) : Bool := (List.range M).any fun m => (G (r : Int) (m : Int)).isSome
def rowsIn (M R : Nat) (G : Tab) : List Nat := whichTo (hasRow M G) R
/-- A row's members that are. -/
def membsIn (M : Nat) (G : Tab) (r : Nat) : List Nat := whichTo (fun m => (G (r : Int) (m : Int)).isSome) M
def patsIn (M : Nat) (G : Tab) (r : Nat) : List Pat := (membsIn M G r).map fun m : Nat => (⟨(m : Int), (r : Int), (G (r : Int) (m : Int)).getD []⟩ : Pat)
/-- How many there are at most. -/
def mostIn (M R : Nat) (G : Tab) : Nat := ((rowsIn M R G).map fun r => (membsIn M G r).length).sum + (rowsIn M R G).length

/-- Nothing lies outside. -/
def TabIn (M R : Nat) (G : Tab) : Prop := ∀ r m d, G r m = some d → ∃ r' m' : Nat, r = (r' : Int) ∧ m = (m' : Int) ∧ r' < R ∧ m' < M

theorem cast_sorted {l : List Nat} (h : l.Pairwise (· < ·)) : (l.map fun x : Nat => (x : Int)).Pairwise (· < ·) := by
  rw [List.pairwise_map]
  exact h.imp fun {a b} h => by
    show (a : Int) < (b : Int)
    omega

theorem rows_are {M R : Nat} {G : Tab} (hG : TabIn M R G) {rs : List Int} {W : Int → Prop} (hW : ∀ n : Nat, n < R → W n) (h1 : rs.Pairwise (· < ·)) (h2 : ∀ r, r ∈ rs ↔ (W r ∧ ∃ m d, G r m = some d)) : rs = (rowsIn M R G).map fun x : Nat => (x : Int) := by
  refine sorted_ext h1 (cast_sorted (which_pw _ _)) fun r => ?_
  rw [h2 r, List.mem_map]
  constructor
  · rintro ⟨-, m, d, h⟩
    obtain ⟨r', m', rfl, rfl, h3, h4⟩ := hG r m d h
    refine ⟨r', which_mem.2 ⟨h3, ?_⟩, rfl⟩
    unfold hasRow
    exact List.any_eq_true.2 ⟨m', by simpa using h4, by rw [h]; rfl⟩
  · rintro ⟨r', h, rfl⟩
    obtain ⟨h3, h4⟩ := which_mem.1 h
    unfold hasRow at h4
    obtain ⟨m, -, h5⟩ := List.any_eq_true.1 h4
    obtain ⟨d, h6⟩ := Option.isSome_iff_exists.1 h5
    exact ⟨hW r' h3, (m : Int), d, h6⟩
theorem membs_are {M R : Nat} {G : Tab} (hG : TabIn M R G) {r : Nat} {ms : List Int} {W : Int → Prop} (hW : ∀ n : Nat, n < M → W n) (h1 : ms.Pairwise (· < ·)) (h2 : ∀ m, m ∈ ms ↔ (W m ∧ (G (r : Int) m).isSome = true)) : ms = (membsIn M G r).map fun x : Nat => (x : Int) := by
  refine sorted_ext h1 (cast_sorted (which_pw _ _)) fun m => ?_
  rw [h2 m, List.mem_map]
  constructor
  · rintro ⟨-, h⟩
    obtain ⟨d, h6⟩ := Option.isSome_iff_exists.1 h
    obtain ⟨r', m', h7, rfl, h3, h4⟩ := hG (r : Int) m d h6
    exact ⟨m', which_mem.2 ⟨h4, h⟩, rfl⟩
  · rintro ⟨m', h, rfl⟩
    obtain ⟨h3, h4⟩ := which_mem.1 h
    exact ⟨hW m' h3, h4⟩

theorem tab_in {M C S : Nat} {us : List (Int × List UInt8)} (hg : geoIs M C S = true) (h : ∀ u ∈ us, thereIs M C S u.1) {k : Nat} (hk : k ≤ us.length) : TabIn M (S * C) (tabOf M C us k) := fun r m d e => by
  obtain ⟨j, h1, h2, h3, -⟩ := tab_from hk e
  have hj : j < us.length := by omega
  have hu : us.getD j put0 ∈ us := by
    rw [List.getD_eq_getElem?_getD, List.getElem?_eq_getElem hj]
    exact List.getElem_mem hj
  obtain ⟨n, hn, hn2⟩ := there_nat (h _ hu) hg
  rw [hn] at h2 h3
  have L := lies hg hn2
  exact ⟨_, _, h2, h3, by simpa using L.row, by simpa using L.memb⟩
theorem nsum_mono {f g : Nat → Nat} : ∀ {n : Nat}, (∀ i, i < n → f i ≤ g i) → nsum f n ≤ nsum g n
  | 0, _ => Nat.le_refl _
  | n + 1, h => by
    show nsum f n + f n ≤ nsum g n + g n
    have := nsum_mono (f := f) (g := g) (n := n) (fun i hi => h i (by omega))
    have := h n (by omega)
    omega
theorem nsum_zero : ∀ n, nsum (fun _ => 0) n = 0
  | 0 => rfl
  | n + 1 => by show nsum (fun _ => 0) n + 0 = 0; rw [nsum_zero n]
theorem which_sum (q : Nat → Bool) (f : Nat → Nat) : ∀ n, ((whichTo q n).map f).sum = nsum (fun m => if q m = true then f m else 0) n
  | 0 => rfl
  | n + 1 => by
    rw [whichTo_succ]
    show _ = nsum (fun m => if q m = true then f m else 0) n + (if q n = true then f n else 0)
    rw [← which_sum q f n]
    split
    · rw [List.map_append, List.sum_append]
      simp
    · simp

def cellIn (G : Tab) (r m : Nat) : Nat := if (G (r : Int) (m : Int)).isSome = true then 1 else 0
def cellsIn (M R : Nat) (G : Tab) : Nat := nsum (fun r => nsum (fun m => cellIn G r m) M) R
def rowIn (M : Nat) (G : Tab) (r : Nat) : Nat := if hasRow M G r = true then 1 else 0

theorem cells_sum (M R : Nat) (G : Tab) : ((rowsIn M R G).map fun r => (membsIn M G r).length).sum = cellsIn M R G := by
  unfold rowsIn cellsIn
  rw [which_sum]
  refine nsum_congr fun r _ => ?_
  cases h : hasRow M G r
  · rw [if_neg (by simp)]
    have e : ∀ m, m < M → cellIn G r m = 0 := fun m hm => by
      unfold hasRow at h
      rw [List.any_eq_false] at h
      unfold cellIn
      exact if_neg (h m (by simpa using hm))
    rw [nsum_congr e, nsum_zero]
  · rw [if_pos rfl]
    unfold membsIn
    rw [which_count]
    rfl
theorem most_is (M R : Nat) (G : Tab) : mostIn M R G = cellsIn M R G + nsum (rowIn M G) R := by
  unfold mostIn
  rw [cells_sum]
  congr 1
  unfold rowsIn
  rw [which_count]
  rfl

theorem has_row {M : Nat} {G : Tab} {r m : Nat} (hm : m < M) (h : (G (r : Int) (m : Int)).isSome = true) : hasRow M G r = true := by
  unfold hasRow
  exact List.any_eq_true.2 ⟨m, by simpa using hm, h⟩
theorem row_has {M : Nat} {G : Tab} {r : Nat} (h : hasRow M G r = true) : ∃ m, m < M ∧ (G (r : Int) (m : Int)).isSome = true := by
  unfold hasRow at h
  obtain ⟨m, h1, h2⟩ := List.any_eq_true.1 h
  exact ⟨m, by simpa using h1, h2⟩

theorem most_mono {M R : Nat} {G G' : Tab} (h : ∀ r m, (G' r m).isSome = true → (G r m).isSome = true) : mostIn M R G' ≤ mostIn M R G := by
  rw [most_is, most_is]
  refine Nat.add_le_add (nsum_mono fun r _ => nsum_mono fun m _ => ?_) (nsum_mono fun r _ => ?_)
  · unfold cellIn
    by_cases h1 : (G' (r : Int) (m : Int)).isSome = true
    · rw [if_pos h1, if_pos (h _ _ h1)]; exact Nat.le_refl _
    · rw [if_neg h1]; exact Nat.zero_le _
  · unfold rowIn
    by_cases h1 : hasRow M G' r = true
    · obtain ⟨m, h2, h3⟩ := row_has h1
      rw [if_pos h1, if_pos (has_row h2 (h _ _ h3))]; exact Nat.le_refl _
    · rw [if_neg h1]; exact Nat.zero_le _

theorem tab_set_some {G : Tab} {r m : Nat} {d : List UInt8} {r' m' : Nat} (h : (tabSet G (r : Int) (m : Int) d (r' : Int) (m' : Int)).isSome = true) : (r' = r ∧ m' = m) ∨ (G (r' : Int) (m' : Int)).isSome = true := by
  unfold tabSet at h
  split at h
  · rename_i e
    exact .inl ⟨by omega, by omega⟩
  · exact .inr h

theorem most_set {M R : Nat} {G : Tab} {r m : Nat} {d : List UInt8} : mostIn M R (tabSet G (r : Int) (m : Int) d) ≤ mostIn M R G + 2 := by
  rw [most_is, most_is]
  have h1 : cellsIn M R (tabSet G (r : Int) (m : Int) d) ≤ cellsIn M R G + 1 := by
    unfold cellsIn
    have e : ∀ r', r' < R → nsum (fun m' => cellIn (tabSet G (r : Int) (m : Int) d) r' m') M ≤ nsum (fun m' => cellIn G r' m') M + (if r' = r then 1 else 0) := fun r' _ => by
      refine Nat.le_trans (nsum_mono (g := fun m' => cellIn G r' m' + (if m' = m then (if r' = r then 1 else 0) else 0)) fun m' _ => ?_) ?_
      · unfold cellIn
        by_cases h1 : (tabSet G (r : Int) (m : Int) d (r' : Int) (m' : Int)).isSome = true
        · rw [if_pos h1]
          rcases tab_set_some h1 with ⟨e1, e2⟩ | e
          · rw [if_pos e2, if_pos e1]; omega
          · rw [if_pos e]; omega
        · rw [if_neg h1]; exact Nat.zero_le _
      · rw [nsum_add, nsum_one]
        refine Nat.add_le_add_left ?_ _
        split
        · exact Nat.le_refl _
        · exact Nat.zero_le _
    refine Nat.le_trans (nsum_mono e) ?_
    rw [nsum_add, nsum_one]
    split <;> omega
  have h2 : nsum (rowIn M (tabSet G (r : Int) (m : Int) d)) R ≤ nsum (rowIn M G) R + 1 := by
    refine Nat.le_trans (nsum_mono (g := fun r' => rowIn M G r' + (if r' = r then 1 else 0)) fun r' _ => ?_) ?_
    · unfold rowIn
      by_cases h1 : hasRow M (tabSet G (r : Int) (m : Int) d) r' = true
      · rw [if_pos h1]
        obtain ⟨m', h2, h3⟩ := row_has h1
        rcases tab_set_some h3 with ⟨e1, e2⟩ | e
        · rw [if_pos e1]; omega
        · rw [if_pos (has_row h2 e)]; omega
      · rw [if_neg h1]; exact Nat.zero_le _
    · rw [nsum_add, nsum_one]
      split <;> omega
  omega

theorem most_nil (M R : Nat) : mostIn M R (fun _ _ => none) = 0 := by
  rw [most_is]
  have e1 : cellsIn M R (fun _ _ => none) = 0 := by
    unfold cellsIn
    have : ∀ r, r < R → nsum (fun m => cellIn (fun _ _ => none) r m) M = 0 := fun r _ => nsum_zero M
    rw [nsum_congr this, nsum_zero]
  have e2 : nsum (rowIn M (fun _ _ => none)) R = 0 := by
    have : ∀ r, r < R → rowIn M (fun _ _ => none) r = 0 := fun r _ => by
      unfold rowIn hasRow
      rw [if_neg]
      simp
    rw [nsum_congr this, nsum_zero]
  rw [e1, e2]

theorem most_twice (M C R : Nat) (us : List (Int × List UInt8)) : ∀ k, mostIn M R (tabOf M C us k) ≤ 2 * k
  | 0 => by rw [show tabOf M C us 0 = fun _ _ => none from rfl, most_nil]; exact Nat.le_refl _
  | k + 1 => by
    have := most_twice M C R us k
    have h2 : mostIn M R (tabOf M C us (k + 1)) ≤ mostIn M R (tabOf M C us k) + 2 := most_set
    omega

/-- A block less. -/
theorem tab_tail (M C : Nat) (u : Int × List UInt8) (us : List (Int × List UInt8)) : ∀ k r m, (tabOf M C us k r m).isSome = true → (tabOf M C (u :: us) (k + 1) r m).isSome = true
  | 0, r, m, h => by cases h
  | k + 1, r, m, h => by
    have e : (u :: us).getD (k + 1) put0 = us.getD k put0 := by simp
    show (tabSet (tabOf M C (u :: us) (k + 1)) (rowOf M C ((u :: us).getD (k + 1) put0).1.toNat : Nat) (membOf M C ((u :: us).getD (k + 1) put0).1.toNat : Nat) ((u :: us).getD (k + 1) put0).2 r m).isSome = true
    rw [e]
    have h' : (tabSet (tabOf M C us k) (rowOf M C (us.getD k put0).1.toNat : Nat) (membOf M C (us.getD k put0).1.toNat : Nat) (us.getD k put0).2 r m).isSome = true := h
    unfold tabSet at h' ⊢
    split at h'
    · rename_i hh
      rw [if_pos hh]
      rfl
    · rename_i hh
      rw [if_neg hh]
      exact tab_tail M C u us k r m h'

/-- Unlike blocks. -/
def Unlike (us : List (Int × List UInt8)) : Prop := us.Pairwise fun u v => u.1 ≠ v.1

theorem tab_has_of {M C S : Nat} {us : List (Int × List UInt8)} (hg : geoIs M C S = true) (h : ∀ u ∈ us, thereIs M C S u.1) (hu : Unlike us) : ∀ {k : Nat}, k ≤ us.length → ∀ {j : Nat}, j < k → tabOf M C us k (rowOf M C (us.getD j put0).1.toNat : Nat) (membOf M C (us.getD j put0).1.toNat : Nat) = some (us.getD j put0).2
  | 0, _, j, hj => by omega
  | k + 1, hk, j, hj => by
    show tabSet (tabOf M C us k) (rowOf M C (us.getD k put0).1.toNat : Nat) (membOf M C (us.getD k put0).1.toNat : Nat) (us.getD k put0).2 _ _ = _
    unfold tabSet
    by_cases hjk : j = k
    · subst hjk
      rw [if_pos ⟨rfl, rfl⟩]
    · rw [if_neg]
      · exact tab_has_of hg h hu (k := k) (by omega) (by omega)
      · rintro ⟨e1, e2⟩
        have ej : us.getD j put0 = us[j]'(by omega) := by rw [List.getD_eq_getElem?_getD, List.getElem?_eq_getElem (by omega)]; rfl
        have ek : us.getD k put0 = us[k]'(by omega) := by rw [List.getD_eq_getElem?_getD, List.getElem?_eq_getElem (by omega)]; rfl
        rw [ej, ek] at e1 e2
        obtain ⟨n, hn, hn2⟩ := there_nat (h _ (List.getElem_mem (by omega : j < us.length))) hg
        obtain ⟨n', hn', hn2'⟩ := there_nat (h _ (List.getElem_mem (by omega : k < us.length))) hg
        rw [hn, hn'] at e1 e2
        have := pos_inj hg hn2 hn2' (by simpa using Int.ofNat_inj.1 e1) (by simpa using Int.ofNat_inj.1 e2)
        exact List.pairwise_iff_getElem.1 hu j k (by omega) (by omega) (by omega) (by rw [hn, hn', this])

theorem tab_iff {M C S : Nat} {us : List (Int × List UInt8)} (hg : geoIs M C S = true) (h : ∀ u ∈ us, thereIs M C S u.1) (hu : Unlike us) {r m : Int} {d : List UInt8} :
    tabOf M C us us.length r m = some d ↔ ∃ u ∈ us, r = ((rowOf M C u.1.toNat : Nat) : Int) ∧ m = ((membOf M C u.1.toNat : Nat) : Int) ∧ d = u.2 := by
  constructor
  · intro e
    obtain ⟨j, h1, h2⟩ := tab_from (Nat.le_refl _) e
    refine ⟨us.getD j put0, ?_, h2⟩
    rw [List.getD_eq_getElem?_getD, List.getElem?_eq_getElem h1]
    exact List.getElem_mem h1
  · rintro ⟨u, hu', rfl, rfl, rfl⟩
    obtain ⟨j, hj, rfl⟩ := List.getElem_of_mem hu'
    have ej : us.getD j put0 = us[j]'hj := by rw [List.getD_eq_getElem?_getD, List.getElem?_eq_getElem hj]; rfl
    have := tab_has_of hg h hu (Nat.le_refl _) hj
    rw [ej] at this
    exact this

/-- The order of unlike blocks changes nothing. -/
theorem tab_order {M C S : Nat} {us vs : List (Int × List UInt8)} (hg : geoIs M C S = true) (h : ∀ u ∈ us, thereIs M C S u.1) (hu : Unlike us) (hv : Unlike vs) (hm : ∀ u, u ∈ us ↔ u ∈ vs) : tabOf M C us us.length = tabOf M C vs vs.length := by
  funext r m
  apply Option.ext
  intro d
  rw [tab_iff hg h hu, tab_iff hg (fun u hu => h u ((hm u).2 hu)) hv]
  constructor
  · rintro ⟨u, h1, h2⟩; exact ⟨u, (hm u).1 h1, h2⟩
  · rintro ⟨u, h1, h2⟩; exact ⟨u, (hm u).2 h1, h2⟩

/-- Unlike blocks are all there. -/
theorem cells_unlike {M C S : Nat} {us : List (Int × List UInt8)} (hg : geoIs M C S = true) (h : ∀ u ∈ us, thereIs M C S u.1) (hu : Unlike us) : ∀ {k : Nat}, k ≤ us.length → cellsIn M (S * C) (tabOf M C us k) = k
  | 0, _ => by
    unfold cellsIn
    have : ∀ r, r < S * C → nsum (fun m => cellIn (tabOf M C us 0) r m) M = 0 := fun r _ => nsum_zero M
    rw [nsum_congr this, nsum_zero]
  | k + 1, hk => by
    have ek : us.getD k put0 = us[k]'(by omega) := by rw [List.getD_eq_getElem?_getD, List.getElem?_eq_getElem (by omega)]; rfl
    obtain ⟨n, hn, hn2⟩ := there_nat (h _ (List.getElem_mem (by omega : k < us.length))) hg
    have L := lies hg hn2
    have hnone : tabOf M C us k (rowOf M C n : Nat) (membOf M C n : Nat) = none := by
      cases hq : tabOf M C us k (rowOf M C n : Nat) (membOf M C n : Nat) with
      | none => rfl
      | some d =>
        exfalso
        obtain ⟨j, h1, h2, h3, -⟩ := tab_from (by omega) hq
        have ej : us.getD j put0 = us[j]'(by omega) := by rw [List.getD_eq_getElem?_getD, List.getElem?_eq_getElem (by omega)]; rfl
        obtain ⟨n', hn', hn2'⟩ := there_nat (h _ (List.getElem_mem (by omega : j < us.length))) hg
        rw [ej, hn'] at h2 h3
        have := pos_inj hg hn2 hn2' (by simpa using Int.ofNat_inj.1 h2) (by simpa using Int.ofNat_inj.1 h3)
        exact List.pairwise_iff_getElem.1 hu j k (by omega) (by omega) (by omega) (by rw [hn, hn', this])
    have ih := cells_unlike hg h hu (k := k) (by omega)
    have es : tabOf M C us (k + 1) = tabSet (tabOf M C us k) (rowOf M C n : Nat) (membOf M C n : Nat) (us.getD k put0).2 := by
      show tabSet _ (rowOf M C (us.getD k put0).1.toNat : Nat) (membOf M C (us.getD k put0).1.toNat : Nat) _ = _
      rw [ek, hn]
      rfl
    rw [es]
    unfold cellsIn at ih ⊢
    have e : ∀ r', r' < S * C → nsum (fun m' => cellIn (tabSet (tabOf M C us k) (rowOf M C n : Nat) (membOf M C n : Nat) (us.getD k put0).2) r' m') M = nsum (fun m' => cellIn (tabOf M C us k) r' m') M + (if r' = rowOf M C n then 1 else 0) := fun r' _ => by
      have e2 : ∀ m', m' < M → cellIn (tabSet (tabOf M C us k) (rowOf M C n : Nat) (membOf M C n : Nat) (us.getD k put0).2) r' m' = cellIn (tabOf M C us k) r' m' + (if m' = membOf M C n then (if r' = rowOf M C n then 1 else 0) else 0) := fun m' _ => by
        unfold cellIn tabSet
        by_cases h1 : r' = rowOf M C n ∧ m' = membOf M C n
        · obtain ⟨rfl, rfl⟩ := h1
          rw [if_pos (⟨rfl, rfl⟩ : _ ∧ _), hnone]
          simp
        · have hne : ¬ ((r' : Int) = ((rowOf M C n : Nat) : Int) ∧ (m' : Int) = ((membOf M C n : Nat) : Int)) := fun e => h1 ⟨by have := e.1; omega, by have := e.2; omega⟩
          rw [if_neg hne]
          by_cases h2 : m' = membOf M C n
          · rw [if_pos h2, if_neg (fun e => h1 ⟨e, h2⟩), Nat.add_zero]
          · rw [if_neg h2, Nat.add_zero]
      rw [nsum_congr e2, nsum_add, nsum_one, if_pos L.memb]
    rw [nsum_congr e, nsum_add, nsum_one, if_pos L.row, ih]

/-- A row's patches may be planned. -/
theorem pats_ok {M C S : Nat} {us : List (Int × List UInt8)} (hg : geoIs M C S = true) (h : ∀ u ∈ us, thereIs M C S u.1) (hl : ∀ u ∈ us, u.2.length = 128) {d : Nat → Bool} (hd : Lone d M) {r : Nat} (hr : r < S * C) (hh : hasRow M (tabOf M C us us.length) r = true) :
    PlanOk M C S d (patsIn M (tabOf M C us us.length) r) r := by
  have hmem : ∀ {p : Pat}, p ∈ patsIn M (tabOf M C us us.length) r → ∃ m : Nat, m < M ∧ p.m = (m : Int) ∧ p.r = (r : Int) ∧ p.d.length = 128 ∧ m ≠ parOf M C r := fun {p} hp => by
    obtain ⟨m, hm, rfl⟩ := List.mem_map.1 hp
    obtain ⟨h1, h2⟩ := which_mem.1 hm
    obtain ⟨x, hx⟩ := Option.isSome_iff_exists.1 h2
    obtain ⟨j, h3, h4, h5, h6⟩ := tab_from (Nat.le_refl _) hx
    have hj : us.getD j put0 ∈ us := by
      rw [List.getD_eq_getElem?_getD, List.getElem?_eq_getElem h3]
      exact List.getElem_mem h3
    obtain ⟨n, hn, hn2⟩ := there_nat (h _ hj) hg
    rw [hn] at h4 h5
    refine ⟨m, h1, rfl, rfl, ?_, ?_⟩
    · show ((tabOf M C us us.length (r : Int) (m : Int)).getD []).length = 128
      rw [hx, Option.getD_some, h6]
      exact hl _ hj
    · have e1 : m = membOf M C n := by simpa using Int.ofNat_inj.1 h5
      have e2 : r = rowOf M C n := by simpa using Int.ofNat_inj.1 h4
      rw [e1, e2]
      exact not_par hg hn2
  have hpw : (patsIn M (tabOf M C us us.length) r).Pairwise fun p q => p.m < q.m := by
    unfold patsIn
    rw [List.pairwise_map]
    exact (which_pw _ _).imp fun {a b} h => by
      show ((a : Nat) : Int) < ((b : Nat) : Int)
      omega
  refine ⟨hg, hr, ?_, fun p hp => ?_, fun p hp => ?_, fun p hp => ?_, fun p hp => ?_, fun i j hi hj hij => List.pairwise_iff_getElem.1 hpw i j hi hj hij, fun p hp => ?_, hd⟩
  · obtain ⟨m, h1, h2⟩ := row_has hh
    unfold patsIn
    rw [List.length_map]
    exact List.length_pos_of_mem (which_mem.2 ⟨h1, h2⟩ : m ∈ membsIn M _ r)
  all_goals obtain ⟨m, h1, h2, h3, h4, h5⟩ := hmem hp
  · exact h3
  · omega
  · omega
  · omega
  · exact h4

end Go.Proofs.YtpegbgomnpinfaaGreat

/- plan.Split and plan.Most, told plainly. -/
set_option linter.unusedVariables false
namespace Go.Proofs.YtpegbgomnpinfaaGreat
open Go.RowKit

/-- What a batch gives. -/
abbrev tabAll (M C : Nat) (us : List (Int × List UInt8)) : Tab := tabOf M C us us.length

/-- What lies in Split's rows. -/
def SplitIs (M C S : Nat) (us : List (Int × List UInt8)) (L : List (Value × List OP)) : Prop :=
  L.map (fun x => x.2.map (·.1)) = (rowsIn M (S * C) (tabAll M C us)).map (patsIn M (tabAll M C us))

/-- A batch that may be given. -/
structure BatchOk (M C S : Nat) (us : List (Int × List UInt8)) : Prop where
  hg : geoIs M C S = true
  few : us.length ≤ 256
  there : ∀ u ∈ us, thereIs M C S u.1
  len : ∀ u ∈ us, u.2.length = 128

set_option maxRecDepth 100000 in
theorem plan_SplitE (M C S : Nat) (v : Value) (us : List (Int × List UInt8)) (w : World) (ok : BatchOk M C S us) (hv : PutSeg w v us) :
    Calls Tryz.prog 145 #[geo M C S, v] w fun e w' => (∃ v' L, e = .returned (.tuple #[v', .int .u16 0]) ∧ RowsAt w' w.heap.size v' L ∧ SplitIs M C S us L) ∧ Below w.heap.size w w' := by
  refine (plan_Split M C S v us w ok.hg hv ok.few).mono fun e w' ⟨h, hb⟩ => ⟨?_, hb⟩
  rcases h with ⟨⟨u, h1, h2⟩, -⟩ | ⟨-, ⟨u, h1, h2⟩, -⟩ | ⟨-, -, v', rs, L, dv, he, hL, hrs, hlen, hmem, hrow, -, -⟩
  · exact absurd (ok.there u h1) h2
  · exact absurd (ok.len u h1) h2
  · refine ⟨v', L, he, hL, ?_⟩
    have hG := tab_in ok.hg ok.there (Nat.le_refl us.length)
    have hb2 := (geo_bounds ok.hg).2
    have hR : S * C ≤ 4096 := by exact_mod_cast hb2
    have hM : M ≤ 16 := by have := (geoIs_iff M C S).1 ok.hg; omega
    have hrs' := rows_are (W := fun r => (Lit.int .i64 r).wf = true) hG (fun n hn => WalkArith.wf_i64 ⟨by omega, by omega⟩) hrs hmem
    unfold SplitIs tabAll
    apply List.ext_getElem
    · rw [List.length_map, List.length_map, hlen, hrs', List.length_map]
    · intro i h1 h2
      rw [List.getElem_map, List.getElem_map]
      have hi : i < L.length := by rw [List.length_map] at h1; exact h1
      obtain ⟨ms, m1, m2, m3⟩ := hrow i hi
      have hi2 : i < (rowsIn M (S * C) (tabOf M C us us.length)).length := by rw [List.length_map] at h2; exact h2
      have er : rs.getD i 0 = (((rowsIn M (S * C) (tabOf M C us us.length))[i]'hi2 : Nat) : Int) := by
        rw [hrs', List.getD_eq_getElem?_getD, List.getElem?_map, List.getElem?_eq_getElem hi2]
        rfl
      rw [er] at m2 m3
      have hms := membs_are (W := fun r => (Lit.int .i64 r).wf = true) hG (fun n hn => WalkArith.wf_i64 ⟨by omega, by omega⟩) m1 m2
      rw [m3]
      unfold rowX patsIn
      rw [hms, List.map_map, List.map_map]
      rfl

end Go.Proofs.YtpegbgomnpinfaaGreat
