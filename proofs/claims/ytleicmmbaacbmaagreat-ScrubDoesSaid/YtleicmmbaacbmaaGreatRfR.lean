/- What scrub's calls answer: the program's and the document's, the same. -/
import Derived.Test.YtleicmmbaacbmaaGreatRfQ
set_option linter.unusedVariables false
namespace Go.Proofs.YtleicmmbaacbmaaGreat
open Go.RowKit

/-- An answer: trouble, rows, bytes, the bay behind it. -/
structure Ans where
  t1 : Int
  t2 : Int
  l : List Nat
  x : List UInt8
  s : BaySt

theorem may_zero {n : Nat} {m c s member row : Int} (h : mayCode n m c s member row = 0) : ∃ M C S mm r : Nat, m = M ∧ c = C ∧ s = S ∧ member = mm ∧ row = r ∧ geoIs M C S = true ∧ n = M + 1 ∧ mm < M ∧ r < S * C := by
  unfold mayCode at h
  by_cases hg : geoIs m c s = true
  · rw [if_pos hg] at h
    obtain ⟨g1, g2, g3, g4, g5, g6⟩ := (geoIs_iff m c s).1 hg
    obtain ⟨M, rfl⟩ : ∃ q : Nat, m = q := ⟨m.toNat, by omega⟩
    obtain ⟨C, rfl⟩ : ∃ q : Nat, c = q := ⟨c.toNat, by omega⟩
    obtain ⟨S, rfl⟩ : ∃ q : Nat, s = q := ⟨s.toNat, by omega⟩
    by_cases hn : (n : Int) = (M : Int) + 1
    · rw [if_pos hn] at h
      by_cases hin : 0 ≤ member ∧ member < (M : Int) ∧ 0 ≤ row ∧ row < (S : Int) * (C : Int)
      · obtain ⟨i1, i2, i3, i4⟩ := hin
        obtain ⟨mm, rfl⟩ : ∃ q : Nat, member = q := ⟨member.toNat, by omega⟩
        obtain ⟨r, rfl⟩ : ∃ q : Nat, row = q := ⟨row.toNat, by omega⟩
        exact ⟨M, C, S, mm, r, rfl, rfl, rfl, rfl, rfl, hg, by omega, by omega, by exact_mod_cast i4⟩
      · rw [if_neg hin] at h; omega
    · rw [if_neg hn] at h; omega
  · rw [if_neg hg] at h; omega

def trOf (t : Option (Nat × Nat)) : Int × Int := ((((t.getD (0, 0)).1 : Nat) : Int), (((t.getD (0, 0)).2 : Nat) : Int))

/-- Rows of a bay, however it is asked. -/
def rowsA (st : BaySt) (m c s : Int) : Ans :=
  if mayCode st.n m c s 0 0 = 0 then ⟨(trOf (st.look m.toNat (s.toNat * c.toNat)).t).1, (trOf (st.look m.toNat (s.toNat * c.toNat)).t).2, (if (st.look m.toNat (s.toNat * c.toNat)).t = none then (st.look m.toNat (s.toNat * c.toNat)).l else []), [], (st.look m.toNat (s.toNat * c.toNat)).s⟩
  else ⟨0, mayCode st.n m c s 0 0, [], [], st⟩
def lostA (st : BaySt) (m c s mem row : Int) : Ans :=
  if mayCode st.n m c s mem row = 0 then ⟨(trOf (st.hand (1 + row) mem m.toNat).t).1, (trOf (st.hand (1 + row) mem m.toNat).t).2, [], (if (st.hand (1 + row) mem m.toNat).t = none then sumL (st.hand (1 + row) mem m.toNat).f 128 else []), (st.hand (1 + row) mem m.toNat).s⟩
  else ⟨0, mayCode st.n m c s mem row, [], [], st⟩
def mendA (st : BaySt) (m c s row : Int) : Ans :=
  if mayCode st.n m c s 0 row = 0 then ⟨(trOf (st.mend m.toNat (parOf m.toNat c.toNat row.toNat) row.toNat).1).1, (trOf (st.mend m.toNat (parOf m.toNat c.toNat row.toNat) row.toNat).1).2, [], [], (st.mend m.toNat (parOf m.toNat c.toNat row.toNat) row.toNat).2⟩
  else ⟨0, mayCode st.n m c s 0 row, [], [], st⟩

set_option maxRecDepth 100000 in
theorem rowsA_grow {st : BaySt} (hs : st.still) (m c s : Int) : Grow st (rowsA st m c s).s ∧ (rowsA st m c s).l.length ≤ 4096 := by
  unfold rowsA
  by_cases h : mayCode st.n m c s 0 0 = 0
  · rw [if_pos h]
    obtain ⟨M, C, S, mm, r, rfl, rfl, rfl, -, -, hg, hn, -, -⟩ := may_zero h
    simp only [Int.toNat_natCast]
    obtain ⟨g1, g2, g3, g4, g5, g6⟩ := (geoIs_iff M C S).1 hg
    have hR : S * C ≤ 4096 := by have := (geo_bounds hg).2; exact_mod_cast this
    refine ⟨grow_rows hs M (S * C) (by omega) hR, ?_⟩
    show List.length (if _ then _ else _) ≤ 4096
    split
    · have := look_length st M (S * C); omega
    · exact Nat.zero_le _
  · rw [if_neg h]
    exact ⟨.same hs, Nat.zero_le _⟩
theorem lostA_grow {st : BaySt} (hs : st.still) (m c s mem row : Int) : Grow st (lostA st m c s mem row).s ∧ (lostA st m c s mem row).x.length ≤ 128 := by
  unfold lostA
  by_cases h : mayCode st.n m c s mem row = 0
  · rw [if_pos h]
    obtain ⟨M, C, S, mm, r, rfl, rfl, rfl, rfl, rfl, hg, hn, -, -⟩ := may_zero h
    simp only [Int.toNat_natCast]
    obtain ⟨g1, g2, g3, g4, g5, g6⟩ := (geoIs_iff M C S).1 hg
    refine ⟨grow_lost hs _ _ M (by omega), ?_⟩
    show List.length (if _ then _ else _) ≤ 128
    split
    · rw [sumL_length]; omega
    · exact Nat.zero_le _
  · rw [if_neg h]
    exact ⟨.same hs, Nat.zero_le _⟩
theorem mendA_grow {st : BaySt} (hs : st.still) (m c s row : Int) : Grow st (mendA st m c s row).s := by
  unfold mendA
  by_cases h : mayCode st.n m c s 0 row = 0
  · rw [if_pos h]
    obtain ⟨M, C, S, mm, r, rfl, rfl, rfl, -, rfl, hg, hn, -, -⟩ := may_zero h
    simp only [Int.toNat_natCast]
    obtain ⟨g1, g2, g3, g4, g5, g6⟩ := (geoIs_iff M C S).1 hg
    exact grow_mend hs M _ r (by omega)
  · rw [if_neg h]
    exact .same hs

abbrev TV (a b : Int) : Value := .agg #[.int .i64 a, .int .u16 b]

theorem prog_rows {w : World} {T : Nat → Nat} {b : Nat} {st : BaySt} (h : BayAt w T b st) (m c s : Int) (hcnt : ∀ j, j < 3 → st.cnt j ≤ 999998000000) (hsm : st.small 999998) :
    Calls Tryz.prog 21 #[.pointer (some ⟨b, 0, none⟩), geo m c s] w fun e w' => ∃ v, e = .returned (.tuple #[v, TV (rowsA st m c s).t1 (rowsA st m c s).t2]) ∧ w'.ownsRow w.heap.size 3 1 v (rowsA st m c s).l.length (kcells (rowsA st m c s).l) ∧ BayAt w' T b (rowsA st m c s).s ∧ Chg (fun q => T q ≠ 0) w w' := by
  unfold rowsA
  by_cases hc : mayCode st.n m c s 0 0 = 0
  · rw [if_pos hc]
    obtain ⟨M, C, S, mm, r, rfl, rfl, rfl, -, -, hg, hn, -, -⟩ := may_zero hc
    simp only [Int.toNat_natCast]
    refine (scrub_rows h M C S hg hn (hcnt 0 (by omega)) (small_up hsm (by omega))).mono fun e w' ⟨v, h1, h2, h3, h4, h5⟩ => ⟨v, h1, ?_, h4, h5⟩
    by_cases ht : (st.look M (S * C)).t = none
    · show w'.ownsRow _ _ _ _ (List.length (if _ then _ else _)) (kcells (if _ then _ else _))
      rw [if_pos ht]; exact h2 ht
    · show w'.ownsRow _ _ _ _ (List.length (if _ then _ else _)) (kcells (if _ then _ else _))
      rw [if_neg ht, h3 ht]; exact World.ownsRow_nil _ _ _ _
  · rw [if_neg hc]
    exact (scrub_rows_no h m c s _ rfl hc).mono fun e w' ⟨h1, h2⟩ => ⟨_, h1, World.ownsRow_nil _ _ _ _, h.below h2, Chg.ofBelow h2 _⟩
theorem doc_rows {w : World} {R : Nat → Prop} {b : Nat} {st : BaySt} (h : RBayAt w R b st) (m c s : Int) (hcnt : ∀ j, j < 3 → st.cnt j ≤ 999998000000) :
    Calls Tryz.prog 26 #[.pointer (some ⟨b, 0, none⟩), geo m c s] w fun e w' => ∃ v, e = .returned (.tuple #[v, TV (rowsA st m c s).t1 (rowsA st m c s).t2]) ∧ w'.ownsRow w.heap.size 3 1 v (rowsA st m c s).l.length (kcells (rowsA st m c s).l) ∧ RBPost w R b (rowsA st m c s).s w' := by
  unfold rowsA
  by_cases hc : mayCode st.n m c s 0 0 = 0
  · rw [if_pos hc]
    obtain ⟨M, C, S, mm, r, rfl, rfl, rfl, -, -, hg, hn, -, -⟩ := may_zero hc
    simp only [Int.toNat_natCast]
    refine (ref_rows20 h M C S hg hn (hcnt 0 (by omega))).mono fun e w' ⟨v, h1, h2, h3, h4⟩ => ⟨v, h1, ?_, h4⟩
    by_cases ht : (st.look M (S * C)).t = none
    · show w'.ownsRow _ _ _ _ (List.length (if _ then _ else _)) (kcells (if _ then _ else _))
      rw [if_pos ht]; exact h2 ht
    · show w'.ownsRow _ _ _ _ (List.length (if _ then _ else _)) (kcells (if _ then _ else _))
      rw [if_neg ht, h3 ht]; exact World.ownsRow_nil _ _ _ _
  · rw [if_neg hc]
    exact (ref_rows20_no h m c s _ rfl hc).mono fun e w' ⟨h1, h2⟩ => ⟨_, h1, World.ownsRow_nil _ _ _ _, .same (h.below h2) (Chg.ofBelow h2 _)⟩

theorem prog_lost {w : World} {T : Nat → Nat} {b : Nat} {st : BaySt} (h : BayAt w T b st) (m c s mem row : Int) (hcnt : ∀ j, j < 3 → st.cnt j ≤ 999998000000) (hsm : st.small 999998) :
    Calls Tryz.prog 22 #[.pointer (some ⟨b, 0, none⟩), geo m c s, .int .i64 mem, .int .i64 row] w fun e w' => ∃ v, e = .returned (.tuple #[v, TV (lostA st m c s mem row).t1 (lostA st m c s mem row).t2]) ∧ w'.ownsRow w.heap.size 5 1 v (lostA st m c s mem row).x.length (ucells (lostA st m c s mem row).x) ∧ BayAt w' T b (lostA st m c s mem row).s ∧ Chg (fun q => T q ≠ 0) w w' := by
  unfold lostA
  by_cases hc : mayCode st.n m c s mem row = 0
  · rw [if_pos hc]
    obtain ⟨M, C, S, mm, r, rfl, rfl, rfl, rfl, rfl, hg, hn, hm, hr⟩ := may_zero hc
    simp only [Int.toNat_natCast]
    refine (scrub_lost h M C S mm r hg hn hm hr (by have := hcnt 0 (by omega); omega) (small_up hsm (by omega))).mono fun e w' ⟨v, h1, h2, h4, h5⟩ => ⟨v, h1, ?_, h4, h5⟩
    by_cases ht : (st.hand (1 + (r : Int)) mm M).t = none
    · show w'.ownsRow _ _ _ _ (List.length (if _ then _ else _)) (ucells (if _ then _ else _))
      rw [if_pos ht, sumL_length]; exact h2.1 ht
    · show w'.ownsRow _ _ _ _ (List.length (if _ then _ else _)) (ucells (if _ then _ else _))
      rw [if_neg ht, h2.2 ht]; exact World.ownsRow_nil _ _ _ _
  · rw [if_neg hc]
    exact (scrub_lost_no h m c s mem row _ rfl hc).mono fun e w' ⟨h1, h2⟩ => ⟨_, h1, World.ownsRow_nil _ _ _ _, h.below h2, Chg.ofBelow h2 _⟩
theorem doc_lost {w : World} {R : Nat → Prop} {b : Nat} {st : BaySt} (h : RBayAt w R b st) (m c s mem row : Int) (hcnt : ∀ j, j < 3 → st.cnt j ≤ 999998000000) :
    Calls Tryz.prog 28 #[.pointer (some ⟨b, 0, none⟩), geo m c s, .int .i64 mem, .int .i64 row] w fun e w' => ∃ v, e = .returned (.tuple #[v, TV (lostA st m c s mem row).t1 (lostA st m c s mem row).t2]) ∧ w'.ownsRow w.heap.size 5 1 v (lostA st m c s mem row).x.length (ucells (lostA st m c s mem row).x) ∧ RBPost w R b (lostA st m c s mem row).s w' := by
  unfold lostA
  by_cases hc : mayCode st.n m c s mem row = 0
  · rw [if_pos hc]
    obtain ⟨M, C, S, mm, r, rfl, rfl, rfl, rfl, rfl, hg, hn, hm, hr⟩ := may_zero hc
    simp only [Int.toNat_natCast]
    refine (ref_lost h M C S mm r hg hn hm hr (by have := hcnt 0 (by omega); omega)).mono fun e w' ⟨v, h1, h2, h4⟩ => ⟨v, h1, ?_, h4⟩
    by_cases ht : (st.hand (1 + (r : Int)) mm M).t = none
    · show w'.ownsRow _ _ _ _ (List.length (if _ then _ else _)) (ucells (if _ then _ else _))
      rw [if_pos ht, sumL_length]; exact h2.1 ht
    · show w'.ownsRow _ _ _ _ (List.length (if _ then _ else _)) (ucells (if _ then _ else _))
      rw [if_neg ht, h2.2 ht]; exact World.ownsRow_nil _ _ _ _
  · rw [if_neg hc]
    exact (ref_lost_no h m c s mem row _ rfl hc).mono fun e w' ⟨h1, h2⟩ => ⟨_, h1, World.ownsRow_nil _ _ _ _, .same (h.below h2) (Chg.ofBelow h2 _)⟩

theorem prog_mend {w : World} {T : Nat → Nat} {b : Nat} {st : BaySt} (h : BayAt w T b st) (m c s row : Int) (hcnt : ∀ j, j < 3 → st.cnt j ≤ 999998000000) (hsm : st.small 999998) :
    Calls Tryz.prog 23 #[.pointer (some ⟨b, 0, none⟩), geo m c s, .int .i64 row] w fun e w' => e = .returned (TV (mendA st m c s row).t1 (mendA st m c s row).t2) ∧ BayPost w T b (mendA st m c s row).s w' := by
  unfold mendA
  by_cases hc : mayCode st.n m c s 0 row = 0
  · rw [if_pos hc]
    obtain ⟨M, C, S, mm, r, rfl, rfl, rfl, -, rfl, hg, hn, hm, hr⟩ := may_zero hc
    simp only [Int.toNat_natCast]
    exact (scrub_mend h M C S r hg hn hr (by have := hcnt 0 (by omega); omega) (by have := hcnt 1 (by omega); omega) (by have := hcnt 2 (by omega); omega) (small_up hsm (by omega))).mono fun e w' ⟨h1, h2⟩ => ⟨h1, h2⟩
  · rw [if_neg hc]
    exact (scrub_mend_no h m c s row _ rfl hc).mono fun e w' ⟨h1, h2⟩ => ⟨h1, .same (h.below h2) (Chg.ofBelow h2 _)⟩
theorem doc_mend {w : World} {R : Nat → Prop} {b : Nat} {st : BaySt} (h : RBayAt w R b st) (m c s row : Int) (hcnt : ∀ j, j < 3 → st.cnt j ≤ 999998000000) (hsm : st.small 999998) :
    Calls Tryz.prog 27 #[.pointer (some ⟨b, 0, none⟩), geo m c s, .int .i64 row] w fun e w' => e = .returned (TV (mendA st m c s row).t1 (mendA st m c s row).t2) ∧ RBPost w R b (mendA st m c s row).s w' := by
  unfold mendA
  by_cases hc : mayCode st.n m c s 0 row = 0
  · rw [if_pos hc]
    obtain ⟨M, C, S, mm, r, rfl, rfl, rfl, -, rfl, hg, hn, hm, hr⟩ := may_zero hc
    simp only [Int.toNat_natCast]
    exact (ref_mend h M C S r hg hn hr (by have := hcnt 0 (by omega); omega) (by have := hcnt 1 (by omega); omega) (by have := hcnt 2 (by omega); omega) (small_up hsm (by omega))).mono fun e w' ⟨h1, h2⟩ => ⟨h1, h2⟩
  · rw [if_neg hc]
    exact (ref_mend_no h m c s row _ rfl hc).mono fun e w' ⟨h1, h2⟩ => ⟨h1, .same (h.below h2) (Chg.ofBelow h2 _)⟩

end Go.Proofs.YtleicmmbaacbmaaGreat
