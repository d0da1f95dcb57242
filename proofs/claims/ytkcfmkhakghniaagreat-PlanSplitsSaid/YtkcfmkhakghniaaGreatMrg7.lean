/- Several texts in one: PlwB, PlwC. -/
import Derived.Test.YtkcfmkhakghniaaGreatPlwA
/- A block of rows of bytes, of the call's own. -/
set_option linter.unusedVariables false
namespace Go.Proofs.YtkcfmkhakghniaaGreat
open Go.RowKit

/-- None of v's bytes lies in a block of X. -/
def Off (X : Nat → Prop) (v : Value) (l : List UInt8) : Prop := ∀ b q c, v = .slice (some b) q c → l ≠ [] → ¬ X b.block

theorem seg_mod {S : Nat → Prop} {w w' : World} {v : Value} {l : List UInt8} (h : Seg w v l) (hc : Chg S w w') (ho : Off S v l) : Seg w' v l := by
  obtain ⟨a, cap, hv, hn, h⟩ := h
  refine ⟨a, cap, hv, hn, ?_⟩
  rcases h with h | ⟨b, off, ha, hlt, hx⟩
  · exact .inl h
  · by_cases hl : l = []
    · exact .inl hl
    · refine .inr ⟨b, off, ha, Nat.lt_of_lt_of_le hlt hc.size, fun j hj => ?_⟩
      rw [← hx j hj]
      exact hc.cell (p := ⟨b, off + j, none⟩) hlt (ho ⟨b, off, none⟩ _ _ (by rw [hv, ha]) hl)
theorem Off.fresh {w : World} {X : Nat → Prop} {v : Value} {l : List UInt8} (h : Seg w v l) (hX : ∀ k, X k → w.heap.size ≤ k) : Off X v l := by
  obtain ⟨a, cap, hv, hn, h⟩ := h
  intro b q c hb hl hx
  rw [hv] at hb
  simp only [Value.slice.injEq] at hb
  obtain ⟨rfl, -, -⟩ := hb
  rcases h with h | ⟨b', off, ha, hlt, -⟩
  · exact hl h
  · simp only [Option.some.injEq] at ha
    subst ha
    exact absurd (hX _ hx) (Nat.not_le.2 hlt)
theorem Off.or {X Y : Nat → Prop} {v : Value} {l : List UInt8} (h : Off X v l) (h' : Off Y v l) : Off (fun k => X k ∨ Y k) v l := fun b q c hb hl hx => by
  rcases hx with hx | hx
  · exact h b q c hb hl hx
  · exact h' b q c hb hl hx
theorem Off.mono {X Y : Nat → Prop} {v : Value} {l : List UInt8} (h : Off X v l) (hXY : ∀ k, Y k → X k) : Off Y v l := fun b q c hb hl hx => h b q c hb hl (hXY _ hx)
theorem Off.own {w : World} {B n : Nat} {e : TypeId} {v : Value} {l : List UInt8} {xs : List Value} {X : Nat → Prop} (h : w.ownsRow B e 1 v n xs) (hX : ∀ k, X k → k < B) : Off X v l := fun b q c hb hl hx => by
  obtain ⟨hlt, -⟩ := h.lt b.block (by
    rcases h.2 with ⟨e, -⟩ | ⟨g, cap, cur, e, -⟩
    · rw [e] at hb; cases hb
    · rw [e] at hb
      simp only [Value.slice.injEq, Option.some.injEq] at hb
      rw [e, ← hb.1]
      rfl)
  exact absurd (hX _ hx) (Nat.not_lt.2 hlt)

/-- A block of n rows of bytes: F; none of them lies in a block of X. -/
def RowsOf (w : World) (g n : Nat) (F : Nat → List UInt8) (X : Nat → Prop) : Prop :=
  ∃ U : Nat → Value, At w g ((List.range n).map U).toArray 53 ∧ ∀ j, j < n → Seg w (U j) (F j) ∧ Off X (U j) (F j)

section
variable {w w' : World} {g n : Nat} {F : Nat → List UInt8} {X : Nat → Prop}
theorem rows_at {U : Nat → Value} {j : Nat} (hj : j < n) : ((List.range n).map U).toArray[j]? = some (U j) := by simp [hj]
theorem RowsOf.lt (h : RowsOf w g n F X) : g < w.heap.size := by obtain ⟨U, h, _⟩ := h; exact h.lt
theorem RowsOf.free (h : RowsOf w g n F X) (i : Nat) : w.frozen? ⟨g, i, none⟩ = false := by obtain ⟨U, h, _⟩ := h; exact h.free i
theorem RowsOf.cell (h : RowsOf w g n F X) {j : Nat} (hj : j < n) : ∃ u, w.cell? ⟨g, j, none⟩ = some u ∧ Seg w u (F j) ∧ Off X u (F j) := by
  obtain ⟨U, h1, h2⟩ := h
  exact ⟨U j, (h1.cell j).trans (rows_at hj), h2 j hj⟩
theorem RowsOf.segs (h : RowsOf w g n F X) : Segs w (.slice (some ⟨g, 0, none⟩) n n) ((List.range n).map F) := by
  have hl : ((List.range n).map F).length = n := by simp
  refine ⟨some ⟨g, 0, none⟩, n, by rw [hl], by rw [hl]; exact Nat.le_refl _, .inr ⟨g, 0, rfl, h.lt, fun j hj => ?_⟩⟩
  rw [hl] at hj
  obtain ⟨u, h1, h2, -⟩ := h.cell hj
  refine ⟨u, by rw [Nat.zero_add]; exact h1, ?_⟩
  rw [List.getElem_map, List.getElem_range]
  exact h2
theorem rows_getD (F : Nat → List UInt8) {j : Nat} (hj : j < n) : ((List.range n).map F).getD j [] = F j := by
  rw [List.getD_eq_getElem?_getD]
  simp [hj]
theorem RowsOf.new {f : Nat → Value} (h : At w g (cellsTo f (.slice none 0 0) n 0) 53) : RowsOf w g n (fun _ => []) X := by
  refine ⟨fun _ => .slice none 0 0, ?_, fun j hj => ⟨Seg.nil _, fun b q c hb => by cases hb⟩⟩
  have e : cellsTo f (.slice none 0 0) n 0 = ((List.range n).map fun _ => Value.slice none 0 0).toArray := by
    unfold cellsTo
    simp
  rw [← e]
  exact h
theorem RowsOf.below (h : RowsOf w g n F X) (hb : Below w.heap.size w w') : RowsOf w' g n F X := by
  obtain ⟨U, h1, h2⟩ := h
  exact ⟨U, h1.below hb h1.lt, fun j hj => ⟨(h2 j hj).1.below hb, (h2 j hj).2⟩⟩
theorem RowsOf.chg {S : Nat → Prop} (h : RowsOf w g n F X) (hc : Chg S w w') (hg : ¬ S g) (hS : ∀ k, S k → X k) : RowsOf w' g n F X := by
  obtain ⟨U, h1, h2⟩ := h
  exact ⟨U, h1.mod hc hg, fun j hj => ⟨seg_mod (h2 j hj).1 hc ((h2 j hj).2.mono hS), (h2 j hj).2⟩⟩
theorem RowsOf.less {Y : Nat → Prop} (h : RowsOf w g n F X) (hY : ∀ k, Y k → X k) : RowsOf w g n F Y := by
  obtain ⟨U, h1, h2⟩ := h
  exact ⟨U, h1, fun j hj => ⟨(h2 j hj).1, (h2 j hj).2.mono hY⟩⟩
theorem RowsOf.more {Y : Nat → Prop} (h : RowsOf w g n F X) (hY : ∀ k, Y k → X k ∨ w.heap.size ≤ k) : RowsOf w g n F Y := by
  obtain ⟨U, h1, h2⟩ := h
  refine ⟨U, h1, fun j hj => ⟨(h2 j hj).1, ?_⟩⟩
  exact ((h2 j hj).2.or (Off.fresh (h2 j hj).1 (X := fun k => w.heap.size ≤ k) fun k hk => hk)).mono hY
theorem RowsOf.congr {G : Nat → List UInt8} (h : RowsOf w g n F X) (hG : ∀ j, j < n → G j = F j) : RowsOf w g n G X := by
  obtain ⟨U, h1, h2⟩ := h
  exact ⟨U, h1, fun j hj => by rw [hG j hj]; exact h2 j hj⟩

/-- No byte lies in a block of rows. -/
theorem Off.rows {v : Value} {l : List UInt8} (hs : Seg w v l) (h : RowsOf w g n F X) : Off (fun k => k = g) v l := by
  obtain ⟨a, cap, hv, hn, hs⟩ := hs
  obtain ⟨U, h1, h2⟩ := h
  intro b q c hb hl hx
  rw [hv] at hb
  simp only [Value.slice.injEq] at hb
  obtain ⟨rfl, -, -⟩ := hb
  rcases hs with hs | ⟨b', off, ha, hlt, hc⟩
  · exact hl hs
  · simp only [Option.some.injEq] at ha
    subst ha
    simp only at hx
    subst hx
    have hl0 : 0 < l.length := List.length_pos_iff.2 hl
    have := hc 0 hl0
    rw [h1.cell] at this
    by_cases ho : off + 0 < n
    · rw [rows_at ho] at this
      obtain ⟨a', c', he⟩ := (h2 _ ho).1.shape
      rw [he] at this
      cases this
    · rw [Array.getElem?_eq_none (by simp; omega)] at this
      cases this

/-- Another row of bytes is laid. -/
theorem RowsOf.set (h : RowsOf w g n F X) {j : Nat} (hj : j < n) {u : Value} {l : List UInt8} (hu : Seg w u l) (ho : Off X u l) : RowsOf (w.setCell ⟨g, j, none⟩ u) g n (fun i => if i = j then l else F i) X := by
  have hst : Chg (fun k => k = g) w (w.setCell ⟨g, j, none⟩ u) := Chg.setCell (S := fun k => k = g) (Chg.refl _ _) ⟨g, j, none⟩ (.inl rfl) _
  have hoff : ∀ {v : Value} {l' : List UInt8}, Seg w v l' → Seg (w.setCell ⟨g, j, none⟩ u) v l' := fun hs => seg_mod hs hst (Off.rows hs h)
  obtain ⟨U, h1, h2⟩ := h
  refine ⟨fun i => if i = j then u else U i, ?_, fun i hi => ?_⟩
  · have e : ((List.range n).map U).toArray.setIfInBounds j u = ((List.range n).map fun i => if i = j then u else U i).toArray := by
      apply Array.ext_getElem?
      intro i
      rw [Array.getElem?_setIfInBounds]
      by_cases hi : i < n
      · rw [rows_at hi, rows_at hi]
        by_cases hij : j = i
        · subst hij; simp [hi]
        · rw [if_neg hij, if_neg (Ne.symm hij)]
      · rw [Array.getElem?_eq_none (by simp; omega), Array.getElem?_eq_none (by simp; omega)]
        by_cases hij : j = i
        · omega
        · rw [if_neg hij]
    rw [← e]
    exact h1.set j u
  · show Seg _ (if i = j then u else U i) (if i = j then l else F i) ∧ Off X (if i = j then u else U i) (if i = j then l else F i)
    by_cases hij : i = j
    · rw [if_pos hij, if_pos hij]
      exact ⟨hoff hu, ho⟩
    · rw [if_neg hij, if_neg hij]
      exact ⟨hoff (h2 i hi).1, (h2 i hi).2⟩
end

end Go.Proofs.YtkcfmkhakghniaaGreat

/- Rows of blocks and their parity: what is read, what goes out, the blocks that the laws give. No program in sight. -/
set_option linter.unusedVariables false
namespace Go.Proofs.YtkcfmkhakghniaaGreat
open Go.RowKit

theorem which_mem {q : Nat → Bool} {n m : Nat} : m ∈ whichTo q n ↔ m < n ∧ q m = true := by
  unfold whichTo
  rw [List.mem_filter, List.mem_range]
theorem which_pw (q : Nat → Bool) (n : Nat) : (whichTo q n).Pairwise (· < ·) := by
  unfold whichTo
  exact List.Pairwise.filter _ List.pairwise_lt_range
theorem which_count (q : Nat → Bool) : ∀ n, (whichTo q n).length = nsum (fun m => if q m = true then 1 else 0) n
  | 0 => rfl
  | n + 1 => by
    rw [whichTo_succ]
    show _ = nsum _ n + (if q n = true then 1 else 0)
    rw [← which_count q n]
    split <;> simp
theorem which_snoc {q : Nat → Bool} {k : Nat} (h : q k = true) : whichTo q (k + 1) = whichTo q k ++ [k] := by rw [whichTo_succ, if_pos h]
theorem which_same {q : Nat → Bool} {k : Nat} (h : q k = false) : whichTo q (k + 1) = whichTo q k := by rw [whichTo_succ, if_neg (by rw [h]; simp)]

theorem geo3 {M C S : Nat} (h : geoIs M C S = true) : 3 ≤ M := by
  unfold geoIs at h
  simp only [Bool.and_eq_true, decide_eq_true_eq] at h
  omega

/-- What is read is there, and is not down. -/
theorem reads_up {M C S : Nat} {d : Nat → Bool} {ps : List Pat} {r : Nat} (ok : PlanOk M C S d ps r) {z : Int} (hz : GoneIs d M z) {m : Nat} (hm : m ∈ readsOf ps (parOf M C r) M (modeOf M ps (parOf M C r) z)) : m < M ∧ d m = false := by
  have hzm : d m = true → m < M → z = (m : Int) := fun hd hlt => by
    rcases hz with ⟨k, h1, h2, h3, -⟩ | ⟨-, h2⟩
    · rw [h1, ok.lone k m h2 hlt h3 hd]
    · rw [h2 m hlt] at hd; cases hd
  generalize parOf M C r = par at *
  unfold readsOf modeOf at hm
  by_cases h0 : M - 1 - ps.length = 0
  · rw [if_pos h0, if_neg (by decide), if_neg (by decide)] at hm
    cases hm
  · rw [if_neg h0] at hm
    by_cases hp : z = (par : Int)
    · rw [if_pos hp, if_neg (by decide), if_neg (by decide)] at hm
      cases hm
    · rw [if_neg hp] at hm
      by_cases hr : (0 ≤ z ∧ givenIn ps z = true) ∨ (z < 0 ∧ M - 1 - ps.length < ps.length + 1)
      · rw [if_pos hr, if_pos rfl] at hm
        obtain ⟨h1, h2⟩ := which_mem.1 hm
        refine ⟨h1, ?_⟩
        cases hd : d m
        · rfl
        · have e := hzm hd h1
          unfold isRest at h2
          rcases hr with ⟨h3, h4⟩ | ⟨h3, -⟩
          · rw [e] at h4
            rw [h4] at h2
            simp at h2
          · omega
      · rw [if_neg hr, if_neg (by decide), if_pos rfl] at hm
        obtain ⟨h1, h2⟩ := which_mem.1 hm
        refine ⟨h1, ?_⟩
        cases hd : d m
        · rfl
        · have e := hzm hd h1
          unfold isOld at h2
          have hne : m ≠ par := fun h => hp (by rw [e, h])
          have h3 : (m == par) = false := by simpa using hne
          rw [h3, Bool.false_or, ← e] at h2
          exact absurd (.inl ⟨by omega, h2⟩) hr

theorem reads_few {M C S : Nat} {d : Nat → Bool} {ps : List Pat} {r : Nat} (ok : PlanOk M C S d ps r) (z : Int) (hle : ps.length ≤ M - 1) : (readsOf ps (parOf M C r) M (modeOf M ps (parOf M C r) z)).length < M := by
  have hM := geo3 ok.hg
  have hpl : parOf M C r < M := by unfold parOf; omega
  have hc := given_count ok.pw (M := M) (fun p hp => ⟨ok.lo p hp, ok.hi p hp⟩)
  have hgp : givenIn ps ((parOf M C r : Nat) : Int) = false := by
    unfold givenIn
    rw [List.any_eq_false]
    intro p hp hq
    exact ok.np p hp (by simpa using hq)
  generalize parOf M C r = par at *
  unfold readsOf
  by_cases h3 : modeOf M ps par z = 3
  · rw [if_pos h3, which_count]
    have h1 := nsum_le (n := M) (f := fun i => (if isRest ps par i = true then 1 else 0) + (if i = par then 1 else 0)) (fun i _ => by
      by_cases h2 : i = par
      · subst h2
        unfold isRest
        simp
      · simp only [h2, if_false]
        split <;> omega)
    rw [nsum_add, nsum_one, if_pos hpl] at h1
    omega
  · rw [if_neg h3]
    by_cases h2 : modeOf M ps par z = 2
    · rw [if_pos h2, which_count]
      have hn : ¬ M - 1 - ps.length = 0 := fun h => by
        unfold modeOf at h2
        rw [if_pos h] at h2
        cases h2
      have e : ∀ i, i < M → (if isOld ps par i = true then 1 else 0) = (if i = par then 1 else 0) + (if givenIn ps (i : Int) = true then 1 else 0) := fun i _ => by
        unfold isOld
        by_cases hi : i = par
        · subst hi
          rw [hgp]
          simp
        · have h3 : (i == par) = false := by simpa using hi
          rw [h3, Bool.false_or, if_neg hi, Nat.zero_add]
      rw [nsum_congr e, nsum_add, nsum_one, if_pos hpl, hc]
      omega
    · rw [if_neg h2]
      show 0 < M
      omega

/-- Something goes out. -/
theorem out_some {M C S : Nat} {d : Nat → Bool} {ps : List Pat} {r : Nat} (ok : PlanOk M C S d ps r) {newp : List UInt8} : 0 < (outPats d ps (parOf M C r) r newp).length := by
  have hpl : parOf M C r < M := by have := geo3 ok.hg; unfold parOf; omega
  cases hd : d (parOf M C r)
  · obtain ⟨x, hx, -⟩ := out_has ok (newp := newp) hd (.inr rfl)
    exact List.length_pos_of_mem hx
  · have hne := ok.ne
    have hmem := List.getElem_mem (l := ps) (n := 0) hne
    have h0 := ok.lo _ hmem
    have h1 := ok.hi _ hmem
    have h2 := ok.np _ hmem
    obtain ⟨x, hx, -⟩ := out_has ok (newp := newp) (m := (ps[0]'hne).m.toNat) (by
      cases h : d (ps[0]'hne).m.toNat
      · rfl
      · have := ok.lone _ _ (by omega) hpl h hd
        omega) (.inl (by
      unfold givenIn
      exact List.any_eq_true.2 ⟨_, hmem, by simp; omega⟩))
    exact List.length_pos_of_mem hx

/-- The blocks that are given: for members of q, rising. -/
def putsOf (q : Nat → Bool) (dd : Nat → List UInt8) (row k : Nat) : List Pat := (whichTo q k).map fun m : Nat => (⟨(m : Int), (row : Int), dd m⟩ : Pat)
theorem puts_snoc {q : Nat → Bool} {k : Nat} (dd : Nat → List UInt8) (row : Nat) (h : q k = true) : putsOf q dd row (k + 1) = putsOf q dd row k ++ [⟨k, row, dd k⟩] := by
  unfold putsOf
  rw [which_snoc h, List.map_append]
  rfl
theorem puts_same {q : Nat → Bool} {k : Nat} (dd : Nat → List UInt8) (row : Nat) (h : q k = false) : putsOf q dd row (k + 1) = putsOf q dd row k := by
  unfold putsOf
  rw [which_same h]
theorem puts_mem {q : Nat → Bool} {dd : Nat → List UInt8} {row k : Nat} {p : Pat} (h : p ∈ putsOf q dd row k) : ∃ m, m < k ∧ q m = true ∧ p = ⟨m, row, dd m⟩ := by
  obtain ⟨m, hm, rfl⟩ := List.mem_map.1 h
  obtain ⟨h1, h2⟩ := which_mem.1 hm
  exact ⟨m, h1, h2, rfl⟩
theorem puts_pw (q : Nat → Bool) (dd : Nat → List UInt8) (row k : Nat) : (putsOf q dd row k).Pairwise fun a b => a.m < b.m := by
  unfold putsOf
  rw [List.pairwise_map]
  exact (which_pw q k).imp fun {a b} h => by
    show ((a : Nat) : Int) < ((b : Nat) : Int)
    omega
theorem puts_few (q : Nat → Bool) (dd : Nat → List UInt8) (row : Nat) : ∀ k, (putsOf q dd row k).length ≤ k := fun k => by
  unfold putsOf whichTo
  rw [List.length_map]
  exact Nat.le_trans (List.length_filter_le _ _) (by simp)
theorem puts_want {q : Nat → Bool} {dd : Nat → List UInt8} {row n : Nat} (R : Nat → List UInt8) {m : Nat} (hm : m < n) : wantD (putsOf q dd row n) R m = if q m = true then dd m else R m := by
  by_cases h : q m = true
  · rw [if_pos h]
    exact wantD_given (p := ⟨m, row, dd m⟩) (puts_pw q dd row n) (List.mem_map.2 ⟨m, which_mem.2 ⟨hm, h⟩, rfl⟩) rfl
  · rw [if_neg h]
    refine wantD_not ?_
    unfold givenIn
    rw [List.any_eq_false]
    intro p hp hq
    obtain ⟨m', -, h2, rfl⟩ := puts_mem hp
    have : m' = m := by
      have : ((m' : Nat) : Int) = (m : Int) := by simpa using hq
      omega
    subst this
    exact h h2

/-- One of n members is down, or none. -/
def goneAt (k : Nat) (m : Nat) : Bool := decide (m = k)
theorem gone_lone (k M : Nat) : Lone (goneAt k) M := fun i j _ _ hi hj => by
  unfold goneAt at hi hj
  simp only [decide_eq_true_eq] at hi hj
  omega
theorem gone_at_is (k M : Nat) : GoneIs (goneAt k) M (if k < M then (k : Int) else -1) := by
  by_cases h : k < M
  · rw [if_pos h]
    refine .inl ⟨k, rfl, h, by simp [goneAt], fun i hi => ?_⟩
    unfold goneAt
    simp
    omega
  · rw [if_neg h]
    refine .inr ⟨rfl, fun i hi => ?_⟩
    unfold goneAt
    simp
    omega

theorem puts_ok {M row k : Nat} {q : Nat → Bool} {dd : Nat → List UInt8} (h3 : 3 ≤ M) (h16 : M ≤ 16) (hr : row < 40) (hq : q (parOf M 1 row) = false) (hd : ∀ m, m < M → (dd m).length = 128) (hne : 0 < (putsOf q dd row M).length) : PlanOk M 1 40 (goneAt k) (putsOf q dd row M) row := by
  refine ⟨?_, by omega, hne, fun p hp => ?_, fun p hp => ?_, fun p hp => ?_, fun p hp => ?_, fun i j hi hj hij => List.pairwise_iff_getElem.1 (puts_pw q dd row M) i j hi hj hij, fun p hp => ?_, gone_lone _ _⟩
  · unfold geoIs
    simp only [Bool.and_eq_true, decide_eq_true_eq]
    omega
  all_goals obtain ⟨m, h1, h2, rfl⟩ := puts_mem hp
  · rfl
  · exact Int.natCast_nonneg m
  · show ((m : Nat) : Int) < (M : Int)
    omega
  · intro e
    have : ((m : Nat) : Int) = ((parOf M 1 row : Nat) : Int) := e
    have e2 : m = parOf M 1 row := by omega
    subst e2
    rw [hq] at h2
    cases h2
  · exact hd m h1

end Go.Proofs.YtkcfmkhakghniaaGreat
