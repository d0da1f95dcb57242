/- Several texts in one: PlwC, PlnOa. -/
import Derived.Test.YtpegbgomnpinfaaGreatPlwB
import Derived.Test.YtpegbgomnpinfaaGreatPlnO
/- Rows of blocks and their parity: what is read, what goes out, the blocks that the laws give. No program in sight. -/
set_option linter.unusedVariables false
namespace Go.Proofs.YtpegbgomnpinfaaGreat
open Go.RowKit

theorem which_mem {q : Nat → Bool} {n m : Nat} : m ∈ whichTo q n ↔ m < n ∧ q m = true := by
  unfold whichTo
  rw [List.mem_filter, List.mem_range]
theorem which_pw (q : Nat → Bool) (n : Nat) : (whichTo q n).Pairwise (· < ·) := by
  unfold whichTo
  exact List.Pairwise.filter _ List.pairwise_lt_range
theorem which_count (q : Nat → Bool) : ∀ n, (whichTo q n).length = nsum (fun m => if q m = true then 1 else 0) n
  | 0 => rfl
  | n + 1 => by
    rw [whichTo_succ]
    show _ = nsum _ n + (if q n = true then 1 else 0)
    rw [← which_count q n]
    split <;> simp
theorem which_snoc {q : Nat → Bool} {k : Nat} (h : q k = true) : whichTo q (k + 1) = whichTo q k ++ [k] := by rw [whichTo_succ, if_pos h]
theorem which_same {q : Nat → Bool} {k : Nat} (h : q k = false) : whichTo q (k + 1) = whichTo q k := by rw [whichTo_succ, if_neg (by rw [h]; simp)]

theorem geo3 {M C S : Nat} (h : geoIs M C S = true) : 3 ≤ M := by
  unfold geoIs at h
  simp only [Bool.and_eq_true, decide_eq_true_eq] at h
  omega

/-- What is read is there, and is not down. -/
theorem reads_up {M C S : Nat} {d : Nat → Bool} {ps : List Pat} {r : Nat} (ok : PlanOk M C S d ps r) {z : Int} (hz : GoneIs d M z) {m : Nat} (hm : m ∈ readsOf ps (parOf M C r) M (modeOf M ps (parOf M C r) z)) : m < M ∧ d m = false := by
  have hzm : d m = true → m < M → z = (m : Int) := fun hd hlt => by
    rcases hz with ⟨k, h1, h2, h3, -⟩ | ⟨-, h2⟩
    · rw [h1, ok.lone k m h2 hlt h3 hd]
    · rw [h2 m hlt] at hd; cases hd
  generalize parOf M C r = par at *
  unfold readsOf modeOf at hm
  by_cases h0 : M - 1 - ps.length = 0
  · rw [if_pos h0, if_neg (by decide), if_neg (by decide)] at hm
    cases hm
  · rw [if_neg h0] at hm
    by_cases hp : z = (par : Int)
    · rw [if_pos hp, if_neg (by decide), if_neg (by decide)] at hm
      cases hm
    · rw [if_neg hp] at hm
      by_cases hr : (0 ≤ z ∧ givenIn ps z = true) ∨ (z < 0 ∧ M - 1 - ps.length < ps.length + 1)
      · rw [if_pos hr, if_pos rfl] at hm
        obtain ⟨h1, h2⟩ := which_mem.1 hm
        refine ⟨h1, ?_⟩
        cases hd : d m
        · rfl
        · have e := hzm hd h1
          unfold isRest at h2
          rcases hr with ⟨h3, h4⟩ | ⟨h3, -⟩
          · rw [e] at h4
            rw [h4] at h2
            simp at h2
          · omega
      · rw [if_neg hr, if_neg (by decide), if_pos rfl] at hm
        obtain ⟨h1, h2⟩ := which_mem.1 hm
        refine ⟨h1, ?_⟩
        cases hd : d m
        · rfl
        · have e := hzm hd h1
          unfold isOld at h2
          have hne : m ≠ par := fun h => hp (by rw [e, h])
          have h3 : (m == par) = false := by simpa using hne
          rw [h3, Bool.false_or, ← e] at h2
          exact absurd (.inl ⟨by omega, h2⟩) hr

theorem reads_few {M C S : Nat} {d : Nat → Bool} {ps : List Pat} {r : Nat} (ok : PlanOk M C S d ps r) (z : Int) (hle : ps.length ≤ M - 1) : (readsOf ps (parOf M C r) M (modeOf M ps (parOf M C r) z)).length < M := by
  have hM := geo3 ok.hg
  have hpl : parOf M C r < M := by unfold parOf; omega
  have hc := given_count ok.pw (M := M) (fun p hp => ⟨ok.lo p hp, ok.hi p hp⟩)
  have hgp : givenIn ps ((parOf M C r : Nat) : Int) = false := by
    unfold givenIn
    rw [List.any_eq_false]
    intro p hp hq
    exact ok.np p hp (by simpa using hq)
  generalize parOf M C r = par at *
  unfold readsOf
  by_cases h3 : modeOf M ps par z = 3
  · rw [if_pos h3, which_count]
    have h1 := nsum_le (n := M) (f := fun i => (if isRest ps par i = true then 1 else 0) + (if i = par then 1 else 0)) (fun i _ => by
      by_cases h2 : i = par
      · subst h2
        unfold isRest
        simp
      · simp only [h2, if_false]
        split <;> omega)
    rw [nsum_add, nsum_one, if_pos hpl] at h1
    omega
  · rw [if_neg h3]
    by_cases h2 : modeOf M ps par z = 2
    · rw [if_pos h2, which_count]
      have hn : ¬ M - 1 - ps.length = 0 := fun h => by
        unfold modeOf at h2
        rw [if_pos h] at h2
        cases h2
      have e : ∀ i, i < M → (if isOld ps par i = true then 1 else 0) = (if i = par then 1 else 0) + (if givenIn ps (i : Int) = true then 1 else 0) := fun i _ => by
        unfold isOld
        by_cases hi : i = par
        · subst hi
          rw [hgp]
          simp
        · have h3 : (i == par) = false := by simpa using hi
          rw [h3, Bool.false_or, if_neg hi, Nat.zero_add]
      rw [nsum_congr e, nsum_add, nsum_one, if_pos hpl, hc]
      omega
    · rw [if_neg h2]
      show 0 < M
      omega

/-- Something goes out. -/
theorem out_some {M C S : Nat} {d : Nat → Bool} {ps : List Pat} {r : Nat} (ok : PlanOk M C S d ps r) {newp : List UInt8} : 0 < (outPats d ps (parOf M C r) r newp).length := by
  have hpl : parOf M C r < M := by have := geo3 ok.hg; unfold parOf; omega
  cases hd : d (parOf M C r)
  · obtain ⟨x, hx, -⟩ := out_has ok (newp := newp) hd (.inr rfl)
    exact List.length_pos_of_mem hx
  · have hne := ok.ne
    have hmem := List.getElem_mem (l := ps) (n := 0) hne
    have h0 := ok.lo _ hmem
    have h1 := ok.hi _ hmem
    have h2 := ok.np _ hmem
    obtain ⟨x, hx, -⟩ := out_has ok (newp := newp) (m := (ps[0]'hne).m.toNat) (by
      cases h : d (ps[0]'hne).m.toNat
      · rfl
      · have := ok.lone _ _ (by omega) hpl h hd
        omega) (.inl (by
      unfold givenIn
      exact List.any_eq_true.2 ⟨_, hmem, by simp; omega⟩))
    exact List.length_pos_of_mem hx

/-- The blocks that are given: for members of q, rising. -/
def putsOf (q : Nat → Bool) (dd : Nat → List UInt8) (row k : Nat) : List Pat := (whichTo q k).map fun m : Nat => (⟨(m : Int), (row : Int), dd m⟩ : Pat)
theorem puts_snoc {q : Nat → Bool} {k : Nat} (dd : Nat → List UInt8) (row : Nat) (h : q k = true) : putsOf q dd row (k + 1) = putsOf q dd row k ++ [⟨k, row, dd k⟩] := by
  unfold putsOf
  rw [which_snoc h, List.map_append]
  rfl
theorem puts_same {q : Nat → Bool} {k : Nat} (dd : Nat → List UInt8) (row : Nat) (h : q k = false) : putsOf q dd row (k + 1) = putsOf q dd row k := by
  unfold putsOf
  rw [which_same h]
theorem puts_mem {q : Nat → Bool} {dd : Nat → List UInt8} {row k : Nat} {p : Pat} (h : p ∈ putsOf q dd row k) : ∃ m, m < k ∧ q m = true ∧ p = ⟨m, row, dd m⟩ := by
  obtain ⟨m, hm, rfl⟩ := List.mem_map.1 h
  obtain ⟨h1, h2⟩ := which_mem.1 hm
  exact ⟨m, h1, h2, rfl⟩
theorem puts_pw (q : Nat → Bool) (dd : Nat → List UInt8) (row k : Nat) : (putsOf q dd row k).Pairwise fun a b => a.m < b.m := by
  unfold putsOf
  rw [List.pairwise_map]
  exact (which_pw q k).imp fun {a b} h => by
    show ((a : Nat) : Int) < ((b : Nat) : Int)
    omega
theorem puts_few (q : Nat → Bool) (dd : Nat → List UInt8) (row : Nat) : ∀ k, (putsOf q dd row k).length ≤ k := fun k => by
  unfold putsOf whichTo
  rw [List.length_map]
  exact Nat.le_trans (List.length_filter_le _ _) (by simp)
theorem puts_want {q : Nat → Bool} {dd : Nat → List UInt8} {row n : Nat} (R : Nat → List UInt8) {m : Nat} (hm : m < n) : wantD (putsOf q dd row n) R m = if q m = true then dd m else R m := by
  by_cases h : q m = true
  · rw [if_pos h]
    exact wantD_given (p := ⟨m, row, dd m⟩) (puts_pw q dd row n) (List.mem_map.2 ⟨m, which_mem.2 ⟨hm, h⟩, rfl⟩) rfl
  · rw [if_neg h]
    refine wantD_not ?_
    unfold givenIn
    rw [List.any_eq_false]
    intro p hp hq
    obtain ⟨m', -, h2, rfl⟩ := puts_mem hp
    have : m' = m := by
      have : ((m' : Nat) : Int) = (m : Int) := by simpa using hq
      omega
    subst this
    exact h h2

/-- One of n members is down, or none. -/
def goneAt (k : Nat) (m : Nat) : Bool := decide (m = k)
theorem gone_lone (k M : Nat) : Lone (goneAt k) M := fun i j _ _ hi hj => by
  unfold goneAt at hi hj
  simp only [decide_eq_true_eq] at hi hj
  omega
theorem gone_at_is (k M : Nat) : GoneIs (goneAt k) M (if k < M then (k : Int) else -1) := by
  by_cases h : k < M
  · rw [if_pos h]
    refine .inl ⟨k, rfl, h, by simp [goneAt], fun i hi => ?_⟩
    unfold goneAt
    simp
    omega
  · rw [if_neg h]
    refine .inr ⟨rfl, fun i hi => ?_⟩
    unfold goneAt
    simp
    omega

theorem puts_ok {M row k : Nat} {q : Nat → Bool} {dd : Nat → List UInt8} (h3 : 3 ≤ M) (h16 : M ≤ 16) (hr : row < 40) (hq : q (parOf M 1 row) = false) (hd : ∀ m, m < M → (dd m).length = 128) (hne : 0 < (putsOf q dd row M).length) : PlanOk M 1 40 (goneAt k) (putsOf q dd row M) row := by
  refine ⟨?_, by omega, hne, fun p hp => ?_, fun p hp => ?_, fun p hp => ?_, fun p hp => ?_, fun i j hi hj hij => List.pairwise_iff_getElem.1 (puts_pw q dd row M) i j hi hj hij, fun p hp => ?_, gone_lone _ _⟩
  · unfold geoIs
    simp only [Bool.and_eq_true, decide_eq_true_eq]
    omega
  all_goals obtain ⟨m, h1, h2, rfl⟩ := puts_mem hp
  · rfl
  · exact Int.natCast_nonneg m
  · show ((m : Nat) : Int) < (M : Int)
    omega
  · intro e
    have : ((m : Nat) : Int) = ((parOf M 1 row : Nat) : Int) := e
    have e2 : m = parOf M 1 row := by omega
    subst e2
    rw [hq] at h2
    cases h2
  · exact hd m h1

end Go.Proofs.YtpegbgomnpinfaaGreat

/- plan.Split: the rows that go out. -/
set_option linter.unusedVariables false
namespace Go.Proofs.YtpegbgomnpinfaaGreat
open Go.RowKit Go.Sort

def put0 : Int × List UInt8 := (0, [])
/-- What the first k blocks give. -/
def tabOf (M C : Nat) (us : List (Int × List UInt8)) : Nat → Tab
  | 0 => fun _ _ => none
  | k + 1 => tabSet (tabOf M C us k) (rowOf M C (us.getD k put0).1.toNat : Nat) (membOf M C (us.getD k put0).1.toNat : Nat) (us.getD k put0).2

theorem tab_len {M C : Nat} {us : List (Int × List UInt8)} (h : ∀ u ∈ us, u.2.length = 128) : ∀ (k : Nat), k ≤ us.length → ∀ r m d, tabOf M C us k r m = some d → d.length = 128
  | 0, _, r, m, d, e => by cases e
  | k + 1, hk, r, m, d, e => by
    have e' : tabSet (tabOf M C us k) (rowOf M C (us.getD k put0).1.toNat : Nat) (membOf M C (us.getD k put0).1.toNat : Nat) (us.getD k put0).2 r m = some d := e
    unfold tabSet at e'
    split at e'
    · simp only [Option.some.injEq] at e'
      rw [← e', List.getD_eq_getElem?_getD, List.getElem?_eq_getElem (by omega)]
      exact h _ (List.getElem_mem _)
    · exact tab_len h k (by omega) r m d e'

/-- A row's patches. -/
def rowX (G : Tab) (dv : Int → Int → Value) (r : Int) (ms : List Int) : List OP := ms.map fun m => (⟨m, r, (G r m).getD []⟩, dv r m)
theorem rowX_len (G : Tab) (dv : Int → Int → Value) (r : Int) (ms : List Int) : (rowX G dv r ms).length = ms.length := by simp [rowX]
theorem rowX_snoc (G : Tab) (dv : Int → Int → Value) (r : Int) (ms : List Int) (i : Nat) (h : i < ms.length) : rowX G dv r (ms.take (i + 1)) = rowX G dv r (ms.take i) ++ [(⟨ms.getD i 0, r, (G r (ms.getD i 0)).getD []⟩, dv r (ms.getD i 0))] := by
  unfold rowX
  rw [List.take_succ_eq_append_getElem h, List.map_append, List.getD_eq_getElem?_getD, List.getElem?_eq_getElem h]
  rfl

def RowIs (G : Tab) (dv : Int → Int → Value) (r : Int) (X : List OP) : Prop :=
  ∃ ms : List Int, ms.Pairwise (· < ·) ∧ (∀ m, m ∈ ms ↔ ((Lit.int .i64 m).wf = true ∧ (G r m).isSome = true)) ∧ X = rowX G dv r ms

/-- Rows of patches, each in a row of the call's own. -/
structure RowsAt (w : World) (B : Nat) (v : Value) (L : List (Value × List OP)) : Prop where
  row : w.ownsRow B 69 1 v L.length (L.map (·.1))
  each : ∀ x ∈ L, ORow w B x.1 x.2

theorem RowsAt.nil (w : World) (B : Nat) : RowsAt w B (.slice none 0 0) [] := ⟨World.ownsRow_nil _ _ _ _, fun x hx => by simp at hx⟩
theorem RowsAt.below {w w' : World} {B : Nat} {v : Value} {L : List (Value × List OP)} (h : RowsAt w B v L) (hb : Below w.heap.size w w') : RowsAt w' B v L :=
  ⟨ownsRow_mod h.row (Chg.ofBelow hb (fun _ => False)) (fun _ _ h => h), fun x hx => (h.each x hx).below hb⟩
theorem RowsAt.snoc {w w5 : World} {B : Nat} {v v' : Value} {L : List (Value × List OP)} {x : Value × List OP} (h : RowsAt w B v L) (hc : Chg (fun g => v.ownBlock = some g) w w5) (hx : ORow w B x.1 x.2)
    (hrow : w5.ownsRow B 69 1 v' (L.length + 1) (L.map (·.1) ++ [x.1])) : RowsAt w5 B v' (L ++ [x]) := by
  have go : ∀ y : Value × List OP, ORow w B y.1 y.2 → ORow w5 B y.1 y.2 := fun y hy =>
    hy.mod hc (fun g hg e => own_ne_own hy.row h.row (by decide) e hg) (fun z hz g hg e => own_ne_own (hy.dat z hz) h.row (by decide) e hg)
  refine ⟨?_, fun y hy => ?_⟩
  · rw [List.length_append, List.length_singleton, List.map_append]
    exact hrow
  · rcases List.mem_append.1 hy with hy | hy
    · exact go y (h.each y hy)
    · obtain rfl : y = x := by simpa using hy
      exact go y hx

theorem slice_rows : SliceOf Tryz.prog 48 69 1 24 := SliceOf.mk' (z := .slice none 0 0) Tryz.underlying48 (by decide) (by kernel_rfl) rfl

theorem new_one (W : World) (x : Value) (t : TypeId) (ad : Addr) (had : ad = ⟨W.heap.size, 0, none⟩) : ∀ j u, [x][j]? = some u → (W.alloc (.cells #[x] t)).cell? (ad.add j) = some u := by
  intro j u hj
  subst had
  rw [Go.WideShapes.add_plain, Nat.zero_add, (At.new W #[x] t).cell j, List.getElem?_toArray]
  exact hj

/-- A number in a row of numbers. -/
theorem keys_cell {W : World} {B n : Nat} {sa : Option Addr} {sc : Nat} {rs : List Int} (h : W.ownsRow B 3 1 (.slice sa n sc) rs.length (rs.map (Value.int .i64))) {j : Nat} (hj : j < rs.length) :
    ∃ g, sa = some ⟨g, 0, none⟩ ∧ g < W.heap.size ∧ ∀ i, i < rs.length → W.cell? ⟨g, i, none⟩ = some (.int .i64 (rs.getD i 0)) := by
  obtain ⟨g, cap, hv, _, hlt, hc, _⟩ := ownsRow_cell h (by omega)
  simp only [Value.slice.injEq] at hv
  refine ⟨g, hv.1, hlt, fun i hi => ?_⟩
  rw [hc i hi, List.getElem?_map, List.getElem?_eq_getElem hi, List.getD_eq_getElem?_getD, List.getElem?_eq_getElem hi]
  rfl

end Go.Proofs.YtpegbgomnpinfaaGreat
