/- The document's: a batch, given to its rows. -/
import Derived.Test.YtkcfmkhakghniaaGreatPlzG
import Derived.Test.YtkcfmkhakghniaaGreatMrg11
import Derived.Test.YtkcfmkhakghniaaGreatPlwJ
set_option linter.unusedVariables false
namespace Go.Proofs.YtkcfmkhakghniaaGreat
open Go.RowKit

/-- Such a slice stands where a block turns that holds no numbers. -/
theorem seg_noint {w w' : World} {g : Nat} {v : Value} {l : List UInt8} (h : Seg w v l) (hc : Chg (fun k => k = g) w w') (hg : ∀ i κ n, w.cell? ⟨g, i, none⟩ ≠ some (.int κ n)) : Seg w' v l := by
  refine seg_mod h hc fun b q c hb hl hx => ?_
  obtain ⟨a, cap, hv, hn, h⟩ := h
  rw [hv] at hb
  simp only [Value.slice.injEq] at hb
  obtain ⟨rfl, -, -⟩ := hb
  rcases h with h | ⟨b', off, ha, hlt, hx'⟩
  · exact hl h
  · simp only [Option.some.injEq] at ha
    subst ha
    have hx2 : b' = g := hx
    subst hx2
    have hl0 : 0 < l.length := List.length_pos_iff.2 hl
    exact hg _ _ _ (hx' 0 hl0)
theorem pseg_noint {w w' : World} {g : Nat} {v : Value} {ps : List Pat} (h : PSeg w v ps) (hc : Chg (fun k => k = g) w w') (hg : ∀ i κ n, w.cell? ⟨g, i, none⟩ ≠ some (.int κ n)) : PSeg w' v ps := by
  obtain ⟨a, c, h1, h2, h3, h4⟩ := h
  refine ⟨a, c, h1, h2, h3, ?_⟩
  rcases h4 with h4 | ⟨b, o, ha, hlt, hx⟩
  · exact .inl h4
  · by_cases hp : ps = []
    · exact .inl hp
    · refine .inr ⟨b, o, ha, Nat.lt_of_lt_of_le hlt hc.size, fun j hj => ?_⟩
      have hbg : b ≠ g := fun e => by
        subst e
        have hl0 : 0 < ps.length := List.length_pos_iff.2 hp
        exact hg _ _ _ (hx 0 hl0).m
      obtain ⟨e0, e1, u, e2, hs⟩ := hx j hj
      exact ⟨(hc.cell (p := ⟨b, o + j * 3, none⟩) hlt hbg).trans e0, (hc.cell (p := ⟨b, o + j * 3 + 1, none⟩) hlt hbg).trans e1, u, (hc.cell (p := ⟨b, o + j * 3 + 2, none⟩) hlt hbg).trans e2, seg_noint hs hc hg⟩

/-- A block of R rows of patches. -/
structure PRowsAt (w : World) (g R : Nat) (F : Nat → List Pat) (U : Nat → Value) : Prop where
  head : At w g ((List.range R).map U).toArray 82
  each : ∀ j, j < R → PSeg w (U j) (F j)
theorem PRowsAt.below {w w' : World} {g R : Nat} {F : Nat → List Pat} {U : Nat → Value} (h : PRowsAt w g R F U) (hb : Below w.heap.size w w') : PRowsAt w' g R F U := ⟨h.head.below hb h.head.lt, fun j hj => (h.each j hj).below hb⟩
theorem PRowsAt.cell {w : World} {g R : Nat} {F : Nat → List Pat} {U : Nat → Value} (h : PRowsAt w g R F U) {j : Nat} (hj : j < R) : w.cell? ⟨g, j, none⟩ = some (U j) := (h.head.cell j).trans (rows_at hj)
theorem PRowsAt.noint {w : World} {g R : Nat} {F : Nat → List Pat} {U : Nat → Value} (h : PRowsAt w g R F U) : ∀ i κ n, w.cell? ⟨g, i, none⟩ ≠ some (.int κ n) := fun i κ n e => by
  by_cases hi : i < R
  · rw [h.cell hi] at e
    obtain ⟨a, c, e'⟩ := (h.each i hi).shape
    rw [e'] at e
    cases e
  · rw [h.head.cell i, Array.getElem?_eq_none (by simp; omega)] at e
    cases e
theorem PRowsAt.set {w : World} {g R : Nat} {F : Nat → List Pat} {U : Nat → Value} (h : PRowsAt w g R F U) {j : Nat} (hj : j < R) {u : Value} {l : List Pat} (hu : PSeg w u l) : PRowsAt (w.setCell ⟨g, j, none⟩ u) g R (fun i => if i = j then l else F i) (fun i => if i = j then u else U i) := by
  have hst : Chg (fun k => k = g) w (w.setCell ⟨g, j, none⟩ u) := Chg.setCell (S := fun k => k = g) (Chg.refl _ _) ⟨g, j, none⟩ (.inl rfl) _
  have e : ((List.range R).map U).toArray.setIfInBounds j u = ((List.range R).map fun i => if i = j then u else U i).toArray := by
    apply Array.ext_getElem?
    intro i
    rw [Array.getElem?_setIfInBounds]
    by_cases hi : i < R
    · rw [rows_at hi, rows_at hi]
      by_cases hij : j = i
      · subst hij; simp [hi]
      · rw [if_neg hij, if_neg (Ne.symm hij)]
    · rw [Array.getElem?_eq_none (by simp; omega), Array.getElem?_eq_none (by simp; omega)]
      by_cases hij : j = i
      · omega
      · rw [if_neg hij]
  refine ⟨by rw [← e]; exact h.head.set j u, fun i hi => ?_⟩
  show PSeg _ (if i = j then u else U i) (if i = j then l else F i)
  by_cases hij : i = j
  · rw [if_pos hij, if_pos hij]
    exact pseg_noint hu hst h.noint
  · rw [if_neg hij, if_neg hij]
    exact pseg_noint (h.each i hi) hst h.noint
theorem PRowsAt.told {w : World} {g R : Nat} {F G : Nat → List Pat} {U : Nat → Value} (h : PRowsAt w g R F U) (e : ∀ j, j < R → G j = F j) : PRowsAt w g R G U := ⟨h.head, fun j hj => by rw [e j hj]; exact h.each j hj⟩

/-- What stands while blocks are given to their rows. -/
structure RsAt (w wx : World) (M C S ga R : Nat) (F : Nat → List Pat) : Prop where
  geo : At wx w.heap.size #[.int .i64 M, .int .i64 C, .int .i64 S] 23
  bel : Below w.heap.size w wx
  rows : ∃ U, PRowsAt wx ga R F U
  glow : w.heap.size ≤ ga
theorem RsAt.below {w wx wy : World} {M C S ga R : Nat} {F : Nat → List Pat} (h : RsAt w wx M C S ga R F) (hb : Below wx.heap.size wx wy) : RsAt w wy M C S ga R F := by
  obtain ⟨U, hU⟩ := h.rows
  exact ⟨h.geo.below hb h.geo.lt, below_then h.bel hb, ⟨U, hU.below hb⟩, h.glow⟩

/-- A slice of rows of patches, to be read. -/
def PSegs (w : World) (v : Value) (L : List (List Pat)) : Prop :=
  ∃ a c, v = .slice a L.length c ∧ L.length ≤ 140737488355328 ∧ (L = [] ∨ ∃ g, a = some ⟨g, 0, none⟩ ∧ g < w.heap.size ∧ ∀ j (h : j < L.length), ∃ u, w.cell? ⟨g, j, none⟩ = some u ∧ PSeg w u L[j])
theorem PSegs.below {w w' : World} {v : Value} {L : List (List Pat)} (h : PSegs w v L) (hb : Below w.heap.size w w') : PSegs w' v L := by
  obtain ⟨a, c, h1, h2, h3⟩ := h
  refine ⟨a, c, h1, h2, ?_⟩
  rcases h3 with h3 | ⟨g, ha, hlt, hx⟩
  · exact .inl h3
  · refine .inr ⟨g, ha, Nat.lt_of_lt_of_le hlt hb.size, fun j hj => ?_⟩
    obtain ⟨u, e, hu⟩ := hx j hj
    exact ⟨u, (hb.cell (p := ⟨g, j, none⟩) hlt).trans e, hu.below hb⟩
theorem PSegs.shape {w : World} {v : Value} {L : List (List Pat)} (h : PSegs w v L) : ∃ a c, v = .slice a L.length c := by
  obtain ⟨a, c, h1, _⟩ := h
  exact ⟨a, c, h1⟩
theorem PSegs.full {w : World} {a : Option Addr} {n c : Nat} {L : List (List Pat)} (h : PSegs w (.slice a n c) L) (hl : 0 < L.length) : ∃ g, a = some ⟨g, 0, none⟩ ∧ g < w.heap.size ∧ ∀ j (h : j < L.length), ∃ u, w.cell? ⟨g, j, none⟩ = some u ∧ PSeg w u L[j] := by
  obtain ⟨a', c', h1, h2, h3⟩ := h
  simp only [Value.slice.injEq] at h1
  obtain ⟨rfl, -, rfl⟩ := h1
  rcases h3 with h3 | h3
  · subst h3; simp at hl
  · exact h3

theorem place_cut {G : Prop} (w : World) (g : Nat) (h : At w g #[.int .i64 0, .int .i64 0, .int .i64 0, .int .i64 0] 172) (k : At w g #[.int .i64 0, .int .i64 0, .int .i64 0, .int .i64 0] 172 → G) : G := k h
theorem place_store {wo : World} {g : Nat} {z0 z1 z2 z3 : Value} (h : At wo g #[z0, z1, z2, z3] 172) (a b c d : Value) :
    At ((((wo.setCell ⟨g, 0, none⟩ a).setCell ⟨g, 1, none⟩ b).setCell ⟨g, 2, none⟩ c).setCell ⟨g, 3, none⟩ d) g #[a, b, c, d] 172 :=
  (((h.set 0 a).set 1 b).set 2 c).set 3 d
theorem place_below {w wo : World} {B g : Nat} (h : Below B w wo) (hg : B ≤ g) (a b c d : Value) : Below B w ((((wo.setCell ⟨g, 0, none⟩ a).setCell ⟨g, 1, none⟩ b).setCell ⟨g, 2, none⟩ c).setCell ⟨g, 3, none⟩ d) :=
  (((h.setCell (p := ⟨g, 0, none⟩) hg a).setCell (p := ⟨g, 1, none⟩) hg b).setCell (p := ⟨g, 2, none⟩) hg c).setCell (p := ⟨g, 3, none⟩) hg d

theorem tab_next {M C S : Nat} {us : List (Int × List UInt8)} {k n : Nat} (hg : geoIs M C S = true) (hk : k < us.length) (hn : (us[k]'hk).1 = (n : Int)) (hb : n < S * C * (M - 1)) :
    (∀ r, r < S * C → patsIn M (tabOf M C us (k + 1)) r = if r = rowOf M C n then intoL (patsIn M (tabOf M C us k) (rowOf M C n)) ⟨(membOf M C n : Nat), (rowOf M C n : Nat), (us[k]'hk).2⟩ else patsIn M (tabOf M C us k) r) := by
  intro r hr
  have ek : us.getD k put0 = us[k]'hk := by rw [List.getD_eq_getElem?_getD, List.getElem?_eq_getElem hk]; rfl
  have L := lies hg hb
  have es : tabOf M C us (k + 1) = tabSet (tabOf M C us k) (rowOf M C n : Nat) (membOf M C n : Nat) (us[k]'hk).2 := by
    show tabSet _ (rowOf M C (us.getD k put0).1.toNat : Nat) (membOf M C (us.getD k put0).1.toNat : Nat) _ = _
    rw [ek, hn]
    rfl
  rw [es]
  by_cases h : r = rowOf M C n
  · rw [if_pos h, h]
    exact patsIn_set M _ _ _ _ L.memb
  · rw [if_neg h]
    exact patsIn_other M _ _ _ _ _ h

theorem patsIn_len (M : Nat) (G : Tab) (r : Nat) : (patsIn M G r).length ≤ M := by
  unfold patsIn membsIn
  rw [List.length_map]
  exact whichTo_length _ _
theorem hasRow_pats (M : Nat) (G : Tab) (r : Nat) : hasRow M G r = decide (0 < (patsIn M G r).length) := by
  by_cases h : 0 < (patsIn M G r).length
  · rw [decide_eq_true h]
    obtain ⟨q, hq⟩ := List.length_pos_iff_exists_mem.1 h
    obtain ⟨m, d, h1, h2, -⟩ := patsIn_mem.1 hq
    unfold hasRow
    rw [List.any_eq_true]
    exact ⟨m, by simpa using h1, by rw [h2]; rfl⟩
  · rw [decide_eq_false h]
    cases hh : hasRow M G r with
    | false => rfl
    | true =>
      exfalso
      obtain ⟨m, h1, h2⟩ := row_has hh
      obtain ⟨d, hd⟩ := Option.isSome_iff_exists.1 h2
      exact h (List.length_pos_of_mem (patsIn_mem.2 ⟨m, d, h1, hd, rfl⟩))

end Go.Proofs.YtkcfmkhakghniaaGreat
