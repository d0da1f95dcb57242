/- A block of rows of bytes, of the call's own. -/
import Derived.Test.YtpegbgomnpinfaaGreatPlwA
set_option linter.unusedVariables false
namespace Go.Proofs.YtpegbgomnpinfaaGreat
open Go.RowKit

/-- None of v's bytes lies in a block of X. -/
def Off (X : Nat → Prop) (v : Value) (l : List UInt8) : Prop := ∀ b q c, v = .slice (some b) q c → l ≠ [] → ¬ X b.block

theorem seg_mod {S : Nat → Prop} {w w' : World} {v : Value} {l : List UInt8} (h : Seg w v l) (hc : Chg S w w') (ho : Off S v l) : Seg w' v l := by
  obtain ⟨a, cap, hv, hn, h⟩ := h
  refine ⟨a, cap, hv, hn, ?_⟩
  rcases h with h | ⟨b, off, ha, hlt, hx⟩
  · exact .inl h
  · by_cases hl : l = []
    · exact .inl hl
    · refine .inr ⟨b, off, ha, Nat.lt_of_lt_of_le hlt hc.size, fun j hj => ?_⟩
      rw [← hx j hj]
      exact hc.cell (p := ⟨b, off + j, none⟩) hlt (ho ⟨b, off, none⟩ _ _ (by rw [hv, ha]) hl)
theorem Off.fresh {w : World} {X : Nat → Prop} {v : Value} {l : List UInt8} (h : Seg w v l) (hX : ∀ k, X k → w.heap.size ≤ k) : Off X v l := by
  obtain ⟨a, cap, hv, hn, h⟩ := h
  intro b q c hb hl hx
  rw [hv] at hb
  simp only [Value.slice.injEq] at hb
  obtain ⟨rfl, -, -⟩ := hb
  rcases h with h | ⟨b', off, ha, hlt, -⟩
  · exact hl h
  · simp only [Option.some.injEq] at ha
    subst ha
    exact absurd (hX _ hx) (Nat.not_le.2 hlt)
theorem Off.or {X Y : Nat → Prop} {v : Value} {l : List UInt8} (h : Off X v l) (h' : Off Y v l) : Off (fun k => X k ∨ Y k) v l := fun b q c hb hl hx => by
  rcases hx with hx | hx
  · exact h b q c hb hl hx
  · exact h' b q c hb hl hx
theorem Off.mono {X Y : Nat → Prop} {v : Value} {l : List UInt8} (h : Off X v l) (hXY : ∀ k, Y k → X k) : Off Y v l := fun b q c hb hl hx => h b q c hb hl (hXY _ hx)
theorem Off.own {w : World} {B n : Nat} {e : TypeId} {v : Value} {l : List UInt8} {xs : List Value} {X : Nat → Prop} (h : w.ownsRow B e 1 v n xs) (hX : ∀ k, X k → k < B) : Off X v l := fun b q c hb hl hx => by
  obtain ⟨hlt, -⟩ := h.lt b.block (by
    rcases h.2 with ⟨e, -⟩ | ⟨g, cap, cur, e, -⟩
    · rw [e] at hb; cases hb
    · rw [e] at hb
      simp only [Value.slice.injEq, Option.some.injEq] at hb
      rw [e, ← hb.1]
      rfl)
  exact absurd (hX _ hx) (Nat.not_lt.2 hlt)

/-- A block of n rows of bytes: F; none of them lies in a block of X. -/
def RowsOf (w : World) (g n : Nat) (F : Nat → List UInt8) (X : Nat → Prop) : Prop :=
  ∃ U : Nat → Value, At w g ((List.range n).map U).toArray 53 ∧ ∀ j, j < n → Seg w (U j) (F j) ∧ Off X (U j) (F j)

section
variable {w w' : World} {g n : Nat} {F : Nat → List UInt8} {X : Nat → Prop}
theorem rows_at {U : Nat → Value} {j : Nat} (hj : j < n) : ((List.range n).map U).toArray[j]? = some (U j) := by simp [hj]
theorem RowsOf.lt (h : RowsOf w g n F X) : g < w.heap.size := by obtain ⟨U, h, _⟩ := h; exact h.lt
theorem RowsOf.free (h : RowsOf w g n F X) (i : Nat) : w.frozen? ⟨g, i, none⟩ = false := by obtain ⟨U, h, _⟩ := h; exact h.free i
theorem RowsOf.cell (h : RowsOf w g n F X) {j : Nat} (hj : j < n) : ∃ u, w.cell? ⟨g, j, none⟩ = some u ∧ Seg w u (F j) ∧ Off X u (F j) := by
  obtain ⟨U, h1, h2⟩ := h
  exact ⟨U j, (h1.cell j).trans (rows_at hj), h2 j hj⟩
theorem RowsOf.segs (h : RowsOf w g n F X) : Segs w (.slice (some ⟨g, 0, none⟩) n n) ((List.range n).map F) := by
  have hl : ((List.range n).map F).length = n := by simp
  refine ⟨some ⟨g, 0, none⟩, n, by rw [hl], by rw [hl]; exact Nat.le_refl _, .inr ⟨g, 0, rfl, h.lt, fun j hj => ?_⟩⟩
  rw [hl] at hj
  obtain ⟨u, h1, h2, -⟩ := h.cell hj
  refine ⟨u, by rw [Nat.zero_add]; exact h1, ?_⟩
  rw [List.getElem_map, List.getElem_range]
  exact h2
theorem rows_getD (F : Nat → List UInt8) {j : Nat} (hj : j < n) : ((List.range n).map F).getD j [] = F j := by
  rw [List.getD_eq_getElem?_getD]
  simp [hj]
theorem RowsOf.new {f : Nat → Value} (h : At w g (cellsTo f (.slice none 0 0) n 0) 53) : RowsOf w g n (fun _ => []) X := by
  refine ⟨fun _ => .slice none 0 0, ?_, fun j hj => ⟨Seg.nil _, fun b q c hb => by cases hb⟩⟩
  have e : cellsTo f (.slice none 0 0) n 0 = ((List.range n).map fun _ => Value.slice none 0 0).toArray := by
    unfold cellsTo
    simp
  rw [← e]
  exact h
theorem RowsOf.below (h : RowsOf w g n F X) (hb : Below w.heap.size w w') : RowsOf w' g n F X := by
  obtain ⟨U, h1, h2⟩ := h
  exact ⟨U, h1.below hb h1.lt, fun j hj => ⟨(h2 j hj).1.below hb, (h2 j hj).2⟩⟩
theorem RowsOf.chg {S : Nat → Prop} (h : RowsOf w g n F X) (hc : Chg S w w') (hg : ¬ S g) (hS : ∀ k, S k → X k) : RowsOf w' g n F X := by
  obtain ⟨U, h1, h2⟩ := h
  exact ⟨U, h1.mod hc hg, fun j hj => ⟨seg_mod (h2 j hj).1 hc ((h2 j hj).2.mono hS), (h2 j hj).2⟩⟩
theorem RowsOf.less {Y : Nat → Prop} (h : RowsOf w g n F X) (hY : ∀ k, Y k → X k) : RowsOf w g n F Y := by
  obtain ⟨U, h1, h2⟩ := h
  exact ⟨U, h1, fun j hj => ⟨(h2 j hj).1, (h2 j hj).2.mono hY⟩⟩
theorem RowsOf.more {Y : Nat → Prop} (h : RowsOf w g n F X) (hY : ∀ k, Y k → X k ∨ w.heap.size ≤ k) : RowsOf w g n F Y := by
  obtain ⟨U, h1, h2⟩ := h
  refine ⟨U, h1, fun j hj => ⟨(h2 j hj).1, ?_⟩⟩
  exact ((h2 j hj).2.or (Off.fresh (h2 j hj).1 (X := fun k => w.heap.size ≤ k) fun k hk => hk)).mono hY
theorem RowsOf.congr {G : Nat → List UInt8} (h : RowsOf w g n F X) (hG : ∀ j, j < n → G j = F j) : RowsOf w g n G X := by
  obtain ⟨U, h1, h2⟩ := h
  exact ⟨U, h1, fun j hj => by rw [hG j hj]; exact h2 j hj⟩

/-- No byte lies in a block of rows. -/
theorem Off.rows {v : Value} {l : List UInt8} (hs : Seg w v l) (h : RowsOf w g n F X) : Off (fun k => k = g) v l := by
  obtain ⟨a, cap, hv, hn, hs⟩ := hs
  obtain ⟨U, h1, h2⟩ := h
  intro b q c hb hl hx
  rw [hv] at hb
  simp only [Value.slice.injEq] at hb
  obtain ⟨rfl, -, -⟩ := hb
  rcases hs with hs | ⟨b', off, ha, hlt, hc⟩
  · exact hl hs
  · simp only [Option.some.injEq] at ha
    subst ha
    simp only at hx
    subst hx
    have hl0 : 0 < l.length := List.length_pos_iff.2 hl
    have := hc 0 hl0
    rw [h1.cell] at this
    by_cases ho : off + 0 < n
    · rw [rows_at ho] at this
      obtain ⟨a', c', he⟩ := (h2 _ ho).1.shape
      rw [he] at this
      cases this
    · rw [Array.getElem?_eq_none (by simp; omega)] at this
      cases this

/-- Another row of bytes is laid. -/
theorem RowsOf.set (h : RowsOf w g n F X) {j : Nat} (hj : j < n) {u : Value} {l : List UInt8} (hu : Seg w u l) (ho : Off X u l) : RowsOf (w.setCell ⟨g, j, none⟩ u) g n (fun i => if i = j then l else F i) X := by
  have hst : Chg (fun k => k = g) w (w.setCell ⟨g, j, none⟩ u) := Chg.setCell (S := fun k => k = g) (Chg.refl _ _) ⟨g, j, none⟩ (.inl rfl) _
  have hoff : ∀ {v : Value} {l' : List UInt8}, Seg w v l' → Seg (w.setCell ⟨g, j, none⟩ u) v l' := fun hs => seg_mod hs hst (Off.rows hs h)
  obtain ⟨U, h1, h2⟩ := h
  refine ⟨fun i => if i = j then u else U i, ?_, fun i hi => ?_⟩
  · have e : ((List.range n).map U).toArray.setIfInBounds j u = ((List.range n).map fun i => if i = j then u else U i).toArray := by
      apply Array.ext_getElem?
      intro i
      rw [Array.getElem?_setIfInBounds]
      by_cases hi : i < n
      · rw [rows_at hi, rows_at hi]
        by_cases hij : j = i
        · subst hij; simp [hi]
        · rw [if_neg hij, if_neg (Ne.symm hij)]
      · rw [Array.getElem?_eq_none (by simp; omega), Array.getElem?_eq_none (by simp; omega)]
        by_cases hij : j = i
        · omega
        · rw [if_neg hij]
    rw [← e]
    exact h1.set j u
  · show Seg _ (if i = j then u else U i) (if i = j then l else F i) ∧ Off X (if i = j then u else U i) (if i = j then l else F i)
    by_cases hij : i = j
    · rw [if_pos hij, if_pos hij]
      exact ⟨hoff hu, ho⟩
    · rw [if_neg hij, if_neg hij]
      exact ⟨hoff (h2 i hi).1, (h2 i hi).2⟩
end

end Go.Proofs.YtpegbgomnpinfaaGreat
