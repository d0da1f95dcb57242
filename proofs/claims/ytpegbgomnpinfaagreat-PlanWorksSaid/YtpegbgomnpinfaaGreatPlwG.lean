/- Where a plan law's own things stand: rows of bytes, patches, other blocks. No program in sight. -/
import Derived.Test.YtpegbgomnpinfaaGreatPlwF
set_option linter.unusedVariables false
namespace Go.Proofs.YtpegbgomnpinfaaGreat
open Go.RowKit

abbrev RB := Nat × (Nat → List UInt8)
abbrev KB := Nat × Array Value × TypeId

/-- Rows of bytes RS, none of them in a block of X; other blocks KS; patches Y in vp. -/
structure LawAt (w0 w : World) (B M : Nat) (X : Nat → Prop) (vp : Value) (Y : List OP) (RS : List RB) (KS : List KB) : Prop where
  rows : ∀ p ∈ RS, RowsOf w p.1 M p.2 X
  kept : ∀ p ∈ KS, At w p.1 p.2.1 p.2.2 ∧ p.2.2 ≠ 53 ∧ p.2.2 ≠ 153
  puts : ORow w B vp Y
  hX : ∀ k, vp.ownBlock = some k → X k
  rsep : RS.Pairwise fun a b => a.1 ≠ b.1
  ksep : KS.Pairwise fun a b => a.1 ≠ b.1
  rlow : ∀ p ∈ RS, w0.heap.size ≤ p.1
  klow : ∀ p ∈ KS, w0.heap.size ≤ p.1
  hB : B ≤ w.heap.size
  lowB : w0.heap.size ≤ B
  bel : Below w0.heap.size w0 w
  xin : ∀ k, X k → w0.heap.size ≤ k ∧ k < w.heap.size

namespace LawAt
variable {w0 w w' : World} {B M : Nat} {X : Nat → Prop} {vp : Value} {Y : List OP} {RS : List RB} {KS : List KB}

theorem below (h : LawAt w0 w B M X vp Y RS KS) (hb : Below w.heap.size w w') : LawAt w0 w' B M X vp Y RS KS :=
  ⟨fun p hp => (h.rows p hp).below hb, fun p hp => ⟨(h.kept p hp).1.below hb (h.kept p hp).1.lt, (h.kept p hp).2⟩, h.puts.below hb, h.hX, h.rsep, h.ksep, h.rlow, h.klow, Nat.le_trans h.hB hb.size, h.lowB, below_then h.bel hb, fun k hk => ⟨(h.xin k hk).1, Nat.lt_of_lt_of_le (h.xin k hk).2 hb.size⟩⟩

theorem start (w0 : World) (M : Nat) : LawAt w0 w0 w0.heap.size M (fun _ => False) (.slice none 0 0) [] [] [] :=
  ⟨fun p hp => (by cases hp), fun p hp => (by cases hp), ORow.nil _ _, fun k hk => (by cases hk), List.Pairwise.nil, List.Pairwise.nil, fun p hp => (by cases hp), fun p hp => (by cases hp), Nat.le_refl _, Nat.le_refl _, Below.refl _ _, fun k hk => False.elim hk⟩
/-- No patches yet: the base may be another. -/
theorem base {B' : Nat} (h : LawAt w0 w B M X (.slice none 0 0) [] RS KS) (h1 : w0.heap.size ≤ B') (h2 : B' ≤ w.heap.size) : LawAt w0 w B' M X (.slice none 0 0) [] RS KS :=
  ⟨h.rows, h.kept, ORow.nil _ _, h.hX, h.rsep, h.ksep, h.rlow, h.klow, h2, h1, h.bel, h.xin⟩

theorem row_ne_at {g : Nat} {F : Nat → List UInt8} {k : Nat} {cs : Array Value} {t : TypeId} (h : RowsOf w g M F X) (ha : At w k cs t) (ht : t ≠ 53) : g ≠ k := fun e => by
  subst e
  obtain ⟨U, h1, -⟩ := h
  unfold At at h1 ha
  rw [h1] at ha
  simp only [Option.some.injEq, Obj.cells.injEq] at ha
  exact ht ha.2.1.symm
theorem at_row {g : Nat} {F : Nat → List UInt8} (h : RowsOf w g M F X) : ∃ cs, At w g cs 53 := by
  obtain ⟨U, h1, -⟩ := h
  exact ⟨_, h1⟩

/-- A row is laid into the i-th block of rows. -/
theorem setRow (h : LawAt w0 w B M X vp Y RS KS) {i g : Nat} {F : Nat → List UInt8} (hi : RS[i]? = some (g, F)) {j : Nat} (hj : j < M) {u : Value} {l : List UInt8} (hu : Seg w u l) (ho : Off X u l) :
    LawAt w0 (w.setCell ⟨g, j, none⟩ u) B M X vp Y (RS.set i (g, fun q => if q = j then l else F q)) KS := by
  obtain ⟨hil, hie⟩ := List.getElem?_eq_some_iff.1 hi
  have hmem : (g, F) ∈ RS := hie ▸ List.getElem_mem hil
  have hrow := h.rows _ hmem
  obtain ⟨cs, hat⟩ := at_row hrow
  have hst : Chg (fun k => k = g) w (w.setCell ⟨g, j, none⟩ u) := Chg.setCell (S := fun k => k = g) (Chg.refl _ _) ⟨g, j, none⟩ (.inl rfl) _
  have hne : ∀ p ∈ KS, p.1 ≠ g := fun p hp e => row_ne_at hrow (h.kept p hp).1 (h.kept p hp).2.1 e.symm
  have hz : (w.setCell ⟨g, j, none⟩ u).heap.size = w.heap.size := size_setCell _ _ _
  refine ⟨fun p hp => ?_, fun p hp => ⟨(h.kept p hp).1.mod hst (hne p hp), (h.kept p hp).2⟩, h.puts.mod hst (fun k hk e => own_ne_at h.puts.row hat (by decide) (e ▸ hk)) (fun x hx k hk e => own_ne_at (h.puts.dat x hx) hat (by decide) (e ▸ hk)), h.hX, ?_, h.ksep, fun p hp => ?_, h.klow, by rw [hz]; exact h.hB, h.lowB, h.bel.setCell (p := ⟨g, j, none⟩) (h.rlow _ hmem) _, by rw [hz]; exact h.xin⟩
  · obtain ⟨q, hq, rfl⟩ := List.getElem_of_mem hp
    rw [List.length_set] at hq
    rw [List.getElem_set]
    by_cases hqi : i = q
    · subst hqi
      rw [if_pos rfl]
      exact hrow.set hj hu ho
    · rw [if_neg hqi]
      have hr := h.rows _ (List.getElem_mem hq)
      have hgne : (RS[q]'hq).1 ≠ g := fun e => by
        rcases Nat.lt_or_gt_of_ne hqi with hlt | hlt
        · exact List.pairwise_iff_getElem.1 h.rsep i q hil hq hlt (by rw [hie, e])
        · exact List.pairwise_iff_getElem.1 h.rsep q i hq hil hlt (by rw [hie, e])
      obtain ⟨U, h1, h2⟩ := hr
      exact ⟨U, h1.mod hst hgne, fun j' hj' => ⟨seg_mod (h2 j' hj').1 hst (Off.rows (h2 j' hj').1 hrow), (h2 j' hj').2⟩⟩
  · rw [List.pairwise_iff_getElem]
    intro a b ha hb hab
    rw [List.length_set] at ha hb
    have e : ∀ q (hq : q < (RS.set i (g, fun q => if q = j then l else F q)).length), ((RS.set i (g, fun q => if q = j then l else F q))[q]'hq).1 = (RS[q]'(by simpa using hq)).1 := fun q hq => by
      rw [List.getElem_set]
      by_cases hqi : i = q
      · subst hqi; rw [if_pos rfl, hie]
      · rw [if_neg hqi]
    rw [e, e]
    exact List.pairwise_iff_getElem.1 h.rsep a b ha hb hab
  · obtain ⟨q, hq, rfl⟩ := List.getElem_of_mem hp
    rw [List.length_set] at hq
    rw [List.getElem_set]
    by_cases hqi : i = q
    · subst hqi
      rw [if_pos rfl]
      exact h.rlow (g, F) hmem
    · rw [if_neg hqi]
      exact h.rlow _ (List.getElem_mem hq)

/-- A cell of the i-th other block turns. -/
theorem setKept' (h : LawAt w0 w B M X vp Y RS KS) {i g : Nat} {cs : Array Value} {t : TypeId} (hi : KS[i]? = some (g, cs, t)) (hXg : X g) (hgB : ∀ x ∈ Y, ∀ z, x.2.ownBlock = some z → z ≠ g) (j : Nat) (u : Value) :
    LawAt w0 (w.setCell ⟨g, j, none⟩ u) B M X vp Y RS (KS.set i (g, cs.setIfInBounds j u, t)) := by
  obtain ⟨hil, hie⟩ := List.getElem?_eq_some_iff.1 hi
  have hmem : (g, cs, t) ∈ KS := hie ▸ List.getElem_mem hil
  obtain ⟨hat, ht1, ht2⟩ := h.kept _ hmem
  have hst : Chg (fun k => k = g) w (w.setCell ⟨g, j, none⟩ u) := Chg.setCell (S := fun k => k = g) (Chg.refl _ _) ⟨g, j, none⟩ (.inl rfl) _
  have hz : (w.setCell ⟨g, j, none⟩ u).heap.size = w.heap.size := size_setCell _ _ _
  refine ⟨fun p hp => (h.rows p hp).chg hst (row_ne_at (h.rows p hp) hat ht1) (fun k hk => hk ▸ hXg), fun p hp => ?_, h.puts.mod hst (fun k hk e => own_ne_at h.puts.row hat (fun e' => ht2 e'.symm) (e ▸ hk)) (fun x hx k hk e => ?_), h.hX, h.rsep, ?_, h.rlow, fun p hp => ?_, by rw [hz]; exact h.hB, h.lowB, h.bel.setCell (p := ⟨g, j, none⟩) (h.klow _ hmem) _, by rw [hz]; exact h.xin⟩
  · obtain ⟨q, hq, rfl⟩ := List.getElem_of_mem hp
    rw [List.length_set] at hq
    rw [List.getElem_set]
    by_cases hqi : i = q
    · subst hqi
      rw [if_pos rfl]
      exact ⟨hat.set j u, ht1, ht2⟩
    · rw [if_neg hqi]
      have hk := h.kept _ (List.getElem_mem hq)
      have hgne : (KS[q]'hq).1 ≠ g := fun e => by
        rcases Nat.lt_or_gt_of_ne hqi with hlt | hlt
        · exact List.pairwise_iff_getElem.1 h.ksep i q hil hq hlt (by rw [hie, e])
        · exact List.pairwise_iff_getElem.1 h.ksep q i hq hil hlt (by rw [hie, e])
      exact ⟨hk.1.mod hst hgne, hk.2⟩
  · exact hgB x hx k hk e
  · rw [List.pairwise_iff_getElem]
    intro a b ha hb hab
    rw [List.length_set] at ha hb
    have e : ∀ q (hq : q < (KS.set i (g, cs.setIfInBounds j u, t)).length), ((KS.set i (g, cs.setIfInBounds j u, t))[q]'hq).1 = (KS[q]'(by simpa using hq)).1 := fun q hq => by
      rw [List.getElem_set]
      by_cases hqi : i = q
      · subst hqi; rw [if_pos rfl, hie]
      · rw [if_neg hqi]
    rw [e, e]
    exact List.pairwise_iff_getElem.1 h.ksep a b ha hb hab
  · obtain ⟨q, hq, rfl⟩ := List.getElem_of_mem hp
    rw [List.length_set] at hq
    rw [List.getElem_set]
    by_cases hqi : i = q
    · subst hqi
      rw [if_pos rfl]
      exact h.klow (g, cs, t) hmem
    · rw [if_neg hqi]
      exact h.klow _ (List.getElem_mem hq)

theorem setKept (h : LawAt w0 w B M X vp Y RS KS) {i g : Nat} {cs : Array Value} {t : TypeId} (hi : KS[i]? = some (g, cs, t)) (hXg : X g) (hgB : g < B) (j : Nat) (u : Value) :
    LawAt w0 (w.setCell ⟨g, j, none⟩ u) B M X vp Y RS (KS.set i (g, cs.setIfInBounds j u, t)) :=
  h.setKept' hi hXg (fun x hx z hz e => by have := ((h.puts.dat x hx).lt z hz).1; omega) j u

/-- The patches were appended to. -/
theorem app {v' : Value} {x : OP} (h : LawAt w0 w B M X vp Y RS KS) (hc : Chg (fun g => vp.ownBlock = some g) w w')
    (hx : w.ownsRow B 5 1 x.2 128 (ucells x.1.d)) (hap : ∀ y ∈ Y, ∀ g, y.2.ownBlock = some g → x.2.ownBlock ≠ some g)
    (hrow : w'.ownsRow B 153 3 v' (Y.length + 1) (elems (fun i => opCells (Y.getD i op0)) Y.length ++ opCells x)) (hv : v'.ownBlock = vp.ownBlock ∨ ∃ k, v'.ownBlock = some k ∧ w.heap.size ≤ k) :
    LawAt w0 w' B M (fun k => X k ∨ v'.ownBlock = some k) v' (Y ++ [x]) RS KS := by
  have hrk : ∀ p ∈ RS, vp.ownBlock ≠ some p.1 := fun p hp => by
    obtain ⟨cs, hat⟩ := at_row (h.rows p hp)
    exact own_ne_at h.puts.row hat (by decide)
  refine ⟨fun p hp => ?_, fun p hp => ⟨(h.kept p hp).1.mod hc (own_ne_at h.puts.row (h.kept p hp).1 fun e => (h.kept p hp).2.2 e.symm), (h.kept p hp).2⟩, h.puts.snoc hc hx hap hrow, fun k hk => .inr hk, h.rsep, h.ksep, h.rlow, h.klow, Nat.le_trans h.hB hc.size, h.lowB, Chg.own h.bel hc (fun k hk => Nat.le_trans h.lowB (h.puts.row.lt k hk).1), fun k hk => ?_⟩
  case refine_2 =>
    rcases hk with hk | hk
    · exact ⟨(h.xin k hk).1, Nat.lt_of_lt_of_le (h.xin k hk).2 hc.size⟩
    · exact ⟨Nat.le_trans h.lowB (hrow.lt k hk).1, (hrow.lt k hk).2⟩
  refine RowsOf.chg (S := fun g => vp.ownBlock = some g) (w := w) ((h.rows p hp).more (fun k hk => ?_)) hc (hrk p hp) (fun k hk => .inl (h.hX k hk))
  rcases hk with hk | hk
  · exact .inl hk
  · rcases hv with e | ⟨k', e, hlt⟩
    · exact .inl (h.hX k (e ▸ hk))
    · rw [e] at hk
      simp only [Option.some.injEq] at hk
      exact .inr (hk ▸ hlt)

/-- A new block of rows. -/
theorem newRow {f : Nat → Value} (h : LawAt w0 w B M X vp Y RS KS) (hb : Below w.heap.size w w') (ha : At w' w.heap.size (cellsTo f (.slice none 0 0) M 0) 53) : LawAt w0 w' B M X vp Y ((w.heap.size, fun _ => []) :: RS) KS := by
  have h' := h.below hb
  refine ⟨fun p hp => ?_, h'.kept, h'.puts, h'.hX, List.pairwise_cons.2 ⟨fun p hp e => ?_, h.rsep⟩, h.ksep, fun p hp => ?_, h.klow, h'.hB, h'.lowB, h'.bel, h'.xin⟩
  · rcases List.mem_cons.1 hp with e | hp
    · subst e; exact RowsOf.new ha
    · exact h'.rows p hp
  · have := (h.rows p hp).lt
    simp only at e
    omega
  · rcases List.mem_cons.1 hp with e | hp
    · subst e; exact h.bel.size
    · exact h.rlow p hp

/-- A new other block. -/
theorem newKept {g : Nat} {cs : Array Value} {t : TypeId} (h : LawAt w0 w B M X vp Y RS KS) (hb : Below w.heap.size w w') (ha : At w' g cs t) (hg : w.heap.size ≤ g) (ht1 : t ≠ 53) (ht2 : t ≠ 153) : LawAt w0 w' B M X vp Y RS ((g, cs, t) :: KS) := by
  have h' := h.below hb
  refine ⟨h'.rows, fun p hp => ?_, h'.puts, h'.hX, h.rsep, List.pairwise_cons.2 ⟨fun p hp e => ?_, h.ksep⟩, h.rlow, fun p hp => ?_, h'.hB, h'.lowB, h'.bel, h'.xin⟩
  · rcases List.mem_cons.1 hp with e | hp
    · subst e; exact ⟨ha, ht1, ht2⟩
    · exact h'.kept p hp
  · have := (h.kept p hp).1.lt
    simp only at e
    omega
  · rcases List.mem_cons.1 hp with e | hp
    · subst e; exact Nat.le_trans h.bel.size hg
    · exact h.klow p hp

/-- What is held apart may become less; or what is not there yet more. -/
theorem apart {Z : Nat → Prop} (h : LawAt w0 w B M X vp Y RS KS) (hZ : ∀ k, Z k → X k) (hv : ∀ k, vp.ownBlock = some k → Z k) : LawAt w0 w B M Z vp Y RS KS :=
  ⟨fun p hp => (h.rows p hp).less hZ, h.kept, h.puts, hv, h.rsep, h.ksep, h.rlow, h.klow, h.hB, h.lowB, h.bel, fun k hk => h.xin k (hZ k hk)⟩
/-- A block that has just been made is held apart. -/
theorem more {g : Nat} (h : LawAt w0 w B M X vp Y RS KS) (hb : Below w.heap.size w w') (hg : w.heap.size ≤ g) (hgl : g < w'.heap.size) : LawAt w0 w' B M (fun k => X k ∨ k = g) vp Y RS KS := by
  have h' := h.below hb
  refine ⟨fun p hp => ?_, h'.kept, h'.puts, fun k hk => .inl (h.hX k hk), h.rsep, h.ksep, h.rlow, h.klow, h'.hB, h'.lowB, h'.bel, fun k hk => ?_⟩
  · refine RowsOf.below ((h.rows p hp).more (fun k hk => ?_)) hb
    rcases hk with hk | hk
    · exact .inl hk
    · exact .inr (by rw [hk]; exact hg)
  · rcases hk with hk | hk
    · exact h'.xin k hk
    · rw [hk]; exact ⟨Nat.le_trans h.bel.size hg, hgl⟩

/-- A block is no longer looked at. -/
theorem dropRow (h : LawAt w0 w B M X vp Y RS KS) {RS' : List RB} (hs : RS'.Sublist RS) : LawAt w0 w B M X vp Y RS' KS :=
  ⟨fun p hp => h.rows p (hs.subset hp), h.kept, h.puts, h.hX, h.rsep.sublist hs, h.ksep, fun p hp => h.rlow p (hs.subset hp), h.klow, h.hB, h.lowB, h.bel, h.xin⟩
theorem dropKept (h : LawAt w0 w B M X vp Y RS KS) {KS' : List KB} (hs : KS'.Sublist KS) : LawAt w0 w B M X vp Y RS KS' :=
  ⟨h.rows, fun p hp => h.kept p (hs.subset hp), h.puts, h.hX, h.rsep, h.ksep.sublist hs, h.rlow, fun p hp => h.klow p (hs.subset hp), h.hB, h.lowB, h.bel, h.xin⟩

theorem row (h : LawAt w0 w B M X vp Y RS KS) (i : Nat) {g : Nat} {F : Nat → List UInt8} (hi : RS[i]? = some (g, F)) : RowsOf w g M F X := by
  obtain ⟨hil, hie⟩ := List.getElem?_eq_some_iff.1 hi
  have := h.rows _ (List.getElem_mem hil)
  rw [hie] at this
  exact this
theorem keep (h : LawAt w0 w B M X vp Y RS KS) (i : Nat) {g : Nat} {cs : Array Value} {t : TypeId} (hi : KS[i]? = some (g, cs, t)) : At w g cs t := by
  obtain ⟨hil, hie⟩ := List.getElem?_eq_some_iff.1 hi
  have := (h.kept _ (List.getElem_mem hil)).1
  rw [hie] at this
  exact this
/-- The i-th block's rows are told in other words. -/
theorem told (h : LawAt w0 w B M X vp Y RS KS) {i g : Nat} {F G : Nat → List UInt8} (hi : RS[i]? = some (g, F)) (hG : ∀ j, j < M → G j = F j) : LawAt w0 w B M X vp Y (RS.set i (g, G)) KS := by
  obtain ⟨hil, hie⟩ := List.getElem?_eq_some_iff.1 hi
  have hmem : (g, F) ∈ RS := hie ▸ List.getElem_mem hil
  refine ⟨fun p hp => ?_, h.kept, h.puts, h.hX, ?_, h.ksep, fun p hp => ?_, h.klow, h.hB, h.lowB, h.bel, h.xin⟩
  · obtain ⟨q, hq, rfl⟩ := List.getElem_of_mem hp
    rw [List.length_set] at hq
    rw [List.getElem_set]
    by_cases hqi : i = q
    · subst hqi
      rw [if_pos rfl]
      exact (h.rows _ hmem).congr hG
    · rw [if_neg hqi]
      exact h.rows _ (List.getElem_mem hq)
  · rw [List.pairwise_iff_getElem]
    intro a b ha hb hab
    rw [List.length_set] at ha hb
    have e : ∀ q (hq : q < (RS.set i (g, G)).length), ((RS.set i (g, G))[q]'hq).1 = (RS[q]'(by simpa using hq)).1 := fun q hq => by
      rw [List.getElem_set]
      by_cases hqi : i = q
      · subst hqi; rw [if_pos rfl, hie]
      · rw [if_neg hqi]
    rw [e, e]
    exact List.pairwise_iff_getElem.1 h.rsep a b ha hb hab
  · obtain ⟨q, hq, rfl⟩ := List.getElem_of_mem hp
    rw [List.length_set] at hq
    rw [List.getElem_set]
    by_cases hqi : i = q
    · subst hqi
      rw [if_pos rfl]
      exact h.rlow (g, F) hmem
    · rw [if_neg hqi]
      exact h.rlow _ (List.getElem_mem hq)

/-- No rows yet: whatever blocks are held apart. -/
theorem hold {Z : Nat → Prop} (h : LawAt w0 w B M X vp Y [] KS) (hv : ∀ k, vp.ownBlock = some k → Z k) (hz : ∀ k, Z k → w0.heap.size ≤ k ∧ k < w.heap.size) : LawAt w0 w B M Z vp Y [] KS :=
  ⟨fun p hp => (by cases hp), h.kept, h.puts, hv, h.rsep, h.ksep, h.rlow, h.klow, h.hB, h.lowB, h.bel, hz⟩
/-- A new other block, held apart. -/
theorem newHeld {g : Nat} {cs : Array Value} {t : TypeId} (h : LawAt w0 w B M X vp Y RS KS) (hb : Below w.heap.size w w') (ha : At w' g cs t) (hg : w.heap.size ≤ g) (ht1 : t ≠ 53) (ht2 : t ≠ 153) : LawAt w0 w' B M (fun k => X k ∨ k = g) vp Y RS ((g, cs, t) :: KS) := by
  have n := h.newKept hb ha hg ht1 ht2
  have m := h.more hb hg ha.lt
  exact ⟨m.rows, n.kept, n.puts, m.hX, n.rsep, n.ksep, n.rlow, n.klow, n.hB, n.lowB, n.bel, m.xin⟩

/-- What is laid in a block that is not there yet is off X. -/
theorem offNew {n : Nat} {e : TypeId} {u : Value} {l : List UInt8} {xs : List Value} {w2 : World} (h : LawAt w0 w B M X vp Y RS KS) (hu : w2.ownsRow w.heap.size e 1 u n xs) : Off X u l := Off.own hu fun k hk => (h.xin k hk).2
/-- .. and so is what was there ahead of all. -/
theorem offOld {u : Value} {l : List UInt8} (h : LawAt w0 w B M X vp Y RS KS) (hu : Seg w0 u l) : Off X u l := Off.fresh hu fun k hk => (h.xin k hk).1
end LawAt

/-- A row of bools. -/
def bcells (d : Nat → Bool) (M : Nat) : Array Value := ((List.range M).map fun i => Value.bool (d i)).toArray
theorem bcells_at (d : Nat → Bool) (M i : Nat) (h : i < M) : (bcells d M)[i]? = some (.bool (d i)) := by simp [bcells, h]
theorem bcells_zero (M : Nat) : (List.replicate (M * 1) (Value.bool false)).toArray = bcells (fun _ => false) M := by
  unfold bcells
  rw [Nat.mul_one]
  congr 1
  apply List.ext_getElem?
  intro i
  rw [List.getElem?_replicate, List.getElem?_map]
  by_cases hi : i < M <;> simp [hi]
theorem bcells_set (d : Nat → Bool) (M k : Nat) (b : Bool) : (bcells d M).setIfInBounds k (.bool b) = bcells (fun i => if i = k then b else d i) M := by
  apply Array.ext_getElem?
  intro i
  rw [Array.getElem?_setIfInBounds]
  have hs : (bcells d M).size = M := by simp [bcells]
  by_cases hi : i < M
  · rw [bcells_at _ _ _ hi, bcells_at _ _ _ hi]
    by_cases hk : k = i
    · subst hk; simp [hs, hi]
    · rw [if_neg hk, if_neg (Ne.symm hk)]
  · rw [Array.getElem?_eq_none (by rw [hs]; omega), Array.getElem?_eq_none (by simp [bcells]; omega), hs]
    by_cases hk : k = i
    · rw [if_pos hk, if_neg (by omega)]
    · rw [if_neg hk]
theorem bcells_congr {d e : Nat → Bool} {M : Nat} (h : ∀ i, i < M → d i = e i) : bcells d M = bcells e M := by
  unfold bcells
  congr 1
  exact List.map_congr_left fun i hi => by rw [h i (by simpa using hi)]
theorem bseg_of_at {w : World} {g M : Nat} {d : Nat → Bool} (h : At w g (bcells d M) 4) : BSeg w (.slice (some ⟨g, 0, none⟩) M M) d M :=
  ⟨_, _, rfl, .inr ⟨g, 0, rfl, h.lt, fun j hj => by rw [h.cell, Nat.zero_add]; exact bcells_at d M j hj⟩⟩
theorem slice_bools : SliceOf Tryz.prog 68 4 1 1 := SliceOf.mk' (z := .bool false) Tryz.underlying68 (by decide) (by kernel_rfl) rfl
theorem slice_rowsB : SliceOf Tryz.prog 38 53 1 24 := SliceOf.mk' (z := .slice none 0 0) Tryz.underlying38 (by decide) (by kernel_rfl) rfl

theorem seg_sec {w : World} {B : Nat} {v : Value} {l : List UInt8} (h : w.ownsRow B 5 1 v 128 (ucells l)) (hl : l.length = 128) : Seg w v l := seg_of_owns (by rw [hl]; exact h)

/-- A sector full of a number. -/
theorem sec13i (y : Int) (w : World) (h0 : 0 ≤ y) (h1 : y < 256) :
    Calls Tryz.prog 98 #[.int .u8 y] w fun e w' => e = .returned (.slice (some ⟨w.heap.size, 0, none⟩) 128 128) ∧ w'.ownsRow w.heap.size 5 1 (.slice (some ⟨w.heap.size, 0, none⟩) 128 128) 128 (ucells (secOf (UInt8.ofNat y.toNat))) ∧ Below w.heap.size w w' := by
  have h := sec13 (UInt8.ofNat y.toNat) w
  have e : (((UInt8.ofNat y.toNat).toNat : Nat) : Int) = y := by
    rw [UInt8.toNat_ofNat']
    omega
  rw [e] at h
  exact h

end Go.Proofs.YtpegbgomnpinfaaGreat
