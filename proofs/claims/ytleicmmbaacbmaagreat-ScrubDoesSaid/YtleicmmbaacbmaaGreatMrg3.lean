/- Several texts in one: DiskF, RfA. -/
import Derived.Test.YtleicmmbaacbmaaGreatDiskE
/- A disk: flushed, failed, read and written where it may not be. -/
set_option linter.unusedVariables false
namespace Go.Proofs.YtleicmmbaacbmaaGreat
open Go.RowKit

theorem settleTo_none (last : List Sec) (c : List (Nat × Sec)) : ∀ i, settleTo last c (fun _ => false) i = last
  | 0 => rfl
  | i + 1 => by
    show (match c[i]? with | some x => if false then (settleTo last c (fun _ => false) i).set x.1 x.2 else settleTo last c (fun _ => false) i | none => settleTo last c (fun _ => false) i) = last
    rw [settleTo_none last c i]
    split <;> rfl

theorem settleTo_cur (last : List Sec) (c : List (Nat × Sec)) (hin : ∀ x ∈ c, x.1 < last.length) (a : Nat) (ha : a < last.length) : ∀ i, i ≤ c.length →
    (settleTo last c (fun _ => true) i).getD a zsec = (waits (c.take i) (a : Int)).getD (last.getD a zsec)
  | 0, _ => by simp [settleTo, waits_nil]
  | i + 1, hi => by
    have hi' : i < c.length := hi
    have e : settleTo last c (fun _ => true) (i + 1) = (settleTo last c (fun _ => true) i).set c[i].1 c[i].2 := by
      show (match c[i]? with | some x => if true then (settleTo last c (fun _ => true) i).set x.1 x.2 else settleTo last c (fun _ => true) i | none => settleTo last c (fun _ => true) i) = _
      rw [List.getElem?_eq_getElem hi']
      rfl
    have ih := settleTo_cur last c hin a ha i (by omega)
    have et : c.take (i + 1) = c.take i ++ [(c[i].1, c[i].2)] := by rw [List.take_add_one, List.getElem?_eq_getElem hi']; rfl
    rw [e, et, waits_snoc, List.getD_eq_getElem?_getD, List.getElem?_set]
    by_cases h : c[i].1 = a
    · rw [if_pos h, if_pos (by rw [settleTo_length]; omega), if_pos (by exact_mod_cast h)]
      rfl
    · rw [if_neg h, if_neg (by exact_mod_cast h), ← ih, List.getD_eq_getElem?_getD]

/-- A disk with nothing that waits. -/
def Dsk.settled (d : Dsk) : Dsk := ⟨settleTo d.last d.cache (fun _ => true) d.cache.length, [], d.failed⟩
theorem settled_cur {W : World} {T : Nat → Nat} {t p : Nat} {d : Dsk} (h : DiskAt W T t p d) (a : Nat) (ha : a < d.last.length) : d.settled.cur a = d.cur a := by
  have := settleTo_cur d.last d.cache h.cin a ha d.cache.length (Nat.le_refl _)
  rw [List.take_length] at this
  unfold Dsk.cur Dsk.settled
  simp only [waits_nil, Option.getD_none]
  exact this

set_option maxHeartbeats 1000000 in
theorem yes_any (i : Nat) (w : World) : Calls Tryz.prog 105 #[.int .i64 i] w fun e w' => e = .returned (.bool true) ∧ Below w.heap.size w w' := by
  go_enter Tryz.func105, Tryz.ntmps105
  go_wp2
  go_ret
  exact ⟨rfl, Below.refl _ _⟩

set_option maxHeartbeats 1000000 in
theorem no_any (i : Nat) (w : World) : Calls Tryz.prog 101 #[.int .i64 i] w fun e w' => e = .returned (.bool false) ∧ Below w.heap.size w w' := by
  go_enter Tryz.func101, Tryz.ntmps101
  go_wp2
  go_ret
  exact ⟨rfl, Below.refl _ _⟩

set_option maxRecDepth 100000 in
set_option maxHeartbeats 2000000 in
theorem disk_flush (T : Nat → Nat) (t p : Nat) (d : Dsk) (w : World) (h : DiskAt w T t p d) (hf : d.failed = false) (hm : d.cache.length ≤ 1000000) :
    Calls Tryz.prog 98 #[.pointer (some ⟨p, 0, none⟩)] w fun e w' => e = .returned (.int .u16 0) ∧ DiskAt w' T t p d.settled ∧ Chg (fun k => T k = t) w w' := by
  have hs := Lib.hid (disk_settle_flush T t p d (fun _ => true) w h hm (fun i W _ _ => yes_any i W))
  obtain ⟨gl, gm, cv, f, h1, _⟩ := h.at'
  have c3 : w.cell? ⟨p, 3, none⟩ = some (.bool false) := by rw [← hf]; exact h1.cell 3
  clear h h1
  go_enter Tryz.func98, Tryz.ntmps98
  go_wp2_with (go_at_call 76; refine hs.out.mono ?_; rintro e w1 ⟨rfl, r1, r2⟩)
  go_ret
  exact ⟨rfl, r1, r2⟩

set_option maxHeartbeats 1000000 in
theorem disk_flush_bad (T : Nat → Nat) (t p : Nat) (d : Dsk) (w : World) (h : DiskAt w T t p d) (hf : d.failed = true) :
    Calls Tryz.prog 98 #[.pointer (some ⟨p, 0, none⟩)] w fun e w' => e = .returned (.int .u16 2) ∧ w' = w := by
  obtain ⟨gl, gm, cv, f, h1, _⟩ := h.at'
  have c3 : w.cell? ⟨p, 3, none⟩ = some (.bool true) := by rw [← hf]; exact h1.cell 3
  clear h h1
  go_enter Tryz.func98, Tryz.ntmps98
  go_wp2
  go_ret
  exact ⟨rfl, rfl⟩

set_option maxRecDepth 100000 in
set_option maxHeartbeats 2000000 in
theorem disk_fail (T : Nat → Nat) (t p : Nat) (d : Dsk) (w : World) (h : DiskAt w T t p d) (hm : d.cache.length ≤ 1000000) :
    Calls Tryz.prog 74 #[.pointer (some ⟨p, 0, none⟩)] w fun e w' => e = .returned (.tuple #[]) ∧ DiskAt w' T t p ⟨d.last, [], true⟩ ∧ Chg (fun k => T k = t) w w' := by
  obtain ⟨gl, gm, cv, f, h1, h2, h3, h4, h5, h6, h7, h8⟩ := h.at'
  have hset : Chg (fun k => k = p) w (w.setCell ⟨p, 3, none⟩ (.bool true)) := Chg.setCell (S := fun k => k = p) (Chg.refl _ _) ⟨p, 3, none⟩ (.inl rfl) _
  have hpr : cv.ownBlock ≠ some p := at_ne_row h1 h3 (by decide)
  have hpm : gm ≠ p := fun e => by subst e; exact h4.noCells h1
  have hlp : gl ≠ p := fun e => by
    have a := h1; have b := h2
    subst e
    unfold At at a b
    rw [a] at b
    simp only [Option.some.injEq, Obj.cells.injEq] at b
    exact absurd b.2.1 (by decide)
  have hd2 : DiskAt (w.setCell ⟨p, 3, none⟩ (.bool true)) T t p ⟨d.last, d.cache, true⟩ :=
    ⟨⟨gl, gm, cv, f, h1.set 3 (.bool true), h2.mod hset hlp, ownsRow_mod h3 hset (fun g hg e => hpr (e ▸ hg)), h4.mod hset hpm, h5, h6, h7, h8⟩, h.tag, h.len, h.clen, h.cin, h.few, h.some'⟩
  have hs := Lib.hid (disk_settle_fail T t p ⟨d.last, d.cache, true⟩ (fun _ => false) _ hd2 hm (fun i W _ _ => no_any i W))
  have hall : Chg (fun k => T k = t) w (w.setCell ⟨p, 3, none⟩ (.bool true)) := hset.mono fun k hk => by subst hk; exact h.tag
  have c3 : w.cell? ⟨p, 3, none⟩ = some (.bool d.failed) := h1.cell 3
  have f3 := h1.free 3
  clear h h1 h2 h3 h4 h5 hd2 hset
  go_enter Tryz.func74, Tryz.ntmps74
  go_wp2_with (go_at_call 76; refine hs.out.mono ?_; rintro e w1 ⟨rfl, r1, r2⟩)
  go_end0
  refine ⟨rfl, ?_, hall.trans r2⟩
  rw [settleTo_none] at r1
  exact r1

set_option maxRecDepth 100000 in
set_option maxHeartbeats 2000000 in
theorem disk_read_bad (T : Nat → Nat) (t p : Nat) (z : Int) (d : Dsk) (w : World) (h : DiskAt w T t p d) (hz : d.may z ≠ 0) :
    Calls Tryz.prog 109 #[.pointer (some ⟨p, 0, none⟩), .int .i64 z] w fun e w' => e = .returned (.tuple #[.slice none 0 0, .int .u16 (d.may z : Nat)]) ∧ w' = w := by
  have hmay := Lib.hid (disk_may T t p d z w h)
  have hne : (((d.may z : Nat) : Int) != 0) = true := by simp; omega
  clear h
  generalize d.may z = c at *
  go_enter Tryz.func109, Tryz.ntmps109
  go_wp2_with (go_at_call 84; refine hmay.out.mono ?_; rintro e w1 ⟨rfl, rfl⟩)
  go_ret2
  exact ⟨rfl, rfl⟩

set_option maxRecDepth 100000 in
set_option maxHeartbeats 2000000 in
theorem disk_write_bad (T : Nat → Nat) (t p : Nat) (z : Int) (v : Value) (d : Dsk) (w : World) (h : DiskAt w T t p d) (hz : d.may z ≠ 0) :
    Calls Tryz.prog 60 #[.pointer (some ⟨p, 0, none⟩), .int .i64 z, v] w fun e w' => e = .returned (.int .u16 (d.may z : Nat)) ∧ w' = w := by
  have hmay := Lib.hid (disk_may T t p d z w h)
  have hne : (((d.may z : Nat) : Int) != 0) = true := by simp; omega
  clear h
  generalize d.may z = c at *
  go_enter Tryz.func60, Tryz.ntmps60
  go_wp2_with (go_at_call 84; refine hmay.out.mono ?_; rintro e w1 ⟨rfl, rfl⟩)
  go_ret
  exact ⟨rfl, rfl⟩

set_option maxRecDepth 100000 in
set_option maxHeartbeats 2000000 in
theorem disk_write_long (T : Nat → Nat) (t p : Nat) (z : Int) (a : Option Addr) (n c : Nat) (d : Dsk) (w : World) (h : DiskAt w T t p d) (hz : d.may z = 0) (hn : n ≠ 128) :
    Calls Tryz.prog 60 #[.pointer (some ⟨p, 0, none⟩), .int .i64 z, .slice a n c] w fun e w' => e = .returned (.int .u16 4) ∧ w' = w := by
  have hmay := Lib.hid (disk_may T t p d z w h)
  rw [hz] at hmay
  have hne : ((n : Int) != 128) = true := by simp; omega
  clear h hz
  go_enter Tryz.func60, Tryz.ntmps60
  go_wp2_with (go_at_call 84; refine hmay.out.mono ?_; rintro e w1 ⟨rfl, rfl⟩)
  go_ret
  exact ⟨rfl, rfl⟩

end Go.Proofs.YtleicmmbaacbmaaGreat

/- The document's disk: how it lies in memory. -/
set_option linter.unusedVariables false
namespace Go.Proofs.YtleicmmbaacbmaaGreat
open Go.RowKit

theorem ownsRow_few {w : World} {B : Nat} {e : TypeId} {sz n : Nat} {v : Value} {xs : List Value} (h : w.ownsRow B e sz v n xs) : n ≤ 9223372036854775807 := by
  rcases h.2 with ⟨_, h0⟩ | ⟨g, cap, cur, hv, hb, hg, hc, hm, _⟩
  · omega
  · unfold maxLen at hm
    omega

theorem row_ne_row {w : World} {B B' : Nat} {e t : TypeId} {sz sz' n m g : Nat} {v u : Value} {xs ys : List Value} (h : w.ownsRow B e sz v n xs) (h' : w.ownsRow B' t sz' u m ys) (hne : e ≠ t) (hu : u.ownBlock = some g) : v.ownBlock ≠ some g := by
  rcases h'.2 with ⟨rfl, _⟩ | ⟨g', cap, cur, rfl, _, hg, _⟩
  · cases hu
  · simp only [Value.ownBlock, Option.some.injEq] at hu
    subst hu
    exact at_ne_row (cs := cur) hg h (fun e => hne e.symm)

/-- A write of the cache: its place, its bytes, their slice. -/
abbrev WV := Nat × Sec × Value
def rwcells (L : List WV) : List Value := L.flatMap fun x => [.int .i64 (x.1 : Int), x.2.2]
def wvs (L : List WV) : List (Nat × Sec) := L.map fun x => (x.1, x.2.1)

theorem rwcells_length (L : List WV) : (rwcells L).length = L.length * 2 := by
  induction L with
  | nil => rfl
  | cons x L ih =>
    unfold rwcells at ih ⊢
    rw [List.flatMap_cons, List.length_append, ih]
    show 2 + L.length * 2 = (L.length + 1) * 2
    omega
theorem rwcells_snoc (L : List WV) (x : WV) : rwcells (L ++ [x]) = rwcells L ++ [.int .i64 (x.1 : Int), x.2.2] := by simp [rwcells]
theorem rwcells_at (L : List WV) : ∀ (i : Nat) (hi : i < L.length), (rwcells L)[i * 2]? = some (.int .i64 ((L[i].1 : Nat) : Int)) ∧ (rwcells L)[i * 2 + 1]? = some L[i].2.2 := by
  induction L with
  | nil => intro i hi; simp at hi
  | cons x L ih =>
    intro i hi
    match i with
    | 0 => exact ⟨rfl, rfl⟩
    | i + 1 =>
      obtain ⟨h1, h2⟩ := ih i (by simpa using hi)
      refine ⟨?_, ?_⟩
      · rw [show (i + 1) * 2 = i * 2 + 1 + 1 by omega]
        exact h1
      · rw [show (i + 1) * 2 + 1 = i * 2 + 1 + 1 + 1 by omega]
        exact h2
theorem wvs_snoc (L : List WV) (x : WV) : wvs (L ++ [x]) = wvs L ++ [(x.1, x.2.1)] := by simp [wvs]
theorem wvs_length (L : List WV) : (wvs L).length = L.length := by simp [wvs]

structure RDiskIn (W : World) (D : Nat → Prop) (p : Nat) (d : Dsk) (lv cv : Value) (L : List WV) : Prop where
  dsk : At W p #[lv, cv, .bool d.failed] 139
  last : W.ownsRow 0 5 1 lv (d.last.length * 128) (secCells d.last)
  cache : W.ownsRow 0 148 2 cv L.length (rwcells L)
  eq : d.cache = wvs L
  data : ∀ x ∈ L, W.ownsRow 0 5 1 x.2.2 128 (ucells x.2.1)
  inP : D p
  inL : ∀ g, lv.ownBlock = some g → D g
  inC : ∀ g, cv.ownBlock = some g → D g
  inD : ∀ x ∈ L, ∀ g, x.2.2.ownBlock = some g → D g
  lt : ∀ g, D g → g < W.heap.size
  len : ∀ s ∈ d.last, s.length = 128
  clen : ∀ x ∈ d.cache, x.2.length = 128
  cin : ∀ x ∈ d.cache, x.1 < d.last.length
  few : d.last.length ≤ 8192
  some' : 0 < d.last.length

/-- The document's disk d in block p; all its blocks are of D. -/
def RDisk (W : World) (D : Nat → Prop) (p : Nat) (d : Dsk) : Prop := ∃ lv cv L, RDiskIn W D p d lv cv L

theorem RDiskIn.keep {S : Nat → Prop} {W W' : World} {D : Nat → Prop} {p : Nat} {d : Dsk} {lv cv : Value} {L : List WV} (h : RDiskIn W D p d lv cv L) (hc : Chg S W W') (hS : ∀ k, D k → ¬ S k) : RDiskIn W' D p d lv cv L :=
  ⟨h.dsk.mod hc (hS p h.inP), ownsRow_chg h.last hc (fun g hg => hS g (h.inL g hg)), ownsRow_chg h.cache hc (fun g hg => hS g (h.inC g hg)), h.eq,
    fun x hx => ownsRow_chg (h.data x hx) hc (fun g hg => hS g (h.inD x hx g hg)), h.inP, h.inL, h.inC, h.inD, fun g hg => Nat.lt_of_lt_of_le (h.lt g hg) hc.size, h.len, h.clen, h.cin, h.few, h.some'⟩

theorem RDisk.keep {S : Nat → Prop} {W W' : World} {D : Nat → Prop} {p : Nat} {d : Dsk} (h : RDisk W D p d) (hc : Chg S W W') (hS : ∀ k, D k → ¬ S k) : RDisk W' D p d := by
  obtain ⟨lv, cv, L, h⟩ := h
  exact ⟨lv, cv, L, h.keep hc hS⟩

theorem RDisk.below {W W' : World} {D : Nat → Prop} {p : Nat} {d : Dsk} (h : RDisk W D p d) (hb : Below W.heap.size W W') : RDisk W' D p d :=
  h.keep (Chg.ofBelow hb (fun _ => False)) (fun _ _ h => h)

theorem RDisk.lt {W : World} {D : Nat → Prop} {p : Nat} {d : Dsk} (h : RDisk W D p d) : ∀ g, D g → g < W.heap.size := by
  obtain ⟨_, _, _, h⟩ := h
  exact h.lt
theorem RDisk.inP {W : World} {D : Nat → Prop} {p : Nat} {d : Dsk} (h : RDisk W D p d) : D p := by
  obtain ⟨_, _, _, h⟩ := h
  exact h.inP
theorem RDisk.len {W : World} {D : Nat → Prop} {p : Nat} {d : Dsk} (h : RDisk W D p d) : ∀ s ∈ d.last, s.length = 128 := by
  obtain ⟨_, _, _, h⟩ := h
  exact h.len

/-- What a change of the document's disk leaves. -/
def RDPost (w : World) (D : Nat → Prop) (p : Nat) (d' : Dsk) (w' : World) : Prop :=
  ∃ D', RDisk w' D' p d' ∧ (∀ q, D' q → D q ∨ w.heap.size ≤ q) ∧ Chg D w w'

theorem secCells_append (l m : List Sec) : secCells (l ++ m) = secCells l ++ secCells m := by simp [secCells]
theorem secCells_one (l : List Sec) : ∀ u ∈ secCells l, u.oneCell' = true := by
  intro u hu
  simp only [secCells, List.mem_flatMap] at hu
  obtain ⟨s, _, hs⟩ := hu
  exact ucells_one s u hs

/-- A sector's place among the cells. -/
theorem secCells_mid {l : List Sec} (h : ∀ s ∈ l, s.length = 128) {i : Nat} (hi : i < l.length) (j : Nat) (hj : j < 128) : (secCells l)[128 * i + j]? = (ucells l[i])[j]? := by
  rw [show 128 * i + j = i * 128 + j by omega]
  exact secCells_at h i j hi hj

/-- A sector put in another's place. -/
theorem secCells_put {l : List Sec} (h : ∀ s ∈ l, s.length = 128) {i : Nat} (hi : i < l.length) (s : Sec) :
    secCells (l.set i s) = (secCells l).take (128 * i) ++ ucells s ++ (secCells l).drop (128 * i + 128) := by
  have e : l.set i s = l.take i ++ s :: l.drop (i + 1) := by
    rw [List.set_eq_take_append_cons_drop, if_pos hi]
  have e0 : l = l.take i ++ l[i] :: l.drop (i + 1) := by
    rw [List.getElem_cons_drop, List.take_append_drop]
  have hl : (secCells (l.take i)).length = 128 * i := by
    rw [secCells_length (fun x hx => h x (List.mem_of_mem_take hx)), List.length_take]
    omega
  have hm : (ucells l[i]).length = 128 := by rw [ucells_length]; exact h _ (List.getElem_mem hi)
  have e1 : secCells l = secCells (l.take i) ++ (ucells l[i] ++ secCells (l.drop (i + 1))) := by
    conv => lhs; rw [e0]
    rw [secCells_append]
    rfl
  have e2 : secCells (s :: l.drop (i + 1)) = ucells s ++ secCells (l.drop (i + 1)) := rfl
  rw [e, secCells_append, e1, e2]
  generalize secCells (l.take i) = A at *
  generalize secCells (l.drop (i + 1)) = B at *
  generalize ucells l[i] = M at *
  have t1 : (A ++ (M ++ B)).take (128 * i) = A := by rw [← hl, List.take_left]
  have t2 : (A ++ (M ++ B)).drop (128 * i + 128) = B := by
    rw [← List.append_assoc]
    have h3 : (A ++ M).length = 128 * i + 128 := by rw [List.length_append, hl, hm]
    rw [← h3, List.drop_left]
  rw [t1, t2, List.append_assoc]

/-- An owned row of bytes of sectors, with its block. -/
theorem RDiskIn.rows {W : World} {D : Nat → Prop} {p : Nat} {d : Dsk} {lv cv : Value} {L : List WV} (h : RDiskIn W D p d lv cv L) :
    ∃ g c, lv = .slice (some ⟨g, 0, none⟩) (d.last.length * 128) c ∧ g < W.heap.size ∧ d.last.length * 128 ≤ c ∧ ∀ j, j < d.last.length * 128 → W.cell? ⟨g, j, none⟩ = (secCells d.last)[j]? := by
  have h2 := h.some'
  obtain ⟨g, c, h3, _, h4, h5, _⟩ := ownsRow_cell h.last (by omega)
  refine ⟨g, c, h3, h4, ?_, fun j hj => h5 j hj⟩
  obtain ⟨_, hh⟩ := h.last
  rcases hh with ⟨_, hh⟩ | ⟨g', cap, cur, hv, _, _, hc', _⟩
  · omega
  · rw [h3] at hv
    simp only [Value.slice.injEq] at hv
    omega

/-- One sector of them. -/
theorem RDiskIn.sec {W : World} {D : Nat → Prop} {p : Nat} {d : Dsk} {lv cv : Value} {L : List WV} (h : RDiskIn W D p d lv cv L) {g c : Nat} (hv : lv = .slice (some ⟨g, 0, none⟩) (d.last.length * 128) c) {i : Nat} (hi : i < d.last.length) (k : Nat) (hk : 128 ≤ k) :
    Seg W (.slice (some ⟨g, 128 * i, none⟩) 128 k) d.last[i] := by
  have hl := h.len _ (List.getElem_mem hi)
  obtain ⟨g', c', hv', hg', hc', hcell⟩ := h.rows
  rw [hv] at hv'
  simp only [Value.slice.injEq, Option.some.injEq, Addr.mk.injEq, true_and] at hv'
  obtain ⟨⟨rfl, -⟩, -⟩ := hv'
  refine ⟨some ⟨g, 128 * i, none⟩, k, by rw [hl], ⟨fun e => by simp at e, by omega⟩, .inr ⟨g, 128 * i, rfl, hg', fun j hj => ?_⟩⟩
  rw [hcell _ (by omega), secCells_mid h.len hi j (by omega)]
  simp [ucells, hj]

end Go.Proofs.YtleicmmbaacbmaaGreat
