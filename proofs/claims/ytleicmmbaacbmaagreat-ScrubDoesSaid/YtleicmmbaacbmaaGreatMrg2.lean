/- Several texts in one: IMap, DiskA. -/
import Derived.Test.YtleicmmbaacbmaaGreatMrg1
import Derived.Maps.OwnSet
import Derived.Maps.OwnOps
import Derived.MapFrom
import Derived.Test.YtleicmmbaacbmaaGreatRows
import Derived.WalkSpells
import Derived.WalkLawsBesides
import Derived.Lib.Hide
import Derived.Deep.QuietTactic
import Derived.BigQuiet
import Derived.Deep.RegionHeld3
import Derived.Deep.RegionWith
/- A map from numbers to numbers that the call has made, told as a function. No program in sight. -/
set_option linter.unusedVariables false
namespace Go
open Go.RowKit Go.Maps Go.ChangeMaps Go.MapKept

/-- Block b is a map of at most n entries; f says what each number leads to. -/
def World.imap (w : World) (P : Program) (k e : TypeId) (b n : Nat) (f : Int → Option Int) : Prop :=
  ∃ D : DataW Unit, w.ownsMap P k (plainElem P e) b n D ∧ ∀ z, (Lit.int .i64 z).wf = true → Go.Maps.has D (.int .i64 z) = (f z).isSome ∧ ∀ v, f z = some v → D.atKey (.int .i64 z) (.lit (.int .i64 0)) = .lit (.int .i64 v)

section
variable {P : Program} {k e : TypeId} {w w' : World} {b n : Nat} {f : Int → Option Int}

theorem World.imap.lt (h : w.imap P k e b n f) : b < w.heap.size := by
  obtain ⟨D, h, _⟩ := h
  exact h.lt

theorem World.imap_made (w : World) (P : Program) (k e : TypeId) : (w.alloc (.map #[] 0)).imap P k e w.heap.size 0 (fun _ => none) :=
  ⟨.map [], World.ownsMap_made w P k _, fun z _ => ⟨rfl, fun v h => by cases h⟩⟩

theorem World.imap.mod {S : Nat → Prop} (h : w.imap P k e b n f) (hc : Chg S w w') (hS : ¬ S b) : w'.imap P k e b n f := by
  obtain ⟨D, ⟨es, clock, h1, h2⟩, h3⟩ := h
  exact ⟨D, ⟨es, clock, (hc.block b (lt_of_block h1) hS).trans h1, h2⟩, h3⟩

theorem World.imap.mono (h : w.imap P k e b n f) {m : Nat} (hm : n ≤ m) : w.imap P k e b m f := by
  obtain ⟨D, h1, h3⟩ := h
  exact ⟨D, h1.mono hm, h3⟩

/-- It is a map's block: no cells lie there. -/
theorem World.imap.noCells (h : w.imap P k e b n f) {cs : Array Value} {t : TypeId} : ¬ At w b cs t := by
  intro ha
  obtain ⟨D, ⟨es, clock, h1, _⟩, _⟩ := h
  unfold At at ha
  rw [h1] at ha
  cases ha

theorem World.imap.noRow (h : w.imap P k e b n f) {B : Nat} {t : TypeId} {sz : Nat} {v : Value} {m : Nat} {xs : List Value} (hr : w.ownsRow B t sz v m xs) : v.ownBlock ≠ some b := by
  intro hv
  rcases hr.2 with ⟨rfl, _⟩ | ⟨g, cap, cur, rfl, _, hg, _⟩
  · cases hv
  · simp only [Value.ownBlock, Option.some.injEq] at hv
    subst hv
    exact h.noCells hg

theorem World.imap.noCell (h : w.imap P k e b n f) {o : Nat} {u : Value} : w.cell? ⟨b, o, none⟩ ≠ some u := by
  intro hc
  obtain ⟨D, ⟨es, clock, h1, _⟩, _⟩ := h
  simp [World.cell?, h1] at hc

theorem mapTurned_chg {b : Nat} (h : w.mapTurned w' b) : Chg (fun x => x = b) w w' :=
  Chg.ofGrown (World.mapTurned.grown h) (fun x hx => .inl (by simpa using hx.symm))

section
variable {ops : Array Oper} {rest : List Oper} {o : Oper} {a : Act} {Q : Exit → Act → World → Prop}

/-- 'v, ok := m[x]'. -/
theorem wpList_imap_look (hg : o.guard = none) (m x : Operand) (t : TypeId) (hop : o.op = Op.lookup t m x true) (ht : P.underlying t = some (.map k e)) (hk : P.underlying k = some (.int .i64)) (he : P.underlying e = some (.int .i64)) (hz : (zeroValue e).run P w = .ok (.int .i64 0) w)
    (hm : a.eval m = .map (some b)) (hown : w.imap P k e b n f) (z : Int) (hx : a.eval x = .int .i64 z) (hwf : (Lit.int .i64 z).wf = true)
    (hK : wpList P ops Q rest (a.put o.dst (.tuple #[.int .i64 ((f z).getD 0), .bool (f z).isSome])) w) (hK0 : f z = none → ∀ c, wpList P ops Q rest (a.put o.dst (.tuple #[.int .i64 c, .bool false])) w) :
    wpList P ops Q (o :: rest) a w := by
  obtain ⟨D, h1, h2⟩ := hown
  refine wpList_lookup_own_ok_int w hg m x t hop k e .i64 (int_keyed hk) ht he hz b n D hm h1 (.int .i64 z) (.int .i64 z) hx (keyOf_int_mk hk hwf) fun c hc hwc => ?_
  obtain ⟨h3, h4⟩ := h2 z hwf
  rw [h3]
  cases hf : f z with
  | none => exact hK0 hf c
  | some v =>
    rw [hf] at hK
    have := h4 v hf
    rw [this] at hc
    simp only [DataW.lit.injEq, Lit.int.injEq, true_and] at hc
    subst hc
    exact hK

/-- 'v, ok := m[x]', it being there. -/
theorem wpList_imap_some (hg : o.guard = none) (m x : Operand) (t : TypeId) (hop : o.op = Op.lookup t m x true) (ht : P.underlying t = some (.map k e)) (hk : P.underlying k = some (.int .i64)) (he : P.underlying e = some (.int .i64)) (hz : (zeroValue e).run P w = .ok (.int .i64 0) w)
    (hm : a.eval m = .map (some b)) (hown : w.imap P k e b n f) (z v : Int) (hx : a.eval x = .int .i64 z) (hwf : (Lit.int .i64 z).wf = true) (hf : f z = some v)
    (hK : wpList P ops Q rest (a.put o.dst (.tuple #[.int .i64 v, .bool true])) w) : wpList P ops Q (o :: rest) a w :=
  wpList_imap_look hg m x t hop ht hk he hz hm hown z hx hwf (by rw [hf]; exact hK) (fun h => by rw [hf] at h; cases h)

/-- .. it not being there. -/
theorem wpList_imap_none (hg : o.guard = none) (m x : Operand) (t : TypeId) (hop : o.op = Op.lookup t m x true) (ht : P.underlying t = some (.map k e)) (hk : P.underlying k = some (.int .i64)) (he : P.underlying e = some (.int .i64)) (hz : (zeroValue e).run P w = .ok (.int .i64 0) w)
    (hm : a.eval m = .map (some b)) (hown : w.imap P k e b n f) (z : Int) (hx : a.eval x = .int .i64 z) (hwf : (Lit.int .i64 z).wf = true) (hf : f z = none)
    (hK : ∀ c, wpList P ops Q rest (a.put o.dst (.tuple #[.int .i64 c, .bool false])) w) : wpList P ops Q (o :: rest) a w :=
  wpList_imap_look hg m x t hop ht hk he hz hm hown z hx hwf (by rw [hf]; exact hK 0) (fun _ => hK)

/-- 'm[x] = v'. -/
theorem wpList_imap_set (hg : o.guard = none) (m x v : Operand) (t : TypeId) (hop : o.op = Op.mapUpdate t m x v) (ht : P.underlying t = some (.map k e)) (hk : P.underlying k = some (.int .i64)) (he : P.underlying e = some (.int .i64))
    (hm : a.eval m = .map (some b)) (hown : w.imap P k e b n f) (hn : n < maxLen) (z y : Int) (hx : a.eval x = .int .i64 z) (hv : a.eval v = .int .i64 y) (hwf : (Lit.int .i64 z).wf = true) (hwy : (Lit.int .i64 y).wf = true)
    (hK : ∀ w', w'.imap P k e b (n + 1) (fun i => if i = z then some y else f i) → Chg (fun x => x = b) w w' → wpList P ops Q rest (a.put o.dst undef) w') :
    wpList P ops Q (o :: rest) a w := by
  obtain ⟨D, h1, h2⟩ := hown
  refine wpList_mapUpdate_in w hg m x v t hop k e (int_keyed hk) ht (plainElem P e) b n D hm h1 hn (.int .i64 z) (.int .i64 y) (.int .i64 z) hx hv (keyOf_int_mk hk hwf) (.lit (.int .i64 y)) [] (plainElem_int he hwy) fun w' h3 h4 => ?_
  refine hK w' ⟨_, h3, fun i hi => ?_⟩ (mapTurned_chg h4)
  by_cases hiz : i = z
  · subst hiz
    simp only [if_pos]
    refine ⟨Go.Maps.has_put_same (k := .int .i64 i) h1.isMap trivial _, fun v hv => ?_⟩
    cases hv
    exact Go.Maps.atKey_put_same (k := .int .i64 i) h1.isMap trivial _ _
  · simp only [if_neg hiz]
    have hne : (Lit.int .i64 i) ≠ Lit.int .i64 z := fun h => hiz (by simpa using h)
    obtain ⟨k1, k2⟩ := h2 i hi
    exact ⟨(Go.Maps.has_put_other hne _).trans k1, fun v hv => (Go.Maps.atKey_put_other hne _ _).trans (k2 v hv)⟩

/-- 'clear(m)'. -/
theorem wpList_imap_clear (hg : o.guard = none) (m : Operand) (t : TypeId) (hop : o.op = Op.call { callee := Callee.builtin Builtin.clear, args := #[m], argTypes := #[t] }) (ht : P.underlying t = some (.map k e))
    (hm : a.eval m = .map (some b)) (hown : w.imap P k e b n f)
    (hK : ∀ w', w'.imap P k e b 0 (fun _ => none) → Chg (fun x => x = b) w w' → wpList P ops Q rest (a.put o.dst (.tuple #[])) w') :
    wpList P ops Q (o :: rest) a w := by
  obtain ⟨D, ⟨es, clock, hb, hF, hs, hD⟩, h2⟩ := hown
  refine wpList_plain hg fun K' hK' => ?_
  have hrun : (Builtin.clear_ #[t] o.type #[.map (some b)]).run P w = .ok (.tuple #[]) { w with heap := w.heap.setIfInBounds b (.map #[] clock) } := by
    simp [Builtin.clear_, run_underlying ht, MapKept.run_getObj_map hb, MapKept.run_setObj_map _ hb, Result.andThen]
  unfold Oper.wp
  simp [execOp, hop, resolve, invoke, builtin, hm, hrun, Result.andThen]
  refine hK' _ _ (hK _ ⟨.map [], ⟨#[], clock, ?_, ⟨by simp, stamped_empty clock, by simp⟩, Nat.le_refl _, rfl⟩, fun z _ => ⟨rfl, fun v h => by cases h⟩⟩ ?_)
  · have hlt := lt_of_block hb
    simp [hlt]
  · refine ⟨rfl, rfl, rfl, by simp, fun x hx hne => ?_⟩
    simp [Ne.symm hne]
end
end
end Go

/- A disk of sectors: what it has, and how it lies in memory. -/
set_option linter.unusedVariables false
namespace Go
open Go.RowKit

section
variable {P : Program}
/-- 'make([]T, n)', an element being sz cells of one and the same value. -/
theorem wpList_make_same {ops : Array Oper} {rest : List Oper} {o : Oper} {a : Act} {Q : Exit → Act → World → Prop} {w : World} (hg : o.guard = none) (l c : Operand) (t e : TypeId) (sz bytes : Nat)
    (hop : o.op = Op.makeSlice t l c) (hT : SliceOf P t e sz bytes) (u : Value) (hz : ((P.info? e).bind (·.zero)).map (·.cells) = some (List.replicate sz u).toArray)
    (kl kc : IntKind) (L C : Int) (n : Nat) (hl : a.eval l = .int kl L) (hc : a.eval c = .int kc C) (hL : L = (n : Int)) (hC : C = (n : Int))
    (b2 : bytes * n ≤ 281474976710656) (b3 : n ≤ maxLen)
    (hK : ∀ w', At w' w.heap.size (List.replicate (n * sz) u).toArray e → Below w.heap.size w w' → wpList P ops Q rest (a.put o.dst (.slice (some ⟨w.heap.size, 0, none⟩) n n)) w') :
    wpList P ops Q (o :: rest) a w := by
  obtain ⟨h1, h0, i, z', h2, h3, h4, h5, h6⟩ := hT
  have hcells : z'.cells = (List.replicate sz u).toArray := by
    rw [h2] at hz
    simpa [h3] using hz
  refine wpList_make_full w hg l c t hop w.heap.size e i z' sz h1 h2 h3 h4 kl kc L C n hl hc hL hC (by rw [h5]; exact b2) b3 (Nat.le_refl _) fun w' hown hgr => hK w' ?_ ?_
  · obtain ⟨hlen, hh⟩ := hown
    rcases hh with ⟨hh, _⟩ | ⟨g', cap, cur, hv, hb, hg', hc', _, hs, ht⟩
    · cases hh
    · simp only [Value.slice.injEq, Option.some.injEq, Addr.mk.injEq] at hv
      obtain ⟨⟨rfl, _, _⟩, _, rfl⟩ := hv
      have e1 : cur.toList = List.replicate (n * sz) u := by
        rw [List.take_of_length_le (by simp [hs])] at ht
        rw [ht]
        apply List.ext_getElem?
        intro j
        rw [List.getElem?_replicate, hcells]
        by_cases hj : j < n * sz
        · have hm : j % sz < sz := Nat.mod_lt _ h0
          simp [madeCells, hj, hm]
        · simp [madeCells, hj]
      rw [← e1, Array.toArray_toList]
      exact hg'
  · exact (Below.refl _ _).grown hgr (Nat.le_refl _) (fun k hk => by simp at hk)
end
end Go

namespace Go.Proofs.YtleicmmbaacbmaaGreat
open Go.RowKit

abbrev Sec := List UInt8
def zsec : Sec := List.replicate 128 0

/-- A disk: its sectors, what waits in its cache, whether it has failed. -/
structure Dsk where
  last : List Sec
  cache : List (Nat × Sec)
  failed : Bool

/-- The last that waits for a sector. -/
def waits (c : List (Nat × Sec)) (z : Int) : Option Sec := (c.reverse.find? (fun x => decide ((x.1 : Int) = z))).map (·.2)

theorem waits_nil (z : Int) : waits [] z = none := rfl
theorem waits_snoc (c : List (Nat × Sec)) (a : Nat) (s : Sec) (z : Int) : waits (c ++ [(a, s)]) z = if (a : Int) = z then some s else waits c z := by
  unfold waits
  rw [List.reverse_append]
  simp only [List.reverse_cons, List.reverse_nil, List.nil_append, List.singleton_append, List.find?_cons]
  by_cases h : (a : Int) = z <;> simp [h]

/-- What a sector reads as. -/
def Dsk.cur (d : Dsk) (at' : Nat) : Sec := (waits d.cache (at' : Int)).getD (d.last.getD at' zsec)

/-- f leads each number to the last write of the cache that goes there. -/
def Seen (c : List (Nat × Sec)) (f : Int → Option Int) : Prop := ∀ z, (f z = none → waits c z = none) ∧ (∀ i, f z = some i → ∃ (j : Nat) (h : j < c.length), i = j ∧ waits c z = some c[j].2)

theorem Seen.nil : Seen [] (fun _ => none) := fun z => ⟨fun _ => rfl, fun i h => by cases h⟩

theorem Seen.snoc {c : List (Nat × Sec)} {f : Int → Option Int} (h : Seen c f) (a : Nat) (s : Sec) : Seen (c ++ [(a, s)]) (fun i => if i = (a : Int) then some (c.length : Int) else f i) := fun z => by
  rw [waits_snoc]
  by_cases hz : z = (a : Int)
  · subst hz
    simp only [if_pos]
    exact ⟨fun h => (by cases h), fun i hi => ⟨c.length, by simp, by simpa using hi.symm, by simp⟩⟩
  · have e1 : (fun i => if i = (a : Int) then some (c.length : Int) else f i) z = f z := if_neg hz
    rw [e1, if_neg (fun e => hz e.symm)]
    refine ⟨(h z).1, fun i hi => ?_⟩
    obtain ⟨j, hj, h1, h2⟩ := (h z).2 i hi
    refine ⟨j, by simp; omega, h1, ?_⟩
    rw [h2, List.getElem_append_left hj]

def secCells (l : List Sec) : List Value := l.flatMap ucells
def wcell (x : Nat × Sec) : List Value := .int .i64 (x.1 : Int) :: ucells x.2
def wcells (l : List (Nat × Sec)) : List Value := l.flatMap wcell

theorem secCells_length {l : List Sec} (h : ∀ s ∈ l, s.length = 128) : (secCells l).length = l.length * 128 := by
  induction l with
  | nil => rfl
  | cons s l ih =>
    unfold secCells at ih ⊢
    rw [List.flatMap_cons, List.length_append, ih (fun x hx => h x (List.mem_cons_of_mem _ hx)), ucells_length, h s List.mem_cons_self, List.length_cons]
    omega

theorem secCells_at {l : List Sec} (h : ∀ s ∈ l, s.length = 128) (i j : Nat) (hi : i < l.length) (hj : j < 128) : (secCells l)[i * 128 + j]? = (ucells l[i])[j]? := by
  induction l generalizing i with
  | nil => simp at hi
  | cons s l ih =>
    have hs : (ucells s).length = 128 := by rw [ucells_length, h s List.mem_cons_self]
    show (ucells s ++ secCells l)[i * 128 + j]? = _
    match i with
    | 0 => rw [List.getElem?_append_left (by omega)]; simp
    | i + 1 =>
      rw [List.getElem?_append_right (by omega), hs, show (i + 1) * 128 + j - 128 = i * 128 + j by omega, ih (fun x hx => h x (List.mem_cons_of_mem _ hx)) i (by simpa using hi)]
      simp

theorem secCells_replicate (n : Nat) : secCells (List.replicate n zsec) = List.replicate (n * 128) (.int .u8 0) := by
  induction n with
  | zero => rfl
  | succ n ih =>
    have e : ucells zsec = List.replicate 128 (.int .u8 0) := by unfold ucells zsec; rw [List.map_replicate]; rfl
    show ucells zsec ++ secCells (List.replicate n zsec) = _
    rw [ih, e, List.replicate_append_replicate]
    congr 1
    omega

theorem slice_sectors : SliceOf Tryz.prog 132 152 128 128 :=
  SliceOf.mk' (z := .agg (List.replicate 128 (.int .u8 0)).toArray) Tryz.underlying132 (by decide) (by kernel_rfl) (by kernel_rfl)
theorem zero_sector : ((Tryz.prog.info? 152).bind (·.zero)).map (·.cells) = some (List.replicate 128 (.int .u8 0)).toArray := by kernel_rfl

/-- The disk d in block p; all its blocks bear the tag t. -/
structure DiskAt (W : World) (T : Nat → Nat) (t p : Nat) (d : Dsk) : Prop where
  at' : ∃ (gl gm : Nat) (cv : Value) (f : Int → Option Int), At W p #[.slice (some ⟨gl, 0, none⟩) d.last.length d.last.length, cv, .map (some gm), .bool d.failed] 136 ∧
    At W gl (secCells d.last).toArray 152 ∧ W.ownsRow 0 176 129 cv d.cache.length (wcells d.cache) ∧
    W.imap Tryz.prog 3 3 gm d.cache.length f ∧ Seen d.cache f ∧ T gl = t ∧ T gm = t ∧ (∀ g, cv.ownBlock = some g → T g = t)
  tag : T p = t
  len : ∀ s ∈ d.last, s.length = 128
  clen : ∀ x ∈ d.cache, x.2.length = 128
  cin : ∀ x ∈ d.cache, x.1 < d.last.length
  few : d.last.length ≤ 8192
  some' : 0 < d.last.length

theorem DiskAt.keep {S : Nat → Prop} {W W' : World} {T : Nat → Nat} {t p : Nat} {d : Dsk} (h : DiskAt W T t p d) (hc : Chg S W W') (hS : ∀ k, T k = t → ¬ S k) : DiskAt W' T t p d := by
  obtain ⟨gl, gm, cv, f, h1, h2, h3, h4, h5, h6, h7, h8⟩ := h.at'
  exact ⟨⟨gl, gm, cv, f, h1.mod hc (hS p h.tag), h2.mod hc (hS gl h6), ownsRow_mod h3 hc (fun g hg => hS g (h8 g hg)), h4.mod hc (hS gm h7), h5, h6, h7, h8⟩, h.tag, h.len, h.clen, h.cin, h.few, h.some'⟩

theorem DiskAt.below {W W' : World} {T : Nat → Nat} {t p : Nat} {d : Dsk} (h : DiskAt W T t p d) (hb : Below W.heap.size W W') : DiskAt W' T t p d :=
  h.keep (Chg.ofBelow hb (fun _ => False)) (fun _ _ h => h)

/-- The tags of blocks that are not there yet may be chosen. -/
theorem DiskAt.retag {W : World} {T T' : Nat → Nat} {t p : Nat} {d : Dsk} (h : DiskAt W T t p d) (hT : ∀ g, g < W.heap.size → T' g = T g) : DiskAt W T' t p d := by
  obtain ⟨gl, gm, cv, f, h1, h2, h3, h4, h5, h6, h7, h8⟩ := h.at'
  exact ⟨⟨gl, gm, cv, f, h1, h2, h3, h4, h5, by rw [hT gl h2.lt]; exact h6, by rw [hT gm h4.lt]; exact h7, fun g hg => by rw [hT g (h3.lt g hg).2]; exact h8 g hg⟩, by rw [hT p h1.lt]; exact h.tag, h.len, h.clen, h.cin, h.few, h.some'⟩

/-- What 'may' answers. -/
def Dsk.may (d : Dsk) (z : Int) : Nat := if d.failed then 2 else if z < 0 ∨ (d.last.length : Int) ≤ z then 3 else 0

set_option maxHeartbeats 1000000 in
theorem disk_may (T : Nat → Nat) (t p : Nat) (d : Dsk) (z : Int) (w : World) (h : DiskAt w T t p d) :
    Calls Tryz.prog 84 #[.pointer (some ⟨p, 0, none⟩), .int .i64 z] w fun e w' => e = .returned (.int .u16 (d.may z : Nat)) ∧ w' = w := by
  obtain ⟨gl, gm, cv, f, h1, _⟩ := h.at'
  have hfew := h.few
  have c0 : w.cell? ⟨p, 0, none⟩ = some (.slice (some ⟨gl, 0, none⟩) d.last.length d.last.length) := h1.cell 0
  have c3 : w.cell? ⟨p, 3, none⟩ = some (.bool d.failed) := h1.cell 3
  clear h1 h
  unfold Dsk.may
  cases hf : d.failed
  · rw [hf] at c3
    generalize d.last.length = n at *
    by_cases hz : z < 0
    · rw [if_neg (by simp), if_pos (.inl hz)]
      go_enter Tryz.func84, Tryz.ntmps84
      go_wp2
      go_ret
      exact ⟨rfl, rfl⟩
    · by_cases hn : (n : Int) ≤ z
      · rw [if_neg (by simp), if_pos (.inr hn)]
        go_enter Tryz.func84, Tryz.ntmps84
        go_wp2
        go_ret
        exact ⟨rfl, rfl⟩
      · rw [if_neg (by simp), if_neg (by omega)]
        go_enter Tryz.func84, Tryz.ntmps84
        go_wp2
        go_ret
        exact ⟨rfl, rfl⟩
  · rw [hf] at c3
    rw [if_pos rfl]
    go_enter Tryz.func84, Tryz.ntmps84
    go_wp2
    go_ret
    exact ⟨rfl, rfl⟩

end Go.Proofs.YtleicmmbaacbmaaGreat
