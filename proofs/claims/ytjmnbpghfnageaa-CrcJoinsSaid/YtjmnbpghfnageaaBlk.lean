/- Blocks of cells, known whole: what a load, a store, a new block and a call leave of them. No program in sight. -/
import Derived.WalkKit
import Derived.Deep.WholeRow
import Derived.Deep.MidRow
import Derived.OneCell
namespace Go
open Go.RowKit

/-- Block g holds these cells, and may be written. -/
def At (w : World) (g : Nat) (cs : Array Value) (t : TypeId) : Prop := w.heap[g]? = some (.cells cs t (0, 0))

namespace At
variable {w : World} {g : Nat} {cs : Array Value} {t : TypeId}

theorem lt (h : At w g cs t) : g < w.heap.size := lt_of_block h
theorem cell (h : At w g cs t) (i : Nat) : w.cell? ⟨g, i, none⟩ = cs[i]? := cell_of_row w g i cs t _ h
theorem free (h : At w g cs t) (i : Nat) : w.frozen? ⟨g, i, none⟩ = false := frozen_of_row w g i cs t h
theorem new (w : World) (cs : Array Value) (t : TypeId) : At (w.alloc (.cells cs t)) w.heap.size cs t := heap_alloc_new w _
theorem alloc (h : At w g cs t) (o : Obj) : At (w.alloc o) g cs t := (Below.heap_alloc w o g h.lt).trans h
theorem drew (h : At w g cs t) : At w.drew g cs t := h
theorem set (h : At w g cs t) (i : Nat) (v : Value) : At (w.setCell ⟨g, i, none⟩ v) g (cs.setIfInBounds i v) t := heap_setCell_same w g i cs t v h
theorem setOther (h : At w g cs t) {a : Addr} (ha : g ≠ a.block) (v : Value) : At (w.setCell a v) g cs t := (heap_setCell_other w a g v ha).trans h
theorem below {B : Nat} {w' : World} (h : At w g cs t) (hb : Below B w w') (hg : g < B) : At w' g cs t := (hb.block g hg).trans h
theorem row (h : At w g cs t) (cs' : Array Value) : At (w.setRow g cs') g cs' t := setRow_heap w g cs cs' t _ h
theorem rowOther (h : At w g cs t) {g' : Nat} (hg : g ≠ g') (cs' : Array Value) : At (w.setRow g' cs') g cs t := (setRow_other w g' g cs' hg).trans h
end At

theorem size_alloc (w : World) (o : Obj) : (w.alloc o).heap.size = w.heap.size + 1 := by
  show (w.heap.push o).size = _
  simp

theorem size_setCell (w : World) (a : Addr) (v : Value) : (w.setCell a v).heap.size = w.heap.size := by
  simp [World.setCell]

theorem At.new2 (w : World) (A : Obj) (cs : Array Value) (t : TypeId) : At ((w.alloc A).alloc (.cells cs t)) (w.heap.size + 1) cs t := by
  rw [← size_alloc w A]; exact At.new _ _ _

theorem At.new3 (w : World) (A B : Obj) (cs : Array Value) (t : TypeId) : At (((w.alloc A).alloc B).alloc (.cells cs t)) (w.heap.size + 2) cs t := by
  have h := At.new ((w.alloc A).alloc B) cs t
  rw [size_alloc, size_alloc] at h
  exact h

theorem below_setRow {B : Nat} {a w : World} (h : Below B a w) {g : Nat} (hg : B ≤ g) (cs : Array Value) : Below B a (w.setRow g cs) :=
  h.trans ⟨rfl, rfl, rfl, by simp, fun k hk => setRow_other w g k cs (by omega)⟩

theorem below_then {a b c : World} (h : Below a.heap.size a b) (h' : Below b.heap.size b c) : Below a.heap.size a c := h.trans (h'.mono h.size)

section
variable {P : Program}
theorem wpList_store_agg {ops : Array Oper} {rest : List Oper} {o : Oper} {a : Act} {w : World} {Q : Exit → Act → World → Prop} (hgd : o.guard = none) (ty : TypeId) (x y : Operand) (ho : o.op = .store ty x y)
    (g : Nat) (hx : a.eval x = .pointer (some ⟨g, 0, none⟩)) (cells : Array Value) (hy : a.eval y = .agg cells) (t : TypeId) (old : Array Value) (hg : At w g old t)
    (hi : (P.info? ty).map (·.size) = some cells.size) (hs : old.size = cells.size) (h1 : cells.all (·.oneCell') = true)
    (h : wpList P ops Q rest (a.put o.dst undef) (w.setRow g cells)) : wpList P ops Q (o :: rest) a w :=
  wpList_plain hgd fun _ hK => by
    unfold Oper.wp execOp
    simp only [ho, hx, hy, Instr.storeAt, Instr.sureAddr, Sem.run_bind, Sem.run_pure, Result.andThen_ok, run_storeVar_row w g t ty old cells hg hi hs h1]
    exact hK _ _ h
end

theorem setRow_alloc2 (w : World) (A : Obj) (c c' : Array Value) (t : TypeId) : ((w.alloc A).alloc (.cells c t)).setRow (w.heap.size + 1) c' = (w.alloc A).alloc (.cells c' t) := by
  rw [← size_alloc w A, World.setRow_alloc_new]

theorem cell_two_old (w : World) (A B : Obj) (b o : Nat) (hb : b < w.heap.size) : ((w.alloc A).alloc B).cell? ⟨b, o, none⟩ = w.cell? ⟨b, o, none⟩ := by
  have h1 : b < (w.alloc A).heap.size := by rw [size_alloc]; omega
  rw [World.cell?_alloc_lt _ _ (a := ⟨b, o, none⟩) h1, World.cell?_alloc_lt _ _ (a := ⟨b, o, none⟩) hb]

/-- t is the type of slices of e, an element taking so many cells and bytes. -/
def SliceOf (P : Program) (t e : TypeId) (size bytes : Nat) : Prop :=
  P.underlying t = some (.slice e) ∧ 0 < size ∧ ∃ i z, P.info? e = some i ∧ i.zero = some z ∧ i.size = size ∧ i.bytes = bytes ∧ z.cells.size = size

theorem SliceOf.mk' {P : Program} {t e : TypeId} {size bytes : Nat} {z : Value} (h1 : P.underlying t = some (.slice e)) (h0 : 0 < size)
    (h2 : (P.info? e).map (fun i => (i.zero, i.size, i.bytes)) = some (some z, size, bytes)) (h3 : z.cells.size = size) : SliceOf P t e size bytes := by
  cases hq : P.info? e with
  | none => simp [hq] at h2
  | some i =>
    simp [hq] at h2
    exact ⟨h1, h0, i, z, hq, h2.1, h2.2.1, h2.2.2, h3⟩

section
variable {P : Program}
/-- 'append(s, x)': x has just been laid into a block of one cell. -/
theorem wpList_append_one {ops : Array Oper} {rest : List Oper} {o : Oper} {a : Act} {Q : Exit → Act → World → Prop} {W : World} (hgd : o.guard = none) (s x : Operand) (t e : TypeId) (bytes : Nat)
    (ho : o.op = .call { callee := .builtin .append, args := #[s, x], argTypes := #[t, t] }) (hT : SliceOf P t e 1 bytes)
    (base : Nat) (v : Value) (n : Nat) (xs : List Value) (hs : a.eval s = v) (hown : W.ownsRow base e 1 v n xs) (u : Value) (hu : u.oneCell' = true)
    (hx : a.eval x = .slice (some ⟨W.heap.size, 0, none⟩) 1 1) (h63 : n + 1 ≤ maxLen) (hbytes : (n + 1) * bytes ≤ 140737488355328) (hbase : base ≤ W.heap.size)
    (h : ∀ v' w', w'.ownsRow base e 1 v' (n + 1) (xs ++ [u]) → Below base W w' → W.grownBy w' v.ownBlock → wpList P ops Q rest (a.put o.dst v') w') :
    wpList P ops Q (o :: rest) a (W.alloc (.cells #[u] e)) := by
  obtain ⟨h1, h0, i, z, h2, h3, h4, h5, h6⟩ := hT
  refine wpList_append_own _ hgd s x t ho base e i z 1 bytes h1 h2 h3 h4 h5 h6 h0 v n xs hs (hown.alloc _) ⟨W.heap.size, 0, none⟩ 1 1 [u] hx rfl ?_ ?_ h63 hbytes (by rw [size_alloc]; omega) fun v' w' a b _ => h v' w' a
    (((Below.refl base W).alloc hbase _).grown b (by rw [size_alloc]; omega) (fun k hk => (hown.lt k hk).1))
    ⟨b.os, b.tape, b.output, by have := b.size; rw [size_alloc] at this; omega, fun k hk hne => (b.block k (by rw [size_alloc]; omega) hne).trans (Below.heap_alloc W _ k hk)⟩
  · intro j u' hj
    match j with
    | 0 =>
      simp at hj
      subst hj
      have : (⟨W.heap.size, 0, none⟩ : Addr).add 0 = ⟨W.heap.size, 0, none⟩ := by unfold Addr.add; split <;> simp_all
      rw [this, (At.new W #[u] e).cell 0]; rfl
    | j + 1 => simp at hj
  · intro u' hu'
    simp at hu'
    subst hu'
    exact hu
end

/-- What an owned row's cells hold. -/
theorem ownsRow_cell {w : World} {base : Nat} {e : TypeId} {v : Value} {n : Nat} {xs : List Value} (h : w.ownsRow base e 1 v n xs) (hn : 0 < n) :
    ∃ g cap, v = .slice (some ⟨g, 0, none⟩) n cap ∧ base ≤ g ∧ g < w.heap.size ∧ (∀ i, i < n → w.cell? ⟨g, i, none⟩ = xs[i]?) ∧ ∀ i, w.frozen? ⟨g, i, none⟩ = false := by
  obtain ⟨hl, h⟩ := h
  rcases h with ⟨_, h⟩ | ⟨g, cap, cur, hv, hb, hg, hc, _, hs, ht⟩
  · omega
  · refine ⟨g, cap, hv, hb, lt_of_block hg, ?_, fun i => frozen_of_row w g i cur e hg⟩
    intro i hi
    rw [cell_of_row w g i cur e _ hg, ← ht, List.getElem?_take, if_pos (by omega)]
    simp

theorem ownsRow_below {w w' : World} {base B : Nat} {e : TypeId} {size : Nat} {v : Value} {n : Nat} {xs : List Value} (h : w.ownsRow base e size v n xs) (hb : Below B w w') (hB : w.heap.size ≤ B) : w'.ownsRow base e size v n xs := by
  refine ⟨h.1, ?_⟩
  rcases h.2 with hn | ⟨g, cap, cur, hv, hg, hh, r⟩
  · exact .inl hn
  · exact .inr ⟨g, cap, cur, hv, hg, (hb.block g (Nat.lt_of_lt_of_le (lt_of_block hh) hB)).trans hh, r⟩

/-- A slice of bytes that reads as a list. -/
def Seg (w : World) (v : Value) (l : List UInt8) : Prop :=
  ∃ a cap, v = .slice a l.length cap ∧ (l = [] ∨ ∃ b off, a = some ⟨b, off, none⟩ ∧ b < w.heap.size ∧ ∀ j (h : j < l.length), w.cell? ⟨b, off + j, none⟩ = some (.int .u8 ((l[j].toNat : Nat) : Int)))

theorem Seg.below {w w' : World} {v : Value} {l : List UInt8} (h : Seg w v l) (hb : Below w.heap.size w w') : Seg w' v l := by
  obtain ⟨a, cap, hv, h⟩ := h
  refine ⟨a, cap, hv, ?_⟩
  rcases h with h | ⟨b, off, ha, hlt, hc⟩
  · exact .inl h
  · exact .inr ⟨b, off, ha, Nat.lt_of_lt_of_le hlt hb.size, fun j hj => (hb.cell (p := ⟨b, off + j, none⟩) hlt).trans (hc j hj)⟩

theorem Seg.nil (w : World) (a : Option Addr) (cap : Nat) : Seg w (.slice a 0 cap) [] := ⟨a, cap, rfl, .inl rfl⟩

/-- Bytes that have just been laid. -/
theorem Seg.new (w : World) (l : List UInt8) (t : TypeId) (cap : Nat) (fr : Nat × Nat := (0, 0)) :
    Seg (w.alloc (.cells (l.map fun u => Value.int .u8 ((u.toNat : Nat) : Int)).toArray t fr)) (.slice (some ⟨w.heap.size, 0, none⟩) l.length cap) l :=
  ⟨_, cap, rfl, .inr ⟨w.heap.size, 0, rfl, by rw [size_alloc]; omega, fun j h => by
    rw [cell_of_row _ _ _ _ t fr (heap_alloc_new w _), Nat.zero_add]; simp [h]⟩⟩

def nats (l : List UInt8) : List Nat := l.map UInt8.toNat

theorem nats_take (l : List UInt8) (k : Nat) (h : k < l.length) : nats (l.take (k + 1)) = nats (l.take k) ++ [l[k].toNat] := by
  unfold nats
  rw [List.take_succ_eq_append_getElem h, List.map_append]; rfl

section
variable {P : Program}
/-- The k-th of an array by value, each element one cell. -/
theorem run_index_agg (w : World) (T E : TypeId) (n : Nat) (cs : Array Value) (kd : IntKind) (k : Nat) (v : Value) (d : TypeDesc)
    (hu : P.underlying T = some (.array n E)) (hk : k < n) (he : P.underlying E = some d) (hd : d.isRow = false)
    (hi : (P.info? E).map (·.size) = some 1) (hv : cs[k]? = some v) :
    (Instr.index T (.agg cs) (.int kd (k : Int))).run P w = .ok v w := by
  have hagg : (isAgg E).run P w = .ok false w := by
    unfold isAgg
    rw [Sem.run_bind, run_underlying he w]
    cases d <;> simp_all
  cases hq : P.info? E with
  | none => simp [hq] at hi
  | some i =>
    have hs : i.size = 1 := by simpa [hq] using hi
    simp [Instr.index, asIntOf, run_underlying hu, hk, sizeOf, typeInfo, hq, hs, part, hagg, hv]
end

theorem ret_int {k : IntKind} {a b : Int} (h : a = b) : Ending.returned (.int k a) = .returned (.int k b) := by rw [h]
theorem int_eq {k : IntKind} {a b : Int} (h : a = b) : Value.int k a = Value.int k b := by rw [h]

end Go
