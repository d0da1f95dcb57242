/- A disk of sectors: what it has, and how it lies in memory. -/
import Derived.Test.YtkcfmkhakghniaaGreatRows
import Derived.Test.YtkcfmkhakghniaaGreatIMap
import Derived.WalkSpells
import Derived.WalkLawsBesides
import Derived.Lib.Hide
import Derived.Deep.QuietTactic
import Derived.BigQuiet
import Derived.Deep.RegionHeld3
import Derived.Deep.RegionWith
set_option linter.unusedVariables false
namespace Go
open Go.RowKit

section
variable {P : Program}
/-- 'make([]T, n)', an element being sz cells of one and the same value. -/
theorem wpList_make_same {ops : Array Oper} {rest : List Oper} {o : Oper} {a : Act} {Q : Exit → Act → World → Prop} {w : World} (hg : o.guard = none) (l c : Operand) (t e : TypeId) (sz bytes : Nat)
    (hop : o.op = Op.makeSlice t l c) (hT : SliceOf P t e sz bytes) (u : Value) (hz : ((P.info? e).bind (·.zero)).map (·.cells) = some (List.replicate sz u).toArray)
    (kl kc : IntKind) (L C : Int) (n : Nat) (hl : a.eval l = .int kl L) (hc : a.eval c = .int kc C) (hL : L = (n : Int)) (hC : C = (n : Int))
    (b2 : bytes * n ≤ 281474976710656) (b3 : n ≤ maxLen)
    (hK : ∀ w', At w' w.heap.size (List.replicate (n * sz) u).toArray e → Below w.heap.size w w' → wpList P ops Q rest (a.put o.dst (.slice (some ⟨w.heap.size, 0, none⟩) n n)) w') :
    wpList P ops Q (o :: rest) a w := by
  obtain ⟨h1, h0, i, z', h2, h3, h4, h5, h6⟩ := hT
  have hcells : z'.cells = (List.replicate sz u).toArray := by
    rw [h2] at hz
    simpa [h3] using hz
  refine wpList_make_full w hg l c t hop w.heap.size e i z' sz h1 h2 h3 h4 kl kc L C n hl hc hL hC (by rw [h5]; exact b2) b3 (Nat.le_refl _) fun w' hown hgr => hK w' ?_ ?_
  · obtain ⟨hlen, hh⟩ := hown
    rcases hh with ⟨hh, _⟩ | ⟨g', cap, cur, hv, hb, hg', hc', _, hs, ht⟩
    · cases hh
    · simp only [Value.slice.injEq, Option.some.injEq, Addr.mk.injEq] at hv
      obtain ⟨⟨rfl, _, _⟩, _, rfl⟩ := hv
      have e1 : cur.toList = List.replicate (n * sz) u := by
        rw [List.take_of_length_le (by simp [hs])] at ht
        rw [ht]
        apply List.ext_getElem?
        intro j
        rw [List.getElem?_replicate, hcells]
        by_cases hj : j < n * sz
        · have hm : j % sz < sz := Nat.mod_lt _ h0
          simp [madeCells, hj, hm]
        · simp [madeCells, hj]
      rw [← e1, Array.toArray_toList]
      exact hg'
  · exact (Below.refl _ _).grown hgr (Nat.le_refl _) (fun k hk => by simp at hk)
end
end Go

namespace Go.Proofs.YtkcfmkhakghniaaGreat
open Go.RowKit

abbrev Sec := List UInt8
def zsec : Sec := List.replicate 128 0

/-- A disk: its sectors, what waits in its cache, whether it has failed. -/
structure Dsk where
  last : List Sec
  cache : List (Nat × Sec)
  failed : Bool

/-- The last that waits for a sector. -/
def waits (c : List (Nat × Sec)) (z : Int) : Option Sec := (c.reverse.find? (fun x => decide ((x.1 : Int) = z))).map (·.2)

theorem waits_nil (z : Int) : waits [] z = none := rfl
theorem waits_snoc (c : List (Nat × Sec)) (a : Nat) (s : Sec) (z : Int) : waits (c ++ [(a, s)]) z = if (a : Int) = z then some s else waits c z := by
  unfold waits
  rw [List.reverse_append]
  simp only [List.reverse_cons, List.reverse_nil, List.nil_append, List.singleton_append, List.find?_cons]
  by_cases h : (a : Int) = z <;> simp [h]

/-- What a sector reads as. -/
def Dsk.cur (d : Dsk) (at' : Nat) : Sec := (waits d.cache (at' : Int)).getD (d.last.getD at' zsec)

/-- f leads each number to the last write of the cache that goes there. -/
def Seen (c : List (Nat × Sec)) (f : Int → Option Int) : Prop := ∀ z, (f z = none → waits c z = none) ∧ (∀ i, f z = some i → ∃ (j : Nat) (h : j < c.length), i = j ∧ waits c z = some c[j].2)

theorem Seen.nil : Seen [] (fun _ => none) := fun z => ⟨fun _ => rfl, fun i h => by cases h⟩

theorem Seen.snoc {c : List (Nat × Sec)} {f : Int → Option Int} (h : Seen c f) (a : Nat) (s : Sec) : Seen (c ++ [(a, s)]) (fun i => if i = (a : Int) then some (c.length : Int) else f i) := fun z => by
  rw [waits_snoc]
  by_cases hz : z = (a : Int)
  · subst hz
    simp only [if_pos]
    exact ⟨fun h => (by cases h), fun i hi => ⟨c.length, by simp, by simpa using hi.symm, by simp⟩⟩
  · have e1 : (fun i => if i = (a : Int) then some (c.length : Int) else f i) z = f z := if_neg hz
    rw [e1, if_neg (fun e => hz e.symm)]
    refine ⟨(h z).1, fun i hi => ?_⟩
    obtain ⟨j, hj, h1, h2⟩ := (h z).2 i hi
    refine ⟨j, by simp; omega, h1, ?_⟩
    rw [h2, List.getElem_append_left hj]

def secCells (l : List Sec) : List Value := l.flatMap ucells
def wcell (x : Nat × Sec) : List Value := .int .i64 (x.1 : Int) :: ucells x.2
def wcells (l : List (Nat × Sec)) : List Value := l.flatMap wcell

theorem secCells_length {l : List Sec} (h : ∀ s ∈ l, s.length = 128) : (secCells l).length = l.length * 128 := by
  induction l with
  | nil => rfl
  | cons s l ih =>
    unfold secCells at ih ⊢
    rw [List.flatMap_cons, List.length_append, ih (fun x hx => h x (List.mem_cons_of_mem _ hx)), ucells_length, h s List.mem_cons_self, List.length_cons]
    omega

theorem secCells_at {l : List Sec} (h : ∀ s ∈ l, s.length = 128) (i j : Nat) (hi : i < l.length) (hj : j < 128) : (secCells l)[i * 128 + j]? = (ucells l[i])[j]? := by
  induction l generalizing i with
  | nil => simp at hi
  | cons s l ih =>
    have hs : (ucells s).length = 128 := by rw [ucells_length, h s List.mem_cons_self]
    show (ucells s ++ secCells l)[i * 128 + j]? = _
    match i with
    | 0 => rw [List.getElem?_append_left (by omega)]; simp
    | i + 1 =>
      rw [List.getElem?_append_right (by omega), hs, show (i + 1) * 128 + j - 128 = i * 128 + j by omega, ih (fun x hx => h x (List.mem_cons_of_mem _ hx)) i (by simpa using hi)]
      simp

theorem secCells_replicate (n : Nat) : secCells (List.replicate n zsec) = List.replicate (n * 128) (.int .u8 0) := by
  induction n with
  | zero => rfl
  | succ n ih =>
    have e : ucells zsec = List.replicate 128 (.int .u8 0) := by unfold ucells zsec; rw [List.map_replicate]; rfl
    show ucells zsec ++ secCells (List.replicate n zsec) = _
    rw [ih, e, List.replicate_append_replicate]
    congr 1
    omega

theorem slice_sectors : SliceOf Tryz.prog 217 234 128 128 :=
  SliceOf.mk' (z := .agg (List.replicate 128 (.int .u8 0)).toArray) Tryz.underlying217 (by decide) (by kernel_rfl) (by kernel_rfl)
theorem zero_sector : ((Tryz.prog.info? 234).bind (·.zero)).map (·.cells) = some (List.replicate 128 (.int .u8 0)).toArray := by kernel_rfl

/-- The disk d in block p; all its blocks bear the tag t. -/
structure DiskAt (W : World) (T : Nat → Nat) (t p : Nat) (d : Dsk) : Prop where
  at' : ∃ (gl gm : Nat) (cv : Value) (f : Int → Option Int), At W p #[.slice (some ⟨gl, 0, none⟩) d.last.length d.last.length, cv, .map (some gm), .bool d.failed] 221 ∧
    At W gl (secCells d.last).toArray 234 ∧ W.ownsRow 0 270 129 cv d.cache.length (wcells d.cache) ∧
    W.imap Tryz.prog 3 3 gm d.cache.length f ∧ Seen d.cache f ∧ T gl = t ∧ T gm = t ∧ (∀ g, cv.ownBlock = some g → T g = t)
  tag : T p = t
  len : ∀ s ∈ d.last, s.length = 128
  clen : ∀ x ∈ d.cache, x.2.length = 128
  cin : ∀ x ∈ d.cache, x.1 < d.last.length
  few : d.last.length ≤ 8192
  some' : 0 < d.last.length

theorem DiskAt.keep {S : Nat → Prop} {W W' : World} {T : Nat → Nat} {t p : Nat} {d : Dsk} (h : DiskAt W T t p d) (hc : Chg S W W') (hS : ∀ k, T k = t → ¬ S k) : DiskAt W' T t p d := by
  obtain ⟨gl, gm, cv, f, h1, h2, h3, h4, h5, h6, h7, h8⟩ := h.at'
  exact ⟨⟨gl, gm, cv, f, h1.mod hc (hS p h.tag), h2.mod hc (hS gl h6), ownsRow_mod h3 hc (fun g hg => hS g (h8 g hg)), h4.mod hc (hS gm h7), h5, h6, h7, h8⟩, h.tag, h.len, h.clen, h.cin, h.few, h.some'⟩

theorem DiskAt.below {W W' : World} {T : Nat → Nat} {t p : Nat} {d : Dsk} (h : DiskAt W T t p d) (hb : Below W.heap.size W W') : DiskAt W' T t p d :=
  h.keep (Chg.ofBelow hb (fun _ => False)) (fun _ _ h => h)

/-- The tags of blocks that are not there yet may be chosen. -/
theorem DiskAt.retag {W : World} {T T' : Nat → Nat} {t p : Nat} {d : Dsk} (h : DiskAt W T t p d) (hT : ∀ g, g < W.heap.size → T' g = T g) : DiskAt W T' t p d := by
  obtain ⟨gl, gm, cv, f, h1, h2, h3, h4, h5, h6, h7, h8⟩ := h.at'
  exact ⟨⟨gl, gm, cv, f, h1, h2, h3, h4, h5, by rw [hT gl h2.lt]; exact h6, by rw [hT gm h4.lt]; exact h7, fun g hg => by rw [hT g (h3.lt g hg).2]; exact h8 g hg⟩, by rw [hT p h1.lt]; exact h.tag, h.len, h.clen, h.cin, h.few, h.some'⟩

/-- What 'may' answers. -/
def Dsk.may (d : Dsk) (z : Int) : Nat := if d.failed then 2 else if z < 0 ∨ (d.last.length : Int) ≤ z then 3 else 0

set_option maxHeartbeats 1000000 in
theorem disk_may (T : Nat → Nat) (t p : Nat) (d : Dsk) (z : Int) (w : World) (h : DiskAt w T t p d) :
    Calls Tryz.prog 176 #[.pointer (some ⟨p, 0, none⟩), .int .i64 z] w fun e w' => e = .returned (.int .u16 (d.may z : Nat)) ∧ w' = w := by
  obtain ⟨gl, gm, cv, f, h1, _⟩ := h.at'
  have hfew := h.few
  have c0 : w.cell? ⟨p, 0, none⟩ = some (.slice (some ⟨gl, 0, none⟩) d.last.length d.last.length) := h1.cell 0
  have c3 : w.cell? ⟨p, 3, none⟩ = some (.bool d.failed) := h1.cell 3
  clear h1 h
  unfold Dsk.may
  cases hf : d.failed
  · rw [hf] at c3
    generalize d.last.length = n at *
    by_cases hz : z < 0
    · rw [if_neg (by simp), if_pos (.inl hz)]
      go_enter Tryz.func176, Tryz.ntmps176
      go_wp2
      go_ret
      exact ⟨rfl, rfl⟩
    · by_cases hn : (n : Int) ≤ z
      · rw [if_neg (by simp), if_pos (.inr hn)]
        go_enter Tryz.func176, Tryz.ntmps176
        go_wp2
        go_ret
        exact ⟨rfl, rfl⟩
      · rw [if_neg (by simp), if_neg (by omega)]
        go_enter Tryz.func176, Tryz.ntmps176
        go_wp2
        go_ret
        exact ⟨rfl, rfl⟩
  · rw [hf] at c3
    rw [if_pos rfl]
    go_enter Tryz.func176, Tryz.ntmps176
    go_wp2
    go_ret
    exact ⟨rfl, rfl⟩

end Go.Proofs.YtkcfmkhakghniaaGreat
