/- The book of what came out: one list put in. -/
import Derived.Test.YtjmnbpghfnageaaRingP
set_option linter.unusedVariables false
namespace Go.Proofs.Ytjmnbpghfnageaa
open Go.RowKit

theorem slice71 : SliceOf Try.prog 71 28 1 24 := SliceOf.mk' (z := .slice none 0 0) Try.underlying71 (by decide) (by kernel_rfl) rfl

/-- The book's cells, the lists of spans being v. -/
def bookC (v : Value) : Array Value := #[.slice none 0 0, .slice none 0 0, .slice none 0 0, .slice none 0 0, .slice none 0 0, v, .slice none 0 0, .slice none 0 0, .slice none 0 0, .slice none 0 0, .slice none 0 0, .slice none 0 0]

/-- A book whose lists lie in blocks of their own, from B on, told apart by tags. -/
structure BkT (W : World) (B K : Nat) (T : Nat → Nat) (vs : List Value) (v : Value) : Prop where
  book : At W K (bookC v) 79
  hK : K < B
  hB : B ≤ W.heap.size
  row : W.ownsRow B 28 1 v vs.length vs
  tag : ∀ g, v.ownBlock = some g → T g = 0
  fam : Fam W B 31 2 T vs (fun _ xs => xs.length ≤ 4)

def Bk (W : World) (B K n : Nat) : Prop := ∃ T vs v, vs.length ≤ n ∧ BkT W B K T vs v

theorem BkT.keep {S : Nat → Prop} {W W' : World} {B K : Nat} {T : Nat → Nat} {vs : List Value} {v : Value} (h : BkT W B K T vs v) (hc : Chg S W W') (hS : ∀ k, B ≤ k → ¬ S k) (hK : ¬ S K) : BkT W' B K T vs v :=
  ⟨h.book.mod hc hK, h.hK, Nat.le_trans h.hB hc.size, ownsRow_mod h.row hc (fun g hg => hS g (h.row.lt g hg).1), h.tag, h.fam.chg hc hS⟩

theorem Bk.keep {S : Nat → Prop} {W W' : World} {B K n : Nat} (h : Bk W B K n) (hc : Chg S W W') (hS : ∀ k, B ≤ k → ¬ S k) (hK : ¬ S K) : Bk W' B K n := by
  obtain ⟨T, vs, v, hn, h⟩ := h
  exact ⟨T, vs, v, hn, h.keep hc hS hK⟩

theorem Bk.below {W W' : World} {B K n : Nat} (h : Bk W B K n) (hb : Below W.heap.size W W') : Bk W' B K n :=
  h.keep (S := fun _ => False) (Chg.ofBelow hb _) (fun _ _ h => h) (fun h => h)

theorem Bk.le {W : World} {B K n m : Nat} (h : Bk W B K n) (hn : n ≤ m) : Bk W B K m := by
  obtain ⟨T, vs, v, h1, h⟩ := h
  exact ⟨T, vs, v, Nat.le_trans h1 hn, h⟩

theorem one_one (x : Value) (h : x.oneCell' = true) : ∀ u ∈ [x], u.oneCell' = true := by
  intro u hu
  simp only [List.mem_cons, List.not_mem_nil, or_false] at hu
  rcases hu with rfl; exact h

/-- What a book becomes by one list more. -/
theorem BkT.add {W0 W W1 W' : World} {B K : Nat} {T : Nat → Nat} {vs : List Value} {v x v' : Value} {l : List (Nat × Nat)} (h : BkT W0 B K T vs v) (hc : Chg (fun k => k < B ∧ k ≠ K) W0 W)
    (hx : SpanRow W W0.heap.size x l) (hl : l.length ≤ 2)
    (hown : W1.ownsRow B 28 1 v' (vs.length + 1) (vs ++ [x])) (hloc : v'.ownBlock = v.ownBlock ∨ v'.ownBlock = some (W.heap.size + 1)) (hch : Chg (fun k => v.ownBlock = some k) W W1)
    (hW' : W' = W1.setCell ⟨K, 5, none⟩ v') :
    (∃ T', BkT W' B K T' (vs ++ [x]) v') ∧ Chg (fun k => k = K ∨ (B ≤ k ∧ k < W0.heap.size)) W W' := by
  subst hW'
  have hsz := hc.size
  have hsz1 := hch.size
  have hKlt : K < W.heap.size := Nat.lt_of_lt_of_le h.hK (Nat.le_trans h.hB hsz)
  have hv0 : ∀ g, v.ownBlock = some g → B ≤ g ∧ g < W0.heap.size := fun g hg => h.row.lt g hg
  have hxlt : ∀ g, x.ownBlock = some g → W0.heap.size ≤ g ∧ g < W.heap.size := fun g hg => hx.1.lt g hg
  have hx1 : W.ownsRow B 31 2 x l.length (l.flatMap spanCells) := (hx.rebase h.hB).1
  have hset : Chg (fun k => k = K) W1 (W1.setCell ⟨K, 5, none⟩ v') := Chg.setCell (S := fun k => k = K) (Chg.refl _ _) ⟨K, 5, none⟩ (.inl rfl) _
  have hKv : v.ownBlock ≠ some K := fun e => by have := (hv0 K e).1; have := h.hK; omega
  have hchg : Chg (fun k => k = K ∨ (B ≤ k ∧ k < W0.heap.size)) W (W1.setCell ⟨K, 5, none⟩ v') :=
    (hch.mono (T := fun k => k = K ∨ (B ≤ k ∧ k < W0.heap.size)) fun k hk => .inr (hv0 k hk)).trans (hset.mono fun k hk => .inl hk)
  refine ⟨?_, hchg⟩
  -- the tags
  have hT : ∃ T' : Nat → Nat, (∀ g, g < W0.heap.size → T' g = T g) ∧ (∀ g, x.ownBlock = some g → T' g = vs.length + 2) ∧ T' (W.heap.size + 1) = 0 := by
    cases hxb : x.ownBlock with
    | none => exact ⟨tagAt T (W.heap.size + 1) 0, fun g hg => tagAt_lt _ _ _ _ (by omega), by simp, tagAt_same _ _ _⟩
    | some gx =>
      have := hxlt gx hxb
      refine ⟨tagAt (tagAt T gx (vs.length + 2)) (W.heap.size + 1) 0, fun g hg => ?_, fun g hg => ?_, tagAt_same _ _ _⟩
      · rw [tagAt_lt _ _ _ _ (by omega), tagAt_lt _ _ _ _ (by omega)]
      · obtain rfl : gx = g := by simpa using hg
        rw [tagAt_lt _ _ _ _ (by omega), tagAt_same]
  obtain ⟨T', hT0, hTx, hT1⟩ := hT
  have hbook : At W K (bookC v) 79 := h.book.mod hc (fun hk => hk.2 rfl)
  refine ⟨T', ⟨?_, h.hK, ?_, ?_, ?_, ?_⟩⟩
  · exact (hbook.mod hch hKv).set 5 v'
  · rw [size_setCell]; have := h.hB; omega
  · have : (vs ++ [x]).length = vs.length + 1 := by simp
    rw [this]
    exact ownsRow_mod hown hset (fun g hg e => by have := (hown.lt g hg).1; have := h.hK; omega)
  · intro g hg
    rcases hloc with hl' | hl'
    · rw [hl'] at hg
      rw [hT0 g (hv0 g hg).2]
      exact h.tag g hg
    · rw [hl'] at hg
      simp only [Option.some.injEq] at hg
      subst hg
      exact hT1
  · have hvx : ∀ g, x.ownBlock = some g → ¬ (g = K ∨ (B ≤ g ∧ g < W0.heap.size)) := fun g hg e => by have := hxlt g hg; have := h.hK; have := h.hB; omega
    refine ⟨fun j hj => ?_, fun j hj g hg => ?_⟩
    · by_cases hjl : j < vs.length
      · obtain ⟨xs, r1, r2⟩ := h.fam.row j hjl
        rw [List.getElem_append_left hjl]
        refine ⟨xs, ownsRow_mod (ownsRow_mod (ownsRow_mod r1 hc (fun g hg e => by have := (r1.lt g hg).1; omega)) hch (fun g hg e => ?_)) hset (fun g hg e => by have := (r1.lt g hg).1; have := h.hK; omega), r2⟩
        have t1 := h.fam.tag j hjl g hg
        have t2 := h.tag g e
        omega
      · obtain rfl : j = vs.length := by simp at hj; omega
        rw [List.getElem_append_right (Nat.le_refl _)]
        simp only [Nat.sub_self, List.getElem_cons_zero]
        refine ⟨l.flatMap spanCells, ?_, by rw [hx.1.1]; omega⟩
        rw [ownsRow_many hx1]
        exact ownsRow_mod hx1 hchg hvx
    · by_cases hjl : j < vs.length
      · obtain ⟨xs, r1, r2⟩ := h.fam.row j hjl
        rw [List.getElem_append_left hjl] at hg
        rw [hT0 g (r1.lt g hg).2]
        exact h.fam.tag j hjl g hg
      · obtain rfl : j = vs.length := by simp at hj; omega
        rw [List.getElem_append_right (Nat.le_refl _)] at hg
        simp only [Nat.sub_self, List.getElem_cons_zero] at hg
        exact hTx g hg

set_option maxRecDepth 100000 in
set_option maxHeartbeats 4000000 in
theorem bookspans_any {W0 W : World} {B K n : Nat} {x : Value} {l : List (Nat × Nat)} (h : Bk W0 B K n) (hn : n ≤ 1000000) (hc : Chg (fun k => k < B ∧ k ≠ K) W0 W) (hx : SpanRow W W0.heap.size x l) (hl : l.length ≤ 2) :
    Calls Try.prog 59 #[.pointer (some ⟨K, 0, none⟩), x] W fun e W' => e = .returned (.tuple #[]) ∧ Bk W' B K (n + 1) ∧ Chg (fun k => k = K ∨ (B ≤ k ∧ k < W0.heap.size)) W W' := by
  obtain ⟨T, vs, v, hvn, hb⟩ := h
  have hbook := hb.book.mod hc (fun hk => hk.2 rfl)
  have c5 : W.cell? ⟨K, 5, none⟩ = some v := hbook.cell 5
  have hown : W.ownsRow B 28 1 v vs.length vs := ownsRow_mod hb.row hc (fun g hg e => by have := (hb.row.lt g hg).1; omega)
  have HO := Lib.hid hown
  have hKlt : K < W.heap.size := Nat.lt_of_lt_of_le hb.hK (Nat.le_trans hb.hB hc.size)
  have hBW : B ≤ W.heap.size := Nat.le_trans hb.hB hc.size
  have hone : x.oneCell' = true := by obtain ⟨a, cap, rfl⟩ := hx.shape; rfl
  have hKB := hb.hK
  have hvK : v.ownBlock ≠ some K := fun e => by have := (hown.lt K e).1; omega
  have HB := Lib.hid hbook
  have HH := Lib.hid hb
  clear hown hbook hb
  have HX := Lib.hid hx
  obtain ⟨xa, xc, rfl⟩ := hx.shape
  clear hx
  go_enter Try.func59, Try.ntmps59
  go_wp2_with (refine wpList_append_keeps rfl _ _ 71 28 1 24 rfl slice71 B v vs.length vs rfl (HO.out.alloc _) _ 1 1 [.slice xa l.length xc] rfl rfl (cell_one_new _ _ _) (one_one _ hone) (by unfold maxLen; omega) (by omega) (by rw [size_alloc]; omega) (by omega) ?_; intro v1 w1 hown1 hloc hchg hkeep; have hb1 : At w1 K (bookC v) 79 := (HB.out.alloc _).mod hchg hvK; have d5 : w1.cell? ⟨K, 5, none⟩ = some v := hb1.cell 5; have f5 := hb1.free 5; have HW1 := Lib.hid hown1; obtain ⟨va, vc, rfl⟩ := ownsRow_shape hown1; clear hown1)
  have HA := Lib.hid (BkT.add HH.out hc HX.out hl HW1.out (by rw [← size_alloc W]; exact hloc) (((Chg.refl _ _).alloc _).trans (hchg.mono fun k hk => hk)) rfl)
  go_end0
  obtain ⟨⟨T', hT⟩, hch⟩ := HA.out
  exact ⟨rfl, ⟨T', _, _, by simp; omega, hT⟩, hch⟩

end Go.Proofs.Ytjmnbpghfnageaa
