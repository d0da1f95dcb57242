/- The ring's methods, told of a ring of the call's own. -/
import Derived.Test.YtjmnbpghfnageaaRingF
set_option linter.unusedVariables false
namespace Go.Proofs.Ytjmnbpghfnageaa
open Go.RowKit

/-- w: the world at the call. The ring lies in the first block behind it. -/
structure RS (w W : World) (size tail used : Nat) : Prop where
  ring : RingAt W w.heap.size size tail used
  bel : Below w.heap.size w W
  h5 : 5 ≤ size
  h2 : size ≤ 2048
  ht : tail < size
  hu : used ≤ size

/-- From one world to the next only the ring may have turned. -/
abbrev Kept (w W W' : World) : Prop := Chg (fun k => k = w.heap.size) W W'

/-- A row of spans behind the ring. -/
abbrev SRow (w W : World) (v : Value) (l : List (Nat × Nat)) : Prop := SpanRow W (w.heap.size + 1) v l

theorem RS.below {w W W' : World} {s t u : Nat} (h : RS w W s t u) (hb : Below W.heap.size W W') : RS w W' s t u :=
  ⟨h.ring.below hb h.ring.lt, below_then h.bel hb, h.h5, h.h2, h.ht, h.hu⟩

theorem RS.kept {w W W' : World} {s t u s' t' u' : Nat} (h : RS w W s t u) (hr : RingAt W' w.heap.size s' t' u') (hc : Kept w W W') (h5 : 5 ≤ s') (h2 : s' ≤ 2048) (ht : t' < s') (hu : u' ≤ s') : RS w W' s' t' u' :=
  ⟨hr, Chg.own h.bel hc (fun k hk => by omega), h5, h2, ht, hu⟩

theorem SpanRow.keep {w W W' : World} {v : Value} {l : List (Nat × Nat)} (h : SRow w W v l) (hc : Kept w W W') : SRow w W' v l := SpanRow.chg h hc (fun k hk e => by omega)

theorem RS.new {w : World} {a b c : Int} (h : RingOk a b c) : ∃ s t u : Nat, a = s ∧ b = t ∧ c = u ∧ 5 ≤ s ∧ s ≤ 2048 ∧ t < s ∧ u ≤ s ∧
    Calls Try.prog 15 #[.int .i64 s, .int .i64 t, .int .i64 u] w fun e W' => e = .returned (.tuple #[.pointer (some ⟨w.heap.size, 0, none⟩), .int .u16 0]) ∧ RS w W' s t u := by
  obtain ⟨s, t, u, ha, hb, hc, h1, h2, h3, h4⟩ := ring_ok h
  exact ⟨s, t, u, ha, hb, hc, h1, h2, h3, h4, (rnew_post s t u w h1 h2 h3 h4).mono fun e W' ⟨he, hr, hb⟩ => ⟨he, hr, hb, h1, h2, h3, h4⟩⟩

theorem RS.known {w W : World} {s t u : Nat} (h : RS w W s t u) : Calls Try.prog 16 #[] W fun e W' => e = .returned (.bool true) ∧ RS w W' s t u ∧ Kept w W W' :=
  (rknown_any W).mono fun e W' ⟨he, hb⟩ => ⟨he, h.below hb, .ofBelow hb _⟩

theorem RS.live {w W : World} {s t u : Nat} (h : RS w W s t u) : Calls Try.prog 17 #[.pointer (some ⟨w.heap.size, 0, none⟩)] W fun e W' => ∃ v, e = .returned v ∧ SRow w W' v (spansL s t u) ∧ RS w W' s t u ∧ Kept w W W' :=
  (live_any w.heap.size s t u W h.ring h.h2 h.ht h.hu).mono fun e W' ⟨v, he, hs, hb⟩ => ⟨v, he, hs.rebase h.ring.lt, h.below hb, .ofBelow hb _⟩

theorem RS.head {w W : World} {s t u : Nat} (h : RS w W s t u) : Calls Try.prog 20 #[.pointer (some ⟨w.heap.size, 0, none⟩)] W fun e W' => e = .returned (.int .i64 ((t + u) % s : Nat)) ∧ RS w W' s t u ∧ Kept w W W' :=
  (head_any w.heap.size s t u W h.ring h.h2 (by have := h.h5; omega) h.ht h.hu).mono fun e W' ⟨he, hb⟩ => ⟨he, h.below hb, .ofBelow hb _⟩

theorem RS.tailc {w W : World} {s t u : Nat} (h : RS w W s t u) : Calls Try.prog 23 #[.pointer (some ⟨w.heap.size, 0, none⟩)] W fun e W' => e = .returned (.int .i64 (t : Nat)) ∧ W = W' := tail_any _ s t u W h.ring
theorem RS.usedc {w W : World} {s t u : Nat} (h : RS w W s t u) : Calls Try.prog 22 #[.pointer (some ⟨w.heap.size, 0, none⟩)] W fun e W' => e = .returned (.int .i64 (u : Nat)) ∧ W = W' := used_any _ s t u W h.ring
theorem RS.sizec {w W : World} {s t u : Nat} (h : RS w W s t u) : Calls Try.prog 26 #[.pointer (some ⟨w.heap.size, 0, none⟩)] W fun e W' => e = .returned (.int .i64 (s : Nat)) ∧ W = W' := size_any _ s t u W h.ring
theorem RS.free {w W : World} {s t u : Nat} (h : RS w W s t u) : Calls Try.prog 25 #[.pointer (some ⟨w.heap.size, 0, none⟩)] W fun e W' => e = .returned (.int .i64 (s - u : Nat)) ∧ RS w W' s t u ∧ Kept w W W' :=
  (free_any w.heap.size s t u W h.ring h.h2 h.hu).mono fun e W' ⟨he, hb⟩ => ⟨he, h.below hb, .ofBelow hb _⟩

/-- 'Take' that fails: the word is the code. -/
theorem RS.takeBad {w W : World} {s t u : Nat} {n : Int} (h : RS w W s t u) (hn : n < 0 ∨ ((s - u : Nat) : Int) < n) :
    Calls Try.prog 18 #[.pointer (some ⟨w.heap.size, 0, none⟩), .int .i64 n] W fun e W' => e = .returned (.tuple #[.slice none 0 0, .int .u16 (if n < 0 then 1 else 90)]) ∧ RS w W' s t u ∧ Kept w W W' := by
  by_cases h0 : n < 0
  · rw [if_pos h0]
    exact (take_neg _ n h0 W).mono fun e W' ⟨he, hw⟩ => ⟨he, hw ▸ h, hw ▸ Chg.refl _ _⟩
  · rw [if_neg h0]
    exact (take_full _ s t u n W h.ring h.h2 h.hu (by omega) (by omega)).mono fun e W' ⟨he, hb⟩ => ⟨he, h.below hb, .ofBelow hb _⟩

theorem RS.take {w W : World} {s t u n : Nat} (h : RS w W s t u) (hn : n ≤ s - u) :
    Calls Try.prog 18 #[.pointer (some ⟨w.heap.size, 0, none⟩), .int .i64 n] W fun e W' => ∃ v, e = .returned (.tuple #[v, .int .u16 0]) ∧ SRow w W' v (spansL s ((t + u) % s) n) ∧ RS w W' s t (u + n) ∧ Kept w W W' :=
  (take_ok w.heap.size s t u n W h.ring h.h2 (by have := h.h5; omega) h.ht h.hu hn).mono fun e W' ⟨v, he, hr, hs, hc⟩ =>
    ⟨v, he, hs.rebase h.ring.lt, h.kept hr hc h.h5 h.h2 h.ht (by have := h.hu; omega), hc⟩

theorem RS.giveBad {w W : World} {s t u : Nat} {n : Int} (h : RS w W s t u) (hn : n < 0 ∨ (u : Int) < n) :
    Calls Try.prog 21 #[.pointer (some ⟨w.heap.size, 0, none⟩), .int .i64 n] W fun e W' => e = .returned (.tuple #[.slice none 0 0, .int .u16 (if n < 0 then 1 else 91)]) ∧ W = W' := by
  by_cases h0 : n < 0
  · rw [if_pos h0]
    exact give_neg _ n h0 W
  · rw [if_neg h0]
    exact give_less _ s t u n W h.ring (by omega) (by omega)

theorem RS.give {w W : World} {s t u n : Nat} (h : RS w W s t u) (hn : n ≤ u) :
    Calls Try.prog 21 #[.pointer (some ⟨w.heap.size, 0, none⟩), .int .i64 n] W fun e W' => ∃ v, e = .returned (.tuple #[v, .int .u16 0]) ∧ SRow w W' v (spansL s t n) ∧ RS w W' s ((t + n) % s) (u - n) ∧ Kept w W W' :=
  (give_ok w.heap.size s t u n W h.ring h.h2 (by have := h.h5; omega) h.ht h.hu hn).mono fun e W' ⟨v, he, hr, hs, hc⟩ =>
    ⟨v, he, hs.rebase h.ring.lt, h.kept hr hc h.h5 h.h2 (Nat.mod_lt _ (by have := h.h5; omega)) (by have := h.hu; omega), hc⟩

theorem RS.atBad {w W : World} {s t u : Nat} {n : Int} (h : RS w W s t u) (hn : n < 0 ∨ (s : Int) ≤ n) :
    Calls Try.prog 36 #[.pointer (some ⟨w.heap.size, 0, none⟩), .int .i64 n] W fun e W' => e = .returned (.tuple #[.int .i64 0, .int .u16 3]) ∧ RS w W' s t u ∧ Kept w W W' :=
  (at_bad w.heap.size s t u n W h.ring (by omega)).mono fun e W' ⟨he, hb⟩ => ⟨he, h.below hb, .ofBelow hb _⟩

theorem RS.at {w W : World} {s t u n : Nat} (h : RS w W s t u) (hn : n < s) :
    Calls Try.prog 36 #[.pointer (some ⟨w.heap.size, 0, none⟩), .int .i64 n] W fun e W' => e = .returned (.tuple #[.int .i64 ((t + n) % s : Nat), .int .u16 0]) ∧ RS w W' s t u ∧ Kept w W W' :=
  (at_ok w.heap.size s t u n W h.ring h.h2 h.ht hn).mono fun e W' ⟨he, hb⟩ => ⟨he, h.below hb, .ofBelow hb _⟩

theorem spansL_le (s t n : Nat) : (spansL s t n).length ≤ 2 := by
  unfold spansL
  split
  · simp
  · split <;> simp

theorem RS.same {w W : World} {s t u : Nat} {v1 v2 : Value} {l : List (Nat × Nat)} (h : RS w W s t u) (hl : l.length ≤ 2) (h1 : SRow w W v1 l) (h2 : SRow w W v2 l) :
    Calls Try.prog 19 #[v1, v2] W fun e W' => e = .returned (.bool true) ∧ RS w W' s t u ∧ Kept w W W' :=
  (samespans_any W _ _ v1 v2 l hl h1 h2).mono fun e W' ⟨he, hb⟩ => ⟨he, h.below hb, .ofBelow hb _⟩

end Go.Proofs.Ytjmnbpghfnageaa
