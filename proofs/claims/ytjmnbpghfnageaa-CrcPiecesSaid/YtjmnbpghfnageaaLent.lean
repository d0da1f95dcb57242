/- The walks of what is lent: bytes, with marks behind; the same bytes; bytes spoilt. -/
import Derived.Test.YtjmnbpghfnageaaRows
import Derived.Test.YtjmnbpghfnageaaBlk
import Derived.WalkSpells
import Derived.WalkLawsBesides
import Derived.Deep.QuietTactic
import Derived.BigQuiet
import Derived.Lib.Hide
namespace Go.Proofs.Ytjmnbpghfnageaa
open Go.RowKit

theorem slice46 : SliceOf Try.prog 46 5 1 1 := SliceOf.mk' (z := .int .u8 0) Try.underlying46 (by decide) (by kernel_rfl) rfl

def lentCells (l : List UInt8) : Array Value := (ucells l ++ [Value.int .u8 91, Value.int .u8 92]).toArray

/-- Such a slice, lent: its two marks stand behind. -/
def Lent (w : World) (v : Value) (l : List UInt8) : Prop := ∃ g, v = .slice (some ⟨g, 0, none⟩) l.length (l.length + 2) ∧ At w g (lentCells l) 5

theorem Lent.seg {w : World} {v : Value} {l : List UInt8} (h : Lent w v l) : Seg w v l := by
  obtain ⟨g, rfl, h⟩ := h
  refine ⟨_, _, rfl, ⟨fun h => by simp at h, by omega⟩, .inr ⟨g, 0, rfl, h.lt, fun j hj => ?_⟩⟩
  rw [h.cell (0 + j), Nat.zero_add]
  simp [lentCells, ucells, List.getElem?_append, hj]

theorem Lent.below {w w' : World} {v : Value} {l : List UInt8} (h : Lent w v l) (hb : Below w.heap.size w w') : Lent w' v l := by
  obtain ⟨g, rfl, h⟩ := h
  exact ⟨g, rfl, h.below hb h.lt⟩

set_option maxRecDepth 100000 in
set_option maxHeartbeats 1000000 in
theorem lent_any (v : Value) (l : List UInt8) (w : World) (hl : l.length ≤ 140737488355000) (hv : Seg w v l) :
    Calls Try.prog 27 #[v] w fun e w' => e = .returned (.slice (some ⟨w.heap.size, 0, none⟩) l.length (l.length + 2)) ∧ At w' w.heap.size (lentCells l) 5 ∧ Below w.heap.size w w' := by
  obtain ⟨ao, cap, rfl, hv'⟩ := id hv
  clear hv'
  go_enter Try.func27, Try.ntmps27
  go_wp2_with (first
    | (refine wpList_make_room rfl _ _ 46 5 1 1 rfl slice46 _ _ _ (l.length + 2) rfl rfl (by omega) (by omega) (by unfold maxLen; omega) ?_; intro w1 hown1 hb1 hlt1; have HC := Lib.hid (hv.below hb1).cells; clear hv)
    | (refine wpList_append_room rfl _ _ 46 5 1 1 rfl slice46 w.heap.size w.heap.size 0 (l.length + 2) [] rfl hown1 ao l.length cap (ucells l) rfl (by rw [ucells_length, Nat.mul_one]) HC.out.2.1 HC.out.2.2 (ucells_one l) (by omega) ?_; intro w2 hown2 hb2; rw [Nat.zero_add, List.nil_append] at hown2)
    | (refine wpList_append_room rfl _ _ 46 5 1 1 rfl slice46 w.heap.size w.heap.size l.length (l.length + 2) (ucells l) rfl (hown2.alloc _) _ 2 2 [Value.int .u8 91, Value.int .u8 92] rfl rfl (by intro h; cases h) (fun ad h => by cases h; exact cell_two_new _ _ _ _) (by simp; exact ⟨rfl, rfl⟩) (Nat.le_refl _) ?_; intro w3 hown3 hb3))
  go_ret
  exact ⟨rfl, at_of_owns hown3, ((hb1.trans hb2).alloc (Nat.le_trans hb1.size hb2.size) _).trans hb3⟩

set_option maxRecDepth 100000 in
set_option maxHeartbeats 1000000 in
theorem same_any (u v : Value) (l m : List UInt8) (w : World) (hl : l.length ≤ 9223372036854775807) (hm : m.length ≤ 9223372036854775807) (hu : Seg w u l) (hv : Seg w v m) :
    Calls Try.prog 49 #[u, v] w fun e w' => e = .returned (.bool (decide (l = m))) ∧ Below w.heap.size w w' := by
  obtain ⟨a, c, rfl⟩ := hu.shape
  obtain ⟨b, d, rfl⟩ := hv.shape
  by_cases hlen : l.length = m.length
  · have hne : ((l.length : Int) != (m.length : Int)) = false := by simp; omega
    go_enter Try.func49, Try.ntmps49
    go_wp2_with fail
    go_loopw [5] (fun i wr => ∃ k : Nat, k ≤ l.length ∧ i = .int .i64 k ∧ l.take k = m.take k ∧ Below w.heap.size w wr) (fun i _ => l.length - (intOf i).toNat)
    case atStart => exact ⟨0, Nat.zero_le _, rfl, rfl, Below.refl _ _⟩
    case round =>
      obtain ⟨k, hk, rfl, htake, hbw⟩ := hrel
      have Hlen := Lib.hid hlen
      have Htake := Lib.hid htake
      clear htake hlen
      by_cases hlt : k < l.length
      · have hlt' : k < m.length := by have := Hlen.out; omega
        obtain ⟨b1, o1, c1, e1, hb1, h1⟩ := Seg.full (hu.below hbw) (by omega)
        obtain ⟨b2, o2, c2, e2, hb2, h2⟩ := Seg.full (hv.below hbw) (by omega)
        simp only [Value.slice.injEq] at e1 e2
        obtain ⟨rfl, _, rfl⟩ := e1
        obtain ⟨rfl, _, rfl⟩ := e2
        have c1 := h1 k hlt
        have c2 := h2 k hlt'
        have hx := u8_ne l[k] m[k]
        clear h1 h2 hu hv
        by_cases heq : l[k] = m[k]
        · rw [decide_eq_true heq] at hx
          have Hn := Lib.hid (take_eq_succ Htake.out hlt hlt' heq)
          generalize l[k] = x at *
          generalize m[k] = y at *
          clear heq
          go_wp2
          go_quiet (fail)
          go_wp2
          go_roundw
          case rel => exact ⟨k + 1, by omega, by go_num, Hn.out, below_drewN hbw _⟩
          case measure => simp [intOf]; omega
        · rw [decide_eq_false heq] at hx
          have Hn := Lib.hid (show decide (l = m) = false from decide_eq_false fun e => heq (by subst e; rfl))
          generalize l[k] = x at *
          generalize m[k] = y at *
          clear heq
          go_wp2
          go_quiet (fail)
          go_wp2
          go_ret
          exact ⟨by rw [Hn.out]; rfl, below_drewN hbw _⟩
      · have Hn := Lib.hid (show decide (l = m) = true from decide_eq_true (by
          have h := Htake.out
          rw [List.take_of_length_le (by omega), List.take_of_length_le (by have := Hlen.out; omega)] at h
          exact h))
        clear hu hv
        go_wp2
        go_ret
        exact ⟨by rw [Hn.out]; rfl, hbw⟩
  · have hne : ((l.length : Int) != (m.length : Int)) = true := by simp; omega
    have Hn := Lib.hid (show decide (l = m) = false from decide_eq_false fun e => hlen (by rw [e]))
    clear hlen hu hv
    go_enter Try.func49, Try.ntmps49
    go_wp2
    go_ret
    exact ⟨by rw [Hn.out]; rfl, Below.refl _ _⟩

theorem lentCells_mark (l : List UInt8) : (lentCells l)[l.length]? = some (.int .u8 91) ∧ (lentCells l)[l.length + 1]? = some (.int .u8 92) := by
  constructor <;> simp [lentCells, ucells]

set_option maxRecDepth 100000 in
set_option maxHeartbeats 1000000 in
theorem whole_any (u v : Value) (l : List UInt8) (w : World) (hl : l.length ≤ 140737488355000) (hu : Lent w u l) (hv : Seg w v l) :
    Calls Try.prog 30 #[u, v] w fun e w' => e = .returned (.bool true) ∧ Below w.heap.size w w' := by
  have hcall := Lib.hid (same_any u v l l w (by omega) (by omega) hu.seg hv)
  obtain ⟨g, rfl, hat⟩ := hu
  have c1 := (hat.cell l.length).trans (lentCells_mark l).1
  have c2 := (hat.cell (l.length + 1)).trans (lentCells_mark l).2
  obtain ⟨b, d, rfl⟩ := hv.shape
  clear hv hat
  go_enter Try.func30, Try.ntmps30
  go_wp2_with (go_at_call 49; refine hcall.out.mono ?_; rintro e w' ⟨rfl, hb1⟩)
  go_ret
  exact ⟨rfl, hb1⟩

end Go.Proofs.Ytjmnbpghfnageaa
