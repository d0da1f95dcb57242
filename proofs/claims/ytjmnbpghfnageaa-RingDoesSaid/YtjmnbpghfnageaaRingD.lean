/- 'known': what the ring's chapter's examples fix. -/
import Derived.Test.YtjmnbpghfnageaaRingC
namespace Go.Proofs.Ytjmnbpghfnageaa
open Go.RowKit

theorem flat_at2 : ∀ (l : List (Nat × Nat)) (i : Nat) (h : i < l.length), (l.flatMap spanCells)[i * 2]? = some (.int .i64 (l[i].1 : Int)) ∧ (l.flatMap spanCells)[i * 2 + 1]? = some (.int .i64 (l[i].2 : Int))
  | x :: l, 0, _ => by simp [spanCells]
  | x :: l, i + 1, h => by
    have ih := flat_at2 l i (by simpa using h)
    have e1 : (List.flatMap spanCells (x :: l))[(i + 1) * 2]? = (l.flatMap spanCells)[i * 2]? := by
      rw [List.flatMap_cons, List.getElem?_append_right (by simp [spanCells]; omega)]
      congr 1
      simp [spanCells]; omega
    have e2 : (List.flatMap spanCells (x :: l))[(i + 1) * 2 + 1]? = (l.flatMap spanCells)[i * 2 + 1]? := by
      rw [List.flatMap_cons, List.getElem?_append_right (by simp [spanCells]; omega)]
      congr 1
      simp [spanCells]; omega
    rw [e1, e2]
    simpa using ih

theorem SpanRow.full {w : World} {base : Nat} {v : Value} {l : List (Nat × Nat)} (h : SpanRow w base v l) (hl : 0 < l.length) :
    ∃ g cap, v = .slice (some ⟨g, 0, none⟩) l.length cap ∧ base ≤ g ∧ g < w.heap.size := by
  rcases h.1.2 with ⟨_, h0⟩ | ⟨g, cap, cur, hv, hb, hg, _⟩
  · omega
  · exact ⟨g, cap, hv, hb, lt_of_block hg⟩

theorem SpanRow.at {w : World} {base g n cap : Nat} {l : List (Nat × Nat)} (h : SpanRow w base (.slice (some ⟨g, 0, none⟩) n cap) l) (i : Nat) (hi : i < l.length) :
    w.cell? ⟨g, i * 2, none⟩ = some (.int .i64 (l[i].1 : Int)) ∧ w.cell? ⟨g, i * 2 + 1, none⟩ = some (.int .i64 (l[i].2 : Int)) := by
  rcases h.1.2 with ⟨hv, _⟩ | ⟨g', cap', cur, hv, hb, hg, hc, _, hs, ht⟩
  · cases hv
  · simp only [Value.slice.injEq, Option.some.injEq, Addr.mk.injEq] at hv
    obtain ⟨⟨rfl, _, _⟩, _, _⟩ := hv
    obtain ⟨e1, e2⟩ := flat_at2 l i hi
    rw [← ht, List.getElem?_take, if_pos (by omega)] at e1 e2
    rw [cell_of_row w _ _ cur 31 _ hg, cell_of_row w _ _ cur 31 _ hg]
    exact ⟨by rw [← e1]; simp, by rw [← e2]; simp⟩

theorem SpanRow.len {w : World} {base : Nat} {a : Option Addr} {n cap : Nat} {l : List (Nat × Nat)} (h : SpanRow w base (.slice a n cap) l) : n = l.length := by
  rcases h.1.2 with ⟨hv, h0⟩ | ⟨g', cap', cur, hv, _⟩
  · simp only [Value.slice.injEq] at hv; omega
  · simp only [Value.slice.injEq] at hv; omega

theorem SpanRow.shape {w : World} {base : Nat} {v : Value} {l : List (Nat × Nat)} (h : SpanRow w base v l) : ∃ a cap, v = .slice a l.length cap := by
  rcases h.1.2 with ⟨hv, h0⟩ | ⟨g', cap', cur, hv, _⟩
  · exact ⟨none, 0, by rw [hv, h0]⟩
  · exact ⟨_, _, hv⟩

set_option maxRecDepth 100000 in
set_option maxHeartbeats 4000000 in
theorem rknown_any (w : World) : Calls Try.prog 16 #[] w fun e w' => e = .returned (.bool true) ∧ Below w.heap.size w w' := by
  have k1 : Hid (Calls Try.prog 15 #[.int .i64 5, .int .i64 3, .int .i64 0] w fun e w' => e = .returned (.tuple #[.pointer (some ⟨w.heap.size, 0, none⟩), .int .u16 0]) ∧ RingAt w' w.heap.size 5 3 0 ∧ Below w.heap.size w w') :=
    (rnew_good 5 3 0 w (by decide) (by decide) (by decide) (by decide)).mono fun e w' ⟨h1, h2⟩ => ⟨h1, by rw [h2]; exact At.new _ _ _, by rw [h2]; exact (Below.refl _ _).alloc (Nat.le_refl _) _⟩
  have k2 : Hid (∀ W : World, RingAt W w.heap.size 5 3 0 → Calls Try.prog 18 #[.pointer (some ⟨w.heap.size, 0, none⟩), .int .i64 4] W fun e W' =>
      ∃ g cap, e = .returned (.tuple #[.slice (some ⟨g, 0, none⟩) 2 cap, .int .u16 0]) ∧ RingAt W' w.heap.size 5 3 4 ∧ SpanRow W' W.heap.size (.slice (some ⟨g, 0, none⟩) 2 cap) [(3, 2), (0, 2)] ∧ Chg (fun k => k = w.heap.size) W W') :=
    fun W h => (take_ok w.heap.size 5 3 0 4 W h (by decide) (by decide) (by decide) (by decide) (by decide)).mono fun e W' ⟨v, h1, h2, h3, h4⟩ => by
      have h3' : SpanRow W' W.heap.size v [(3, 2), (0, 2)] := h3
      obtain ⟨g, cap, rfl, _⟩ := h3'.full (by decide)
      exact ⟨g, cap, h1, h2, h3', h4⟩
  have k3 : Hid (∀ W : World, RingAt W w.heap.size 5 3 4 → Calls Try.prog 18 #[.pointer (some ⟨w.heap.size, 0, none⟩), .int .i64 2] W fun e W' =>
      e = .returned (.tuple #[.slice none 0 0, .int .u16 90]) ∧ Below W.heap.size W W') :=
    fun W h => take_full w.heap.size 5 3 4 2 W h (by decide) (by decide) (by decide) (by decide)
  have k4 : Hid (∀ W : World, RingAt W w.heap.size 5 3 4 → Calls Try.prog 21 #[.pointer (some ⟨w.heap.size, 0, none⟩), .int .i64 3] W fun e W' =>
      ∃ g cap, e = .returned (.tuple #[.slice (some ⟨g, 0, none⟩) 2 cap, .int .u16 0]) ∧ RingAt W' w.heap.size 5 1 1 ∧ SpanRow W' W.heap.size (.slice (some ⟨g, 0, none⟩) 2 cap) [(3, 2), (0, 1)] ∧ Chg (fun k => k = w.heap.size) W W') :=
    fun W h => (give_ok w.heap.size 5 3 4 3 W h (by decide) (by decide) (by decide) (by decide) (by decide)).mono fun e W' ⟨v, h1, h2, h3, h4⟩ => by
      have h3' : SpanRow W' W.heap.size v [(3, 2), (0, 1)] := h3
      obtain ⟨g, cap, rfl, _⟩ := h3'.full (by decide)
      exact ⟨g, cap, h1, h2, h3', h4⟩
  have k5 : Hid (∀ W : World, RingAt W w.heap.size 5 1 1 → Calls Try.prog 23 #[.pointer (some ⟨w.heap.size, 0, none⟩)] W fun e W' => e = .returned (.int .i64 1) ∧ W = W') :=
    fun W h => tail_any w.heap.size 5 1 1 W h
  have k6 : Hid (∀ W : World, RingAt W w.heap.size 5 1 1 → Calls Try.prog 20 #[.pointer (some ⟨w.heap.size, 0, none⟩)] W fun e W' => e = .returned (.int .i64 2) ∧ Below W.heap.size W W') :=
    fun W h => head_any w.heap.size 5 1 1 W h (by decide) (by decide) (by decide) (by decide)
  go_enter Try.func16, Try.ntmps16
  go_wp2_with (first
    | (go_at_call 15; refine k1.out.mono ?_; rintro e w1 ⟨rfl, R1, hb1⟩)
    | (go_at_call 18; (with_reducible refine (k2.out _ ?_).mono ?_); exact R1; rintro e w2 ⟨g2, cap2, rfl, R2, S2, hc2⟩)
    | (go_at_call 18; (with_reducible refine (k3.out _ ?_).mono ?_); exact R2; rintro e w3 ⟨rfl, hb3⟩; have R3 := R2.below hb3 R2.lt; have S3 := S2.below hb3 (Nat.le_refl _))
    | (go_at_call 21; refine (k4.out _ R3).mono ?_; rintro e w4 ⟨g4, cap4, rfl, R4, S4, hc4⟩; have S5 := S3.chg hc4 (fun k hk e => by have := R1.lt; omega); obtain ⟨a0, a1⟩ := S5.at 0 (by decide); obtain ⟨a2, a3⟩ := S5.at 1 (by decide); obtain ⟨b2, b3⟩ := S4.at 1 (by decide))
    | (go_at_call 23; refine (k5.out _ R4).mono ?_; rintro e w5 ⟨rfl, rfl⟩)
    | (go_at_call 20; refine (k6.out _ R4).mono ?_; rintro e w6 ⟨rfl, hb6⟩))
  go_ret
  have z1 := R1.lt
  have z2 := hc2.size
  have z3 := hb3.size
  have z4 := hc4.size
  exact ⟨rfl, (Chg.own ((Chg.own hb1 hc2 (fun k hk => by omega)).trans (hb3.mono (by omega))) hc4 (fun k hk => by omega)).trans (hb6.mono (by omega))⟩

end Go.Proofs.Ytjmnbpghfnageaa
