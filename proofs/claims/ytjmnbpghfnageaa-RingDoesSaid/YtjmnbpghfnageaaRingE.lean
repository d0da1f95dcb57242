/- The law on the live spans: its walk. -/
import Derived.Test.YtjmnbpghfnageaaRingD
namespace Go.Proofs.Ytjmnbpghfnageaa
open Go.RowKit

theorem ret_bool {b : Bool} (h : b = true) : Ending.returned (.bool b) = .returned (.bool true) := by rw [h]

/-- Parameters with which a ring opens. -/
def RingOk (a b c : Int) : Prop := 5 ≤ a ∧ a ≤ 2048 ∧ 0 ≤ b ∧ b < a ∧ 0 ≤ c ∧ c ≤ a

theorem ring_not {a b c : Int} (h : ¬ RingOk a b c) : a < 5 ∨ (5 ≤ a ∧ 2048 < a) ∨ (5 ≤ a ∧ a ≤ 2048 ∧ b < 0) ∨ (5 ≤ a ∧ a ≤ 2048 ∧ 0 ≤ b ∧ a ≤ b) ∨ (5 ≤ a ∧ a ≤ 2048 ∧ 0 ≤ b ∧ b < a ∧ c < 0) ∨ (5 ≤ a ∧ a ≤ 2048 ∧ 0 ≤ b ∧ b < a ∧ 0 ≤ c ∧ a < c) := by
  unfold RingOk at h; omega

theorem ring_ok {a b c : Int} (h : RingOk a b c) : ∃ size tail used : Nat, a = size ∧ b = tail ∧ c = used ∧ 5 ≤ size ∧ size ≤ 2048 ∧ tail < size ∧ used ≤ size := by
  unfold RingOk at h
  exact ⟨a.toNat, b.toNat, c.toNat, by omega, by omega, by omega, by omega, by omega, by omega, by omega⟩

/-- 'New' at good parameters, as its callers want it. -/
theorem rnew_post (size tail used : Nat) (w : World) (h1 : 5 ≤ size) (h2 : size ≤ 2048) (h3 : tail < size) (h4 : used ≤ size) :
    Calls Try.prog 15 #[.int .i64 size, .int .i64 tail, .int .i64 used] w fun e w' => e = .returned (.tuple #[.pointer (some ⟨w.heap.size, 0, none⟩), .int .u16 0]) ∧ RingAt w' w.heap.size size tail used ∧ Below w.heap.size w w' :=
  (rnew_good size tail used w h1 h2 h3 h4).mono fun e w' ⟨h1, h2⟩ => ⟨h1, by rw [h2]; exact At.new _ _ _, by rw [h2]; exact (Below.refl _ _).alloc (Nat.le_refl _) _⟩

set_option maxHeartbeats 1000000 in
theorem ringspans_bad (a b c : Int) (w : World) (h : ¬ RingOk a b c) :
    Calls Try.prog 3 #[.int .i64 a, .int .i64 b, .int .i64 c] w fun e w' => e = .returned (.bool true) ∧ Below w.heap.size w w' := by
  have h1 := Lib.hid (rnew_bad a b c w (ring_not h))
  clear h
  have h2 := Lib.hid (rknown_any w)
  go_enter Try.func3, Try.ntmps3
  go_wp2_with (first
    | (go_at_call 15; refine h1.out.mono ?_; rintro e w1 ⟨rfl, rfl⟩)
    | (go_at_call 16; refine h2.out.mono ?_; rintro e w2 ⟨rfl, hb2⟩))
  go_ret
  exact ⟨rfl, hb2⟩

set_option maxRecDepth 100000 in
set_option maxHeartbeats 4000000 in
theorem ringspans_good (size tail used : Nat) (w : World) (h1 : 5 ≤ size) (h2 : size ≤ 2048) (h3 : tail < size) (h4 : used ≤ size) :
    Calls Try.prog 3 #[.int .i64 size, .int .i64 tail, .int .i64 used] w fun e w' => e = .returned (.bool true) ∧ Below w.heap.size w w' := by
  have k1 := Lib.hid (rnew_post size tail used w h1 h2 h3 h4)
  have k2 := Lib.hid rknown_any
  have k3 := Lib.hid (fun (W : World) (h : RingAt W w.heap.size size tail used) => live_any w.heap.size size tail used W h h2 h3 h4)
  rcases Nat.eq_zero_or_pos used with hz | hpos
  · subst hz
    have hsp : spansL size tail 0 = [] := rfl
    have k3' : Hid (∀ W : World, RingAt W w.heap.size size tail 0 → Calls Try.prog 17 #[.pointer (some ⟨w.heap.size, 0, none⟩)] W fun e W' => e = .returned (.slice none 0 0) ∧ Below W.heap.size W W') :=
      fun W h => (k3.out W h).mono fun e W' ⟨v, hv, hs, hb⟩ => ⟨by rw [hv, hs.2.2 hsp], hb⟩
    clear k3
    go_enter Try.func3, Try.ntmps3
    go_wp2_with (first
      | (go_at_call 15; refine k1.out.mono ?_; rintro e w1 ⟨rfl, R1, hb1⟩)
      | (go_at_call 16; refine (k2.out w1).mono ?_; rintro e w2 ⟨rfl, hb2⟩; have R2 := R1.below hb2 R1.lt)
      | (go_at_call 17; refine (k3'.out w2 R2).mono ?_; rintro e w3 ⟨rfl, hb3⟩))
    refine wp_loop_rounds 1 ?_
    rw [rounds_succ]
    go_wp2
    go_ret
    exact ⟨rfl, (hb1.trans (hb2.mono (by have := hb1.size; omega))).trans (hb3.mono (by have := hb1.size; have := hb2.size; omega))⟩
  · by_cases hone : used ≤ size - tail
    · have hsp : spansL size tail used = [(tail, used)] := by unfold spansL; rw [if_neg (by omega), if_pos hone]
      have k3' : Hid (∀ W : World, RingAt W w.heap.size size tail used → Calls Try.prog 17 #[.pointer (some ⟨w.heap.size, 0, none⟩)] W fun e W' => ∃ g cap, e = .returned (.slice (some ⟨g, 0, none⟩) 1 cap) ∧ SpanRow W' W.heap.size (.slice (some ⟨g, 0, none⟩) 1 cap) [(tail, used)] ∧ Below W.heap.size W W') :=
        fun W h => (k3.out W h).mono fun e W' ⟨v, hv, hs, hb⟩ => by
          rw [hsp] at hs
          obtain ⟨g, cap, rfl, _⟩ := hs.full (by simp)
          exact ⟨g, cap, hv, hs, hb⟩
      clear k3
      have q1 : decide ((used : Int) < 1) = false := decide_eq_false (by omega)
      go_enter Try.func3, Try.ntmps3
      go_wp2_with (first
        | (go_at_call 15; refine k1.out.mono ?_; rintro e w1 ⟨rfl, R1, hb1⟩)
        | (go_at_call 16; refine (k2.out w1).mono ?_; rintro e w2 ⟨rfl, hb2⟩; have R2 := R1.below hb2 R1.lt)
        | (go_at_call 17; refine (k3'.out w2 R2).mono ?_; rintro e w3 ⟨g, cap, rfl, S3, hb3⟩; obtain ⟨a0, a1⟩ := S3.at 0 (by simp)))
      refine wp_loop_rounds 2 ?_
      rw [rounds_succ]
      go_wp2
      go_quiet (fail)
      go_wp2
      rw [rounds_succ]
      go_wp2
      go_ret
      exact ⟨ret_bool (b := !((used : Int) == 0)) (by rw [beq_eq_false_iff_ne.2 (by omega)]; rfl), below_drewN ((hb1.trans (hb2.mono (by have := hb1.size; omega))).trans (hb3.mono (by have := hb1.size; have := hb2.size; omega))) _⟩
    · obtain ⟨m, hm⟩ : ∃ m : Nat, m = size - tail := ⟨_, rfl⟩
      obtain ⟨r, hr⟩ : ∃ r : Nat, r = used - m := ⟨_, rfl⟩
      have hsp : spansL size tail used = [(tail, m), (0, r)] := by unfold spansL; rw [if_neg (by omega), if_neg hone, hr, hm]
      have k3' : Hid (∀ W : World, RingAt W w.heap.size size tail used → Calls Try.prog 17 #[.pointer (some ⟨w.heap.size, 0, none⟩)] W fun e W' => ∃ g cap, e = .returned (.slice (some ⟨g, 0, none⟩) 2 cap) ∧ SpanRow W' W.heap.size (.slice (some ⟨g, 0, none⟩) 2 cap) [(tail, m), (0, r)] ∧ Below W.heap.size W W') :=
        fun W h => (k3.out W h).mono fun e W' ⟨v, hv, hs, hb⟩ => by
          rw [hsp] at hs
          obtain ⟨g, cap, rfl, _⟩ := hs.full (by simp)
          exact ⟨g, cap, hv, hs, hb⟩
      clear k3 hsp
      have q1 : decide ((m : Int) < 1) = false := decide_eq_false (by omega)
      have q2 : decide ((r : Int) < 1) = false := decide_eq_false (by omega)
      have q3 : IntKind.i64.wrap ((tail : Int) + (m : Int)) = (size : Int) := by rw [show (tail : Int) + (m : Int) = (size : Int) by omega]; exact IntWalk.i64_in _ (by omega)
      have q4 : IntKind.i64.wrap ((m : Int) + (r : Int)) = (used : Int) := by rw [show (m : Int) + (r : Int) = (used : Int) by omega]; exact IntWalk.i64_in _ (by omega)
      have q5 : (tail : Int) + (m : Int) = (size : Int) := by omega
      have q6 : (m : Int) + (r : Int) = (used : Int) := by omega
      clear hm hr
      go_enter Try.func3, Try.ntmps3
      go_wp2_with (first
        | (go_at_call 15; refine k1.out.mono ?_; rintro e w1 ⟨rfl, R1, hb1⟩)
        | (go_at_call 16; refine (k2.out w1).mono ?_; rintro e w2 ⟨rfl, hb2⟩; have R2 := R1.below hb2 R1.lt)
        | (go_at_call 17; refine (k3'.out w2 R2).mono ?_; rintro e w3 ⟨g, cap, rfl, S3, hb3⟩; obtain ⟨a0, a1⟩ := S3.at 0 (by simp); obtain ⟨a2, a3⟩ := S3.at 1 (by simp)))
      refine wp_loop_rounds 3 ?_
      rw [rounds_succ]
      go_wp2
      go_quiet (fail)
      go_wp2
      rw [rounds_succ]
      go_wp2
      go_quiet (fail)
      go_wp2
      rw [rounds_succ]
      go_wp2
      go_ret
      exact ⟨ret_bool (b := !((used : Int) == 0)) (by rw [beq_eq_false_iff_ne.2 (by omega)]; rfl), below_drewN ((hb1.trans (hb2.mono (by have := hb1.size; omega))).trans (hb3.mono (by have := hb1.size; have := hb2.size; omega))) _⟩

theorem ringSpans_walk (w : World) (a : Int) (_ : (Lit.int .i64 a).wf = true) (b : Int) (_ : (Lit.int .i64 b).wf = true) (c : Int) (_ : (Lit.int .i64 c).wf = true) :
    Calls Try.prog 3 #[.int .i64 a, .int .i64 b, .int .i64 c] w fun e w' => e = .returned (.bool true) ∧ Below w.heap.size w w' := by
  by_cases h : RingOk a b c
  · obtain ⟨size, tail, used, rfl, rfl, rfl, h1, h2, h3, h4⟩ := ring_ok h
    exact ringspans_good size tail used w h1 h2 h3 h4
  · exact ringspans_bad a b c w h

end Go.Proofs.Ytjmnbpghfnageaa
