/- The law on giving back: its walk. -/
import Derived.Test.YtjmnbpghfnageaaRingG
namespace Go.Proofs.Ytjmnbpghfnageaa
open Go.RowKit

set_option maxHeartbeats 1000000 in
theorem ringback_bad (a b c d : Int) (w : World) (h : ¬ RingOk a b c) :
    Calls Try.prog 4 #[.int .i64 a, .int .i64 b, .int .i64 c, .int .i64 d] w fun e w' => e = .returned (.bool true) ∧ Below w.heap.size w w' := by
  have h1 := Lib.hid (rnew_bad a b c w (ring_not h))
  clear h
  have h2 := Lib.hid (rknown_any w)
  go_enter Try.func4, Try.ntmps4
  go_wp2_with (first
    | (go_at_call 15; refine h1.out.mono ?_; rintro e w1 ⟨rfl, rfl⟩)
    | (go_at_call 16; refine h2.out.mono ?_; rintro e w2 ⟨rfl, hb2⟩))
  go_ret
  exact ⟨rfl, hb2⟩

theorem spansL_zero (s t : Nat) : spansL s t 0 = [] := rfl

set_option maxRecDepth 100000 in
set_option maxHeartbeats 4000000 in
theorem ringback_good (a b c d : Int) (w : World) (h : RingOk a b c) :
    Calls Try.prog 4 #[.int .i64 a, .int .i64 b, .int .i64 c, .int .i64 d] w fun e w' => e = .returned (.bool true) ∧ Below w.heap.size w w' := by
  obtain ⟨s, t, u, rfl, rfl, rfl, h5, h2, ht, hu, hnew⟩ := RS.new (w := w) h
  clear h
  have k1 := Lib.hid hnew
  clear hnew
  by_cases hbad : d < 0 ∨ ((s - u : Nat) : Int) < d
  · have kt : Hid (∀ W, RS w W s t u → Calls Try.prog 18 #[.pointer (some ⟨w.heap.size, 0, none⟩), .int .i64 d] W fun e W' => ∃ k, e = .returned (.tuple #[.slice none 0 0, .int .u16 k]) ∧ (k : Int) ≠ 0 ∧ RS w W' s t u ∧ Kept w W W') :=
      fun W h => (h.takeBad hbad).mono fun e W' ⟨he, hr⟩ => ⟨_, he, by split <;> decide, hr⟩
    have q1 : (d < 0) ∨ ((s : Int) - (u : Int) < d) := by omega
    have q2 : IntKind.i64.wrap ((s : Int) - (u : Int)) = (s : Int) - (u : Int) := IntWalk.i64_in _ (by omega)
    go_enter Try.func4, Try.ntmps4
    go_wp2_with (first
      | (go_at_call 15; refine k1.out.mono ?_; rintro e w1 ⟨rfl, R1⟩)
      | (go_at_call 16; refine R1.known.mono ?_; rintro e w2 ⟨rfl, R2, c2⟩)
      | (go_at_call 17; (with_reducible refine (RS.live R2).mono ?_); rintro e w3 ⟨v0, rfl, S0, R3, c3⟩; clear R2; obtain ⟨x0, y0, rfl⟩ := S0.shape)
      | (go_at_call 18; refine (kt.out _ R3).mono ?_; rintro e w4 ⟨k, rfl, hk, R4, c4⟩; clear R3; have S4 := S0.keep c4; clear S0)
      | (go_at_call 17; (with_reducible refine (RS.live R4).mono ?_); rintro e w5 ⟨v1, rfl, S5, R5, c5⟩; clear R4; have S6 := S4.keep c5; clear S4)
      | (go_at_call 19; (with_reducible refine (RS.same R5 (spansL_le _ _ _) S6 S5).mono ?_); rintro e w6 ⟨rfl, R6, c6⟩))
    all_goals
      go_ret
      first | exact ⟨rfl, R6.bel⟩ | exact ⟨ret_bool (b := decide (d < 0) || decide ((s : Int) - (u : Int) < d)) (by simpa using q1), R6.bel⟩
  · obtain ⟨n, rfl⟩ : ∃ n : Nat, d = n := ⟨d.toNat, by omega⟩
    have hn : n ≤ s - u := by omega
    have e0 : ((t + u) % s + n) % s = (t + (u + n)) % s := by rw [Nat.mod_add_mod, Nat.add_assoc]
    have e1 : ((t + (u + n)) % s + 0) % s = (t + (u + n)) % s := by simp
    have k2 : Hid (∀ W, RS w W s t u → Calls Try.prog 18 #[.pointer (some ⟨w.heap.size, 0, none⟩), .int .i64 n] W fun e W' => ∃ v, e = .returned (.tuple #[v, .int .u16 0]) ∧ SRow w W' v (spansL s ((t + u) % s) n) ∧ RS w W' s t (u + n) ∧ Kept w W W') :=
      fun W h => h.take hn
    have k3 : Hid (∀ W, RS w W s t (u + n) → Calls Try.prog 20 #[.pointer (some ⟨w.heap.size, 0, none⟩)] W fun e W' => e = .returned (.int .i64 ((t + (u + n)) % s : Nat)) ∧ RS w W' s t (u + n) ∧ Kept w W W') :=
      fun W h => h.head
    have k4 : Hid (∀ W, RS w W s t (u + n) → Calls Try.prog 21 #[.pointer (some ⟨w.heap.size, 0, none⟩), .int .i64 u] W fun e W' => ∃ v, e = .returned (.tuple #[v, .int .u16 0]) ∧ SRow w W' v (spansL s t u) ∧ RS w W' s ((t + u) % s) n ∧ Kept w W W') :=
      fun W h => (h.give (n := u) (by omega)).mono fun e W' ⟨v, h1, h2, h3, h4⟩ => ⟨v, h1, h2, by rw [Nat.add_sub_cancel_left] at h3; exact h3, h4⟩
    have k5 : Hid (∀ W, RS w W s ((t + u) % s) n → Calls Try.prog 21 #[.pointer (some ⟨w.heap.size, 0, none⟩), .int .i64 n] W fun e W' => ∃ v, e = .returned (.tuple #[v, .int .u16 0]) ∧ SRow w W' v (spansL s ((t + u) % s) n) ∧ RS w W' s ((t + (u + n)) % s) 0 ∧ Kept w W W') :=
      fun W h => (h.give (n := n) (Nat.le_refl _)).mono fun e W' ⟨v, h1, h2, h3, h4⟩ => ⟨v, h1, h2, by rw [Nat.sub_self, e0] at h3; exact h3, h4⟩
    have k6 : Hid (∀ W, RS w W s ((t + (u + n)) % s) 0 → Calls Try.prog 20 #[.pointer (some ⟨w.heap.size, 0, none⟩)] W fun e W' => e = .returned (.int .i64 ((t + (u + n)) % s : Nat)) ∧ RS w W' s ((t + (u + n)) % s) 0 ∧ Kept w W W') :=
      fun W h => by have := h.head; rw [e1] at this; exact this
    have k7 : Hid (∀ W, RS w W s ((t + (u + n)) % s) 0 → Calls Try.prog 17 #[.pointer (some ⟨w.heap.size, 0, none⟩)] W fun e W' => e = .returned (.slice none 0 0) ∧ RS w W' s ((t + (u + n)) % s) 0 ∧ Kept w W W') :=
      fun W h => h.live.mono fun e W' ⟨v, h1, h2, h3, h4⟩ => ⟨by rw [h1, h2.2.2 (spansL_zero _ _)], h3, h4⟩
    have k8 : Hid (∀ W, RS w W s t u → Calls Try.prog 17 #[.pointer (some ⟨w.heap.size, 0, none⟩)] W fun e W' => ∃ v, e = .returned v ∧ SRow w W' v (spansL s t u) ∧ RS w W' s t u ∧ Kept w W W') := fun W h => h.live
    have k9 : Hid (∀ W, RS w W s ((t + u) % s) n → Calls Try.prog 17 #[.pointer (some ⟨w.heap.size, 0, none⟩)] W fun e W' => ∃ v, e = .returned v ∧ SRow w W' v (spansL s ((t + u) % s) n) ∧ RS w W' s ((t + u) % s) n ∧ Kept w W W') := fun W h => h.live
    clear e0 e1
    have l0 := spansL_le s t u
    have l1 := spansL_le s ((t + u) % s) n
    generalize spansL s t u = L0 at *
    generalize spansL s ((t + u) % s) n = L1 at *
    generalize (t + u) % s = q at *
    generalize (t + (u + n)) % s = p at *
    go_enter Try.func4, Try.ntmps4
    go_wp2_with (first
      | (go_at_call 15; refine k1.out.mono ?_; rintro e w1 ⟨rfl, R1⟩)
      | (go_at_call 16; refine R1.known.mono ?_; rintro e w2 ⟨rfl, R2, c2⟩)
      | (go_at_call 17; (with_reducible refine (k8.out _ R2).mono ?_); rintro e w3 ⟨v0, rfl, S0, R3, c3⟩; clear R2)
      | (go_at_call 18; (with_reducible refine (k2.out _ R3).mono ?_); rintro e w4 ⟨v1, rfl, S1, R4, c4⟩; clear R3; replace S0 := S0.keep c4)
      | (go_at_call 20; (with_reducible refine (k3.out _ R4).mono ?_); rintro e w5 ⟨rfl, R5, c5⟩; clear R4; replace S0 := S0.keep c5; replace S1 := S1.keep c5)
      | (go_at_call 21; (with_reducible refine (k4.out _ R5).mono ?_); rintro e w6 ⟨v2, rfl, S2, R6, c6⟩; clear R5; replace S0 := S0.keep c6; replace S1 := S1.keep c6)
      | (go_at_call 17; (with_reducible refine (k9.out _ R6).mono ?_); rintro e w7 ⟨v3, rfl, S3, R7, c7⟩; clear R6; replace S0 := S0.keep c7; replace S1 := S1.keep c7; replace S2 := S2.keep c7)
      | (go_at_call 21; (with_reducible refine (k5.out _ R7).mono ?_); rintro e w8 ⟨v4, rfl, S4, R8, c8⟩; clear R7; replace S0 := S0.keep c8; replace S1 := S1.keep c8; replace S2 := S2.keep c8; replace S3 := S3.keep c8)
      | (go_at_call 19; (with_reducible refine (R8.same l0 S2 S0).mono ?_); rintro e w9 ⟨rfl, R9, c9⟩; clear R8; replace S1 := S1.keep c9; replace S3 := S3.keep c9; replace S4 := S4.keep c9)
      | (go_at_call 19; (with_reducible refine (R9.same l1 S3 S1).mono ?_); rintro e wa ⟨rfl, Ra, ca⟩; clear R9; replace S1 := S1.keep ca; replace S4 := S4.keep ca)
      | (go_at_call 19; (with_reducible refine (Ra.same l1 S4 S1).mono ?_); rintro e wb ⟨rfl, Rb, cb⟩; clear Ra)
      | (go_at_call 22; (with_reducible refine Rb.usedc.mono ?_); rintro e wc ⟨rfl, rfl⟩)
      | (go_at_call 23; (with_reducible refine Rb.tailc.mono ?_); rintro e wc ⟨rfl, rfl⟩)
      | (go_at_call 20; (with_reducible refine (k6.out _ Rb).mono ?_); rintro e wc ⟨rfl, Rc, cc⟩; clear Rb)
      | (go_at_call 17; (with_reducible refine (k7.out _ Rc).mono ?_); rintro e wd ⟨rfl, Rd, cd⟩; clear Rc))
    go_ret
    exact ⟨rfl, Rd.bel⟩

theorem ringBack_walk (w : World) (a : Int) (_ : (Lit.int .i64 a).wf = true) (b : Int) (_ : (Lit.int .i64 b).wf = true) (c : Int) (_ : (Lit.int .i64 c).wf = true) (d : Int) (_ : (Lit.int .i64 d).wf = true) :
    Calls Try.prog 4 #[.int .i64 a, .int .i64 b, .int .i64 c, .int .i64 d] w fun e w' => e = .returned (.bool true) ∧ Below w.heap.size w w' := by
  by_cases h : RingOk a b c
  · exact ringback_good a b c d w h
  · exact ringback_bad a b c d w h

end Go.Proofs.Ytjmnbpghfnageaa
