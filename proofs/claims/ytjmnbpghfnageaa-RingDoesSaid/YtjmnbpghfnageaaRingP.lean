/- 'stands': its walk. -/
import Derived.Test.YtjmnbpghfnageaaRingO
set_option linter.unusedVariables false
namespace Go.Proofs.Ytjmnbpghfnageaa
open Go.RowKit

theorem drewN_of {w w' : World} {n : Nat} (h : ∃ m, w' = (w.drewN n).drewN m) : ∃ m, w' = w.drewN m := by
  obtain ⟨m, rfl⟩ := h
  exact ⟨n + m, by rw [World.drewN_drewN]⟩

theorem at_drewN {w : World} {g : Nat} {cs : Array Value} {t : TypeId} (h : At w g cs t) (n : Nat) : At (w.drewN n) g cs t := h

set_option maxHeartbeats 1000000 in
theorem behind_q (g size tail used n : Nat) (w : World) (h : RingAt w g size tail used) (h2 : size ≤ 2048) (h0 : 0 < size) (h3 : tail < size) (hn : n ≤ 2048) :
    Calls Try.prog 47 #[.pointer (some ⟨g, 0, none⟩), .int .i64 n] w fun e w' => e = .returned (.int .i64 ((tail + n) % size : Nat)) ∧ ∃ m, w' = w.drewN m := by
  obtain ⟨c0, c1, c2⟩ := h.cells
  have hmod : ((tail : Int) + (n : Int)) % (size : Int) = (((tail + n) % size : Nat) : Int) := by simp
  have hs : ((size : Int) == 0) = false := beq_eq_false_iff_ne.2 (by omega)
  have hlt := Nat.mod_lt (tail + n) h0
  clear h
  generalize (tail + n) % size = q at *
  go_enter Try.func47, Try.ntmps47
  go_wp2
  go_quiet (fail)
  go_wp2
  go_ret
  exact ⟨ret_int hmod, _, rfl⟩

set_option maxHeartbeats 1000000 in
theorem head_q (g size tail used : Nat) (w : World) (h : RingAt w g size tail used) (h2 : size ≤ 2048) (h0 : 0 < size) (h3 : tail < size) (hn : used ≤ size) :
    Calls Try.prog 20 #[.pointer (some ⟨g, 0, none⟩)] w fun e w' => e = .returned (.int .i64 ((tail + used) % size : Nat)) ∧ ∃ m, w' = w.drewN m := by
  have hcall := Lib.hid (behind_q g size tail used used w h h2 h0 h3 (by omega))
  obtain ⟨c0, c1, c2⟩ := h.cells
  clear h
  generalize (tail + used) % size = q at *
  go_enter Try.func20, Try.ntmps20
  go_wp2_with (go_at_call 47; refine hcall.out.mono ?_; rintro e w' ⟨rfl, m, rfl⟩)
  go_ret
  exact ⟨rfl, _, rfl⟩

set_option maxHeartbeats 1000000 in
theorem free_q (g size tail used : Nat) (w : World) (h : RingAt w g size tail used) (h2 : size ≤ 2048) (hn : used ≤ size) :
    Calls Try.prog 25 #[.pointer (some ⟨g, 0, none⟩)] w fun e w' => e = .returned (.int .i64 ((size : Int) - (used : Int))) ∧ ∃ m, w' = w.drewN m := by
  obtain ⟨c0, c1, c2⟩ := h.cells
  clear h
  go_enter Try.func25, Try.ntmps25
  go_wp2
  go_quiet (fail)
  go_wp2
  go_ret
  exact ⟨rfl, _, rfl⟩

set_option maxRecDepth 100000 in
set_option maxHeartbeats 4000000 in
theorem stands_any (R A s t u : Nat) (w : World) (h : RingAt w R s t u) (hA : RefAt w A s t u) (h2 : s ≤ 2048) (h0 : 0 < s) (h3 : t < s) (hu : u ≤ s) :
    Calls Try.prog 39 #[.pointer (some ⟨R, 0, none⟩), .pointer (some ⟨A, 0, none⟩)] w fun e w' => e = .returned (.bool true) ∧ ∃ m, w' = w.drewN m := by
  have k1 : Hid (∀ n, Calls Try.prog 26 #[.pointer (some ⟨R, 0, none⟩)] (w.drewN n) fun e w' => e = .returned (.int .i64 (s : Nat)) ∧ ∃ m, w' = w.drewN m) :=
    fun n => (size_any R s t u _ (at_drewN h n)).mono fun e w' ⟨he, hw⟩ => ⟨he, n, hw.symm⟩
  have k2 : Hid (∀ n, Calls Try.prog 23 #[.pointer (some ⟨R, 0, none⟩)] (w.drewN n) fun e w' => e = .returned (.int .i64 (t : Nat)) ∧ ∃ m, w' = w.drewN m) :=
    fun n => (tail_any R s t u _ (at_drewN h n)).mono fun e w' ⟨he, hw⟩ => ⟨he, n, hw.symm⟩
  have k3 : Hid (∀ n, Calls Try.prog 22 #[.pointer (some ⟨R, 0, none⟩)] (w.drewN n) fun e w' => e = .returned (.int .i64 (u : Nat)) ∧ ∃ m, w' = w.drewN m) :=
    fun n => (used_any R s t u _ (at_drewN h n)).mono fun e w' ⟨he, hw⟩ => ⟨he, n, hw.symm⟩
  have k4 : Hid (∀ n, Calls Try.prog 20 #[.pointer (some ⟨R, 0, none⟩)] (w.drewN n) fun e w' => e = .returned (.int .i64 ((t + u) % s : Nat)) ∧ ∃ m, w' = w.drewN m) :=
    fun n => (head_q R s t u _ (at_drewN h n) h2 h0 h3 hu).mono fun e w' ⟨he, hw⟩ => ⟨he, drewN_of hw⟩
  have k5 : Hid (∀ n, Calls Try.prog 60 #[.pointer (some ⟨A, 0, none⟩)] (w.drewN n) fun e w' => e = .returned (.int .i64 ((t + u) % s : Nat)) ∧ ∃ m, w' = w.drewN m) :=
    fun n => (refhead_any A s t u _ (at_drewN hA n) h2 h0 h3 hu).mono fun e w' ⟨he, hw⟩ => ⟨he, drewN_of hw⟩
  have k6 : Hid (∀ n, Calls Try.prog 25 #[.pointer (some ⟨R, 0, none⟩)] (w.drewN n) fun e w' => e = .returned (.int .i64 ((s : Int) - (u : Int))) ∧ ∃ m, w' = w.drewN m) :=
    fun n => (free_q R s t u _ (at_drewN h n) h2 hu).mono fun e w' ⟨he, hw⟩ => ⟨he, drewN_of hw⟩
  obtain ⟨c0, c1, c2⟩ := RefAt.cells hA
  have hw : IntKind.i64.wrap ((s : Int) - (u : Int)) = (s : Int) - (u : Int) := IntWalk.i64_in _ (by omega)
  clear h hA
  generalize (t + u) % s = q at *
  go_enter Try.func39, Try.ntmps39
  go_wp2
  go_quiet (first
    | (go_at_call 26; exact k1.out _)
    | (go_at_call 23; exact k2.out _)
    | (go_at_call 22; exact k3.out _)
    | (go_at_call 20; exact k4.out _)
    | (go_at_call 60; exact k5.out _)
    | (go_at_call 25; exact k6.out _))
  go_wp2
  go_ret
  exact ⟨rfl, _, rfl⟩

end Go.Proofs.Ytjmnbpghfnageaa
