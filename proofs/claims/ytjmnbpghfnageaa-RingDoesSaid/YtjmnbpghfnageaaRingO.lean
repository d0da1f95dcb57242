/- The reference's ring: the methods; 'stands'. -/
import Derived.Test.YtjmnbpghfnageaaRingN
set_option linter.unusedVariables false
namespace Go.Proofs.Ytjmnbpghfnageaa
open Go.RowKit

theorem refhead_below (g s t u : Nat) (w : World) (h : RefAt w g s t u) (h2 : s ≤ 2048) (h0 : 0 < s) (h3 : t < s) (hn : u ≤ s) :
    Calls Try.prog 60 #[.pointer (some ⟨g, 0, none⟩)] w fun e w' => e = .returned (.int .i64 ((t + u) % s : Nat)) ∧ Below w.heap.size w w' :=
  (refhead_any g s t u w h h2 h0 h3 hn).mono fun e w' ⟨he, n, hw⟩ => ⟨he, hw ▸ below_drewN (Below.refl _ _) n⟩

set_option maxRecDepth 100000 in
set_option maxHeartbeats 2000000 in
theorem reflive_any (g s t u : Nat) (w : World) (h : RefAt w g s t u) (h2 : s ≤ 2048) (h3 : t < s) (hn : u ≤ s) :
    Calls Try.prog 57 #[.pointer (some ⟨g, 0, none⟩)] w (SpanPost w s t u) := by
  obtain ⟨c0, c1, c2⟩ := RefAt.cells h
  have hlt := h.lt
  have H := Lib.hid h
  have HD := Lib.hid (RefAt.cells (h.drew)).2
  clear h
  go_enter Try.func57, Try.ntmps57
  go_wp2
  go_region_held3 (fun w' => w'.cell? ⟨g, 1, none⟩ = some (.int .i64 (t : Int)) ∧ w'.cell? ⟨g, 2, none⟩ = some (.int .i64 (u : Int)))
    (first | exact HD.out | exact (RefAt.cells (H.out.drew.below hb hlt)).2)
    (first | (go_at_call 75; refine (refspans_any g s t u t u w.drew H.out.drew h2 h3 hn).mono ?_; rintro e w2 ⟨v, rfl, hrow, hb⟩))
  go_wp2
  go_ret
  exact ⟨_, rfl, hrow, (Below.refl w.heap.size w).drew.trans hb⟩

set_option maxHeartbeats 1000000 in
theorem reftake_neg (a : Option Addr) (n : Int) (hn : n < 0) (w : World) :
    Calls Try.prog 55 #[.pointer a, .int .i64 n] w fun e w' => e = .returned (.tuple #[.slice none 0 0, .int .i64 1]) ∧ Below w.heap.size w w' := by
  go_enter Try.func55, Try.ntmps55
  go_wp2
  go_ret2
  exact ⟨rfl, Below.refl _ _⟩

set_option maxHeartbeats 1000000 in
theorem reftake_full (g s t u : Nat) (n : Int) (w : World) (h : RefAt w g s t u) (h2 : s ≤ 2048) (hu : u ≤ s) (h0 : 0 ≤ n) (hn : ((s - u : Nat) : Int) < n) :
    Calls Try.prog 55 #[.pointer (some ⟨g, 0, none⟩), .int .i64 n] w fun e w' => e = .returned (.tuple #[.slice none 0 0, .int .i64 90]) ∧ Below w.heap.size w w' := by
  obtain ⟨c0, c1, c2⟩ := RefAt.cells h
  have hd : decide ((s : Int) - (u : Int) < n) = true := decide_eq_true (by omega)
  clear h
  go_enter Try.func55, Try.ntmps55
  go_wp2
  go_quiet (fail)
  go_wp2
  go_ret2
  exact ⟨rfl, below_drewN (Below.refl _ _) _⟩

def RefPost (w : World) (g s t u start n : Nat) (e : Ending) (w' : World) : Prop :=
  ∃ v, e = .returned (.tuple #[v, .int .i64 0]) ∧ RefAt w' g s t u ∧ SpanRow w' w.heap.size v (spansL s start n) ∧ Chg (fun k => k = g) w w'

set_option maxRecDepth 100000 in
set_option maxHeartbeats 2000000 in
theorem reftake_ok (g s t u n : Nat) (w : World) (h : RefAt w g s t u) (h2 : s ≤ 2048) (h0 : 0 < s) (h3 : t < s) (hu : u ≤ s) (hn : n ≤ s - u) :
    Calls Try.prog 55 #[.pointer (some ⟨g, 0, none⟩), .int .i64 n] w (RefPost w g s t (u + n) ((t + u) % s) n) := by
  have hq := Nat.mod_lt (t + u) h0
  have hhead := Lib.hid (fun (W : World) (hb : Below w.heap.size w W) => refhead_below g s t u W (h.below hb h.lt) h2 h0 h3 hu)
  have hcol := Lib.hid (fun (W : World) (hb : Below w.heap.size w W) => refspans_any g s t u ((t + u) % s) n W (h.below hb h.lt) h2 hq (by omega))
  have hlt := h.lt
  have H := Lib.hid h
  obtain ⟨c0, c1, c2⟩ := RefAt.cells h
  have hd : decide ((s : Int) - (u : Int) < (n : Int)) = false := decide_eq_false (by omega)
  have hn2 : n ≤ 2048 := by omega
  clear h
  generalize (t + u) % s = st at *
  go_enter Try.func55, Try.ntmps55
  go_wp2
  go_quiet (fail)
  go_wp2_with (first
    | (go_at_call 60; refine (hhead.out _ (below_drewN (Below.refl _ _) _)).mono ?_; rintro e w2 ⟨rfl, hb2⟩; have hb2' := below_then (below_drewN (Below.refl w.heap.size w) _) hb2)
    | (go_at_call 75; refine (hcol.out _ hb2').mono ?_; rintro e w4 ⟨v, rfl, hrow, hb4⟩; have hb4' := below_then hb2' hb4; have hr4 := H.out.below hb4' hlt; obtain ⟨d0, d1, d2⟩ := RefAt.cells hr4; have f2 := hr4.free 2))
  go_ret2
  refine ⟨v, rfl, hr4.set 2 (.int .i64 ((u + n : Nat) : Int)), ?_, ?_⟩
  · exact (hrow.set (a := ⟨g, 2, none⟩) (Nat.lt_of_lt_of_le hlt hb2'.size) _).rebase hb2'.size
  · exact Chg.setCell (S := fun k => k = g) (Chg.ofBelow hb4' _) ⟨g, 2, none⟩ (.inl rfl) _

set_option maxHeartbeats 1000000 in
theorem refgive_neg (a : Option Addr) (n : Int) (hn : n < 0) (w : World) :
    Calls Try.prog 56 #[.pointer a, .int .i64 n] w fun e w' => e = .returned (.tuple #[.slice none 0 0, .int .i64 1]) ∧ Below w.heap.size w w' := by
  go_enter Try.func56, Try.ntmps56
  go_wp2
  go_ret2
  exact ⟨rfl, Below.refl _ _⟩

set_option maxHeartbeats 1000000 in
theorem refgive_less (g s t u : Nat) (n : Int) (w : World) (h : RefAt w g s t u) (h0 : 0 ≤ n) (hn : (u : Int) < n) :
    Calls Try.prog 56 #[.pointer (some ⟨g, 0, none⟩), .int .i64 n] w fun e w' => e = .returned (.tuple #[.slice none 0 0, .int .i64 91]) ∧ Below w.heap.size w w' := by
  obtain ⟨c0, c1, c2⟩ := RefAt.cells h
  clear h
  go_enter Try.func56, Try.ntmps56
  go_wp2
  go_ret2
  exact ⟨rfl, Below.refl _ _⟩

set_option maxRecDepth 100000 in
set_option maxHeartbeats 4000000 in
theorem refgive_ok (g s t u n : Nat) (w : World) (h : RefAt w g s t u) (h2 : s ≤ 2048) (h0 : 0 < s) (h3 : t < s) (hu : u ≤ s) (hn : n ≤ u) :
    Calls Try.prog 56 #[.pointer (some ⟨g, 0, none⟩), .int .i64 n] w (RefPost w g s ((t + n) % s) (u - n) t n) := by
  have hcol := Lib.hid (refspans_any g s t u t n w h h2 h3 (by omega))
  have hlt := h.lt
  have H := Lib.hid h
  have hno : ¬ ((u : Int) < (n : Int)) := by omega
  have hq : (u : Int) - (n : Int) = ((u - n : Nat) : Int) := by omega
  have hwq : IntKind.i64.wrap ((u - n : Nat) : Int) = ((u - n : Nat) : Int) := IntWalk.i64_in _ (by omega)
  have hmod : ((t : Int) + (n : Int)) % (s : Int) = (((t + n) % s : Nat) : Int) := by simp
  have hs : ((s : Int) == 0) = false := beq_eq_false_iff_ne.2 (by omega)
  have hst := Nat.mod_lt (t + n) h0
  obtain ⟨c0, c1, c2⟩ := RefAt.cells h
  clear h
  generalize u - n = q at *
  generalize (t + n) % s = st at *
  go_enter Try.func56, Try.ntmps56
  go_wp2_with (go_at_call 75; refine hcol.out.mono ?_; rintro e w4 ⟨v, rfl, hrow, hb4⟩; have hr4 := H.out.below hb4 hlt; obtain ⟨d0, d1, d2⟩ := RefAt.cells hr4; have f1 := hr4.free 1; have f2 := hr4.free 2)
  go_region
  all_goals
    go_wp2
    go_ret2
    refine ⟨v, rfl, ((hr4.drew).set 1 _).set 2 _, ?_, ?_⟩
    · exact ((hrow.below (Below.refl w4.heap.size w4).drew (Nat.le_refl _)).set (a := ⟨g, 1, none⟩) hlt _).set (a := ⟨g, 2, none⟩) hlt _
    · exact Chg.setCell (S := fun k => k = g) (Chg.setCell (S := fun k => k = g) (Chg.ofBelow hb4 _).drew ⟨g, 1, none⟩ (.inl rfl) _) ⟨g, 2, none⟩ (.inl rfl) _

set_option maxHeartbeats 1000000 in
theorem refat_bad (g s t u : Nat) (n : Int) (w : World) (h : RefAt w g s t u) (hn : n < 0 ∨ (0 ≤ n ∧ (s : Int) ≤ n)) :
    Calls Try.prog 58 #[.pointer (some ⟨g, 0, none⟩), .int .i64 n] w fun e w' => e = .returned (.tuple #[.int .i64 0, .int .i64 3]) ∧ Below w.heap.size w w' := by
  obtain ⟨c0, c1, c2⟩ := RefAt.cells h
  clear h
  rcases hn with hn | ⟨hn, hn'⟩
  all_goals
    go_enter Try.func58, Try.ntmps58
    go_wp2
    go_ret2
    exact ⟨rfl, Below.refl _ _⟩

theorem ret_int2 {k k2 : IntKind} {a b c : Int} (h : a = b) : Ending.returned (.tuple #[.int k a, .int k2 c]) = .returned (.tuple #[.int k b, .int k2 c]) := by rw [h]

set_option maxHeartbeats 1000000 in
theorem refat_ok (g s t u n : Nat) (w : World) (h : RefAt w g s t u) (h2 : s ≤ 2048) (h3 : t < s) (hn : n < s) :
    Calls Try.prog 58 #[.pointer (some ⟨g, 0, none⟩), .int .i64 n] w fun e w' => e = .returned (.tuple #[.int .i64 ((t + n) % s : Nat), .int .i64 0]) ∧ Below w.heap.size w w' := by
  obtain ⟨c0, c1, c2⟩ := RefAt.cells h
  have hmod : ((t : Int) + (n : Int)) % (s : Int) = (((t + n) % s : Nat) : Int) := by simp
  have hs : ((s : Int) == 0) = false := beq_eq_false_iff_ne.2 (by omega)
  clear h
  generalize (t + n) % s = st at *
  go_enter Try.func58, Try.ntmps58
  go_wp2
  go_quiet (fail)
  go_wp2
  go_ret2
  exact ⟨ret_int2 hmod, below_drewN (Below.refl _ _) _⟩

end Go.Proofs.Ytjmnbpghfnageaa
