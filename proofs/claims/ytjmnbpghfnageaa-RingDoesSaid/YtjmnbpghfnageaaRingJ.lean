/- The law on the places: its walk. -/
import Derived.Test.YtjmnbpghfnageaaRingI
import Derived.Test.YtjmnbpghfnageaaRingH
set_option linter.unusedVariables false
namespace Go.Proofs.Ytjmnbpghfnageaa
open Go.RowKit

theorem slice39 : SliceOf Try.prog 39 4 1 1 := SliceOf.mk' (z := .bool false) Try.underlying39 (by decide) (by kernel_rfl) rfl
theorem zero4 : (Try.prog.info? 4).map (·.zero) = some (some (.bool false)) := by kernel_rfl

theorem RS.own {S : Nat → Prop} {w W W' : World} {s t u : Nat} (h : RS w W s t u) (hc : Chg S W W') (hS : ∀ k, S k → w.heap.size < k) : RS w W' s t u :=
  ⟨h.ring.mod hc (fun e => by have := hS _ e; omega), Chg.own h.bel hc (fun k hk => by have := hS _ hk; omega), h.h5, h.h2, h.ht, h.hu⟩

theorem RS.set {w W : World} {s t u g : Nat} (h : RS w W s t u) (hg : w.heap.size < g) (i : Nat) (v : Value) : RS w (W.setCell ⟨g, i, none⟩ v) s t u :=
  h.own (Chg.setCell (S := fun k => k = g) (Chg.refl _ _) ⟨g, i, none⟩ (.inl rfl) v) (fun k hk => by subst hk; exact hg)

theorem RS.live2 {w W : World} {s t u : Nat} (h : RS w W s t u) : Calls Try.prog 17 #[.pointer (some ⟨w.heap.size, 0, none⟩)] W fun e W' => ∃ v, e = .returned v ∧ SpanRow W' W.heap.size v (spansL s t u) ∧ RS w W' s t u ∧ Below W.heap.size W W' :=
  (live_any w.heap.size s t u W h.ring h.h2 h.ht h.hu).mono fun e W' ⟨v, he, hs, hb⟩ => ⟨v, he, hs, h.below hb, hb⟩

theorem run_at {s t k u : Nat} (ht : t < s) (hk : k < s) (hu : u ≤ s) : inRun s t u ((t + k) % s) = decide (k < u) := by
  unfold inRun
  by_cases h : t + k < s
  · rw [Nat.mod_eq_of_lt h]
    rw [show decide (t + k + s < t + u) = false from decide_eq_false (by omega), show decide (t ≤ t + k) = true from decide_eq_true (by omega), Bool.true_and, Bool.or_false]
    exact decide_eq_decide.2 (by omega)
  · have e : (t + k) % s = t + k - s := by rw [Nat.mod_eq_sub_mod (by omega), Nat.mod_eq_of_lt (by omega)]
    rw [e, show decide (t ≤ t + k - s) = false from decide_eq_false (by omega), Bool.false_and, Bool.false_or]
    exact decide_eq_decide.2 (by omega)

theorem run_succ {s t k : Nat} (ht : t < s) (hk : k < s) (i : Nat) (hi : i < s) : inRun s t (k + 1) i = if i = (t + k) % s then true else inRun s t k i := by
  split
  · rename_i h
    rw [h, run_at ht hk (by omega)]
    exact decide_eq_true (by omega)
  · rename_i h
    have h' : i ≠ t + k ∧ i + s ≠ t + k := by
      constructor
      · intro e; apply h; rw [← e, Nat.mod_eq_of_lt hi]
      · intro e; apply h; rw [← e, Nat.add_mod_right, Nat.mod_eq_of_lt hi]
    unfold inRun
    congr 1
    · by_cases h1 : t ≤ i
      · simp only [h1, decide_true, Bool.true_and]; exact decide_eq_decide.2 (by omega)
      · simp [h1]
    · exact decide_eq_decide.2 (by omega)

theorem places_next {w w1 : World} {s t u GL GS p : Nat} {A : Array Value} {f g : Nat → Bool} (R : RS w w1 s t u) (L : At w1 GL A 4) (M : At w1 GS (bools f s) 4) (E : (bools f s).setIfInBounds p (.bool true) = bools g s) (hL : GL ≠ GS) (hG : w.heap.size < GS) :
    RS w (w1.setCell ⟨GS, p, none⟩ (.bool true)) s t u ∧ At (w1.setCell ⟨GS, p, none⟩ (.bool true)) GL A 4 ∧ At (w1.setCell ⟨GS, p, none⟩ (.bool true)) GS (bools g s) 4 :=
  ⟨R.set hG p _, L.setOther (a := ⟨GS, p, none⟩) hL _, by rw [← E]; exact M.set p _⟩

set_option maxHeartbeats 1000000 in
theorem ringplaces_bad (a b c : Int) (w : World) (h : ¬ RingOk a b c) :
    Calls Try.prog 11 #[.int .i64 a, .int .i64 b, .int .i64 c] w fun e w' => e = .returned (.bool true) ∧ Below w.heap.size w w' := by
  have h1 := Lib.hid (rnew_bad a b c w (ring_not h))
  clear h
  have h2 := Lib.hid (rknown_any w)
  go_enter Try.func11, Try.ntmps11
  go_wp2_with (first
    | (go_at_call 15; refine h1.out.mono ?_; rintro e w1 ⟨rfl, rfl⟩)
    | (go_at_call 16; refine h2.out.mono ?_; rintro e w2 ⟨rfl, hb2⟩))
  go_ret
  exact ⟨rfl, hb2⟩

set_option maxRecDepth 100000 in
set_option maxHeartbeats 4000000 in
theorem ringplaces_good (a b c : Int) (w : World) (h : RingOk a b c) (hc0 : 0 < c) :
    Calls Try.prog 11 #[.int .i64 a, .int .i64 b, .int .i64 c] w fun e w' => e = .returned (.bool true) ∧ Below w.heap.size w w' := by
  obtain ⟨s, t, u, rfl, rfl, rfl, h5, h2, ht, hu, hnew⟩ := RS.new (w := w) h
  clear h
  have hu0 : 0 < u := by omega
  clear hc0
  have k1 := Lib.hid hnew
  clear hnew
  have km : Hid (∀ (W : World) (G b : Nat) (v : Value), G < b → SpanRow W b v (spansL s t u) → At W G (bools (fun _ => false) s) 4 → Calls Try.prog 24 #[v, .int .i64 t, .slice (some ⟨G, 0, none⟩) s s] W fun e W' =>
      e = .returned (.tuple #[.int .i64 u, .bool true]) ∧ At W' G (bools (inRun s t u) s) 4 ∧ Chg (fun k => k = G) W W') :=
    fun W G b v hb hr hg => (marks_any G s t u b v W _ h2 ht hu hb hr hg (fun _ _ _ => rfl)).mono fun e W' ⟨h1, h2, h3⟩ => ⟨h1, by rw [bools_eq (g := inRun s t u)] at h2; exact h2; intro i _; rfl, h3⟩
  go_enter Try.func11, Try.ntmps11
  go_wp2_with (first
    | (go_at_call 15; refine k1.out.mono ?_; rintro e w1 ⟨rfl, R1⟩)
    | (go_at_call 16; refine R1.known.mono ?_; rintro e w2 ⟨rfl, R2, c2⟩; clear R1)
    | (refine wpList_make_zero rfl _ _ 39 4 1 rfl slice39 _ zero4 rfl (fun _ => .bool false) _ _ _ _ s rfl rfl rfl rfl (by omega) (by unfold maxLen; omega) ?_; intro w3 L3 b3; rw [bools_zero] at L3; have R3 := R2.below b3; have r2 := R2.ring.lt; clear R2)
    | (go_at_call 17; (with_reducible refine (RS.live2 R3).mono ?_); rintro e w4 ⟨v, rfl, S4, R4, b4⟩; clear R3; have L4 := L3.below b4 L3.lt)
    | (go_at_call 24; (with_reducible refine (km.out _ _ _ _ L3.lt S4 L4).mono ?_); rintro e w5 ⟨rfl, L5, c5⟩; clear L3 L4 S4; have R5 := RS.own R4 c5 (fun k hk => by subst hk; exact r2); clear R4)
    | (refine wpList_make_zero rfl _ _ 39 4 1 rfl slice39 _ zero4 rfl (fun _ => .bool false) _ _ _ _ s rfl rfl rfl rfl (by omega) (by unfold maxLen; omega) ?_; intro w6 M6 b6; rw [bools_zero] at M6; have R6 := R5.below b6; have L6 := L5.below b6 L5.lt; have r5 := L5.lt; clear R5 L5))
  generalize w2.heap.size = GL at *
  generalize w5.heap.size = GS at *
  clear b3 b4 b6 c2 c5 k1 km
  go_loopw [13] (fun i wr => ∃ k : Nat, k ≤ s ∧ i = .int .i64 k ∧ RS w wr s t u ∧ At wr GL (bools (inRun s t u) s) 4 ∧ At wr GS (bools (inRun s t k) s) 4) (fun i _ => s - (intOf i).toNat)
  case atStart => exact ⟨0, by omega, rfl, R6, L6, by rw [bools_eq (g := fun _ => false)]; exact M6; intro i hi; unfold inRun; simp; omega⟩
  case round =>
    clear R6 L6 M6
    obtain ⟨k, hk, rfl, R, L, M⟩ := hrel
    by_cases hlt : k < s
    · have hp := Nat.mod_lt (t + k) (show 0 < s by omega)
      have e1 := run_at (u := u) ht hlt hu
      have e2 : inRun s t k ((t + k) % s) = false := by rw [run_at ht hlt (by omega)]; exact decide_eq_false (by omega)
      have e3 := bools_set (inRun s t k) _ s ((t + k) % s) (fun i hi => run_succ ht hlt i hi)
      have hat : Hid (Calls Try.prog 36 #[.pointer (some ⟨w.heap.size, 0, none⟩), .int .i64 k] wr fun e W' => e = .returned (.tuple #[.int .i64 ((t + k) % s : Nat), .int .u16 0]) ∧ RS w W' s t u ∧ Kept w wr W') := RS.at R hlt
      have hhead : Hid (∀ W, RS w W s t u → Calls Try.prog 20 #[.pointer (some ⟨w.heap.size, 0, none⟩)] W fun e W' => e = .returned (.int .i64 ((t + u) % s : Nat)) ∧ RS w W' s t u ∧ Kept w W W') := fun W h => h.head
      have e4 : k = 0 → (t + k) % s = t := fun h => by subst h; exact Nat.mod_eq_of_lt ht
      have e5 : k = u → (t + k) % s = (t + u) % s := fun h => by rw [h]
      generalize (t + k) % s = p at *
      generalize (t + u) % s = q at *
      have E3 := Lib.hid e3
      clear e3
      have n1 : decide ((p : Int) < 0) = false := decide_eq_false (by omega)
      have n2 : decide ((s : Int) ≤ (p : Int)) = false := decide_eq_false (by omega)
      have E3' := Lib.hid (show k + 1 ≤ s from hlt)
      rcases Nat.lt_trichotomy k u with hku | hku | hku
      · have d1 : decide ((k : Int) < (u : Int)) = true := decide_eq_true (by omega)
        have d2 : ((k : Int) == (u : Int)) = false := beq_eq_false_iff_ne.2 (by omega)
        rw [show decide (k < u) = true from decide_eq_true hku] at e1
        by_cases hk0 : k = 0
        · have e6 := e4 hk0
          subst hk0 e6
          clear e4 e5
          go_wp2_with (first
            | (go_at_call 36; refine hat.out.mono ?_; rintro e w1 ⟨rfl, R1, c1⟩; have L1 := L.mod c1 (by omega); have M1 := M.mod c1 (by omega); have a1 := L1.cell p; rw [bools_at _ _ _ hp, e1] at a1; have a2 := M1.cell p; rw [bools_at _ _ _ hp, e2] at a2; have f2 := M1.free p)
            | (go_at_call 20; refine (hhead.out _ R1).mono ?_; rintro e w2 ⟨rfl, R2, c2⟩; have L2 := L1.mod c2 (by omega); have M2 := M1.mod c2 (by omega); have b2 := M2.cell p; rw [bools_at _ _ _ hp, e2] at b2; have g2 := M2.free p))
          exact ⟨⟨_, by omega, by go_num, places_next R1 L1 M1 E3.out (by omega) (by omega)⟩, by simp [intOf]; omega⟩
        · have d4 : ((k : Int) == 0) = false := beq_eq_false_iff_ne.2 (by omega)
          clear e4 e5
          go_wp2_with (first
            | (go_at_call 36; refine hat.out.mono ?_; rintro e w1 ⟨rfl, R1, c1⟩; have L1 := L.mod c1 (by omega); have M1 := M.mod c1 (by omega); have a1 := L1.cell p; rw [bools_at _ _ _ hp, e1] at a1; have a2 := M1.cell p; rw [bools_at _ _ _ hp, e2] at a2; have f2 := M1.free p)
            | (go_at_call 20; refine (hhead.out _ R1).mono ?_; rintro e w2 ⟨rfl, R2, c2⟩; have L2 := L1.mod c2 (by omega); have M2 := M1.mod c2 (by omega); have b2 := M2.cell p; rw [bools_at _ _ _ hp, e2] at b2; have g2 := M2.free p))
          exact ⟨⟨_, by omega, by go_num, places_next R1 L1 M1 E3.out (by omega) (by omega)⟩, by simp [intOf]; omega⟩
      · have e6 := e5 hku
        subst hku e6
        rw [show decide (k < k) = false from decide_eq_false (by omega)] at e1
        have d4 : ((k : Int) == 0) = false := beq_eq_false_iff_ne.2 (by omega)
        clear e4 e5
        go_wp2_with (first
          | (go_at_call 36; refine hat.out.mono ?_; rintro e w1 ⟨rfl, R1, c1⟩; have L1 := L.mod c1 (by omega); have M1 := M.mod c1 (by omega); have a1 := L1.cell p; rw [bools_at _ _ _ hp, e1] at a1; have a2 := M1.cell p; rw [bools_at _ _ _ hp, e2] at a2; have f2 := M1.free p)
          | (go_at_call 20; refine (hhead.out _ R1).mono ?_; rintro e w2 ⟨rfl, R2, c2⟩; have L2 := L1.mod c2 (by omega); have M2 := M1.mod c2 (by omega); have b2 := M2.cell p; rw [bools_at _ _ _ hp, e2] at b2; have g2 := M2.free p))
        exact ⟨⟨_, by omega, by go_num, places_next R2 L2 M2 E3.out (by omega) (by omega)⟩, by simp [intOf]; omega⟩
      · have d1 : decide ((k : Int) < (u : Int)) = false := decide_eq_false (by omega)
        have d2 : ((k : Int) == (u : Int)) = false := beq_eq_false_iff_ne.2 (by omega)
        rw [show decide (k < u) = false from decide_eq_false (by omega)] at e1
        have d4 : ((k : Int) == 0) = false := beq_eq_false_iff_ne.2 (by omega)
        clear e4 e5
        go_wp2_with (first
          | (go_at_call 36; refine hat.out.mono ?_; rintro e w1 ⟨rfl, R1, c1⟩; have L1 := L.mod c1 (by omega); have M1 := M.mod c1 (by omega); have a1 := L1.cell p; rw [bools_at _ _ _ hp, e1] at a1; have a2 := M1.cell p; rw [bools_at _ _ _ hp, e2] at a2; have f2 := M1.free p)
          | (go_at_call 20; refine (hhead.out _ R1).mono ?_; rintro e w2 ⟨rfl, R2, c2⟩; have L2 := L1.mod c2 (by omega); have M2 := M1.mod c2 (by omega); have b2 := M2.cell p; rw [bools_at _ _ _ hp, e2] at b2; have g2 := M2.free p))
        exact ⟨⟨_, by omega, by go_num, places_next R1 L1 M1 E3.out (by omega) (by omega)⟩, by simp [intOf]; omega⟩
    · clear L M
      go_wp2
      go_ret
      exact ⟨rfl, R.bel⟩

set_option maxRecDepth 100000 in
set_option maxHeartbeats 4000000 in
theorem ringplaces_zero (a b : Int) (w : World) (h : RingOk a b 0) :
    Calls Try.prog 11 #[.int .i64 a, .int .i64 b, .int .i64 0] w fun e w' => e = .returned (.bool true) ∧ Below w.heap.size w w' := by
  obtain ⟨s, t, u, rfl, rfl, hu0, h5, h2, ht, hu, hnew⟩ := RS.new (w := w) h
  clear h
  obtain rfl : u = 0 := by omega
  clear hu0
  have k1 : Hid (Calls Try.prog 15 #[.int .i64 s, .int .i64 t, .int .i64 0] w fun e W' => e = .returned (.tuple #[.pointer (some ⟨w.heap.size, 0, none⟩), .int .u16 0]) ∧ RS w W' s t 0) := hnew
  clear hnew
  have km : Hid (∀ (W : World) (G b : Nat) (v : Value), G < b → SpanRow W b v (spansL s t 0) → At W G (bools (fun _ => false) s) 4 → Calls Try.prog 24 #[v, .int .i64 t, .slice (some ⟨G, 0, none⟩) s s] W fun e W' =>
      e = .returned (.tuple #[.int .i64 0, .bool true]) ∧ At W' G (bools (inRun s t 0) s) 4 ∧ Chg (fun k => k = G) W W') :=
    fun W G b v hb hr hg => (marks_any G s t 0 b v W _ h2 ht hu hb hr hg (fun _ _ _ => rfl)).mono fun e W' ⟨h1, h2, h3⟩ => ⟨h1, by rw [bools_eq (g := inRun s t 0)] at h2; exact h2; intro i _; rfl, h3⟩
  go_enter Try.func11, Try.ntmps11
  go_wp2_with (first
    | (go_at_call 15; refine k1.out.mono ?_; rintro e w1 ⟨rfl, R1⟩)
    | (go_at_call 16; refine R1.known.mono ?_; rintro e w2 ⟨rfl, R2, c2⟩; clear R1)
    | (refine wpList_make_zero rfl _ _ 39 4 1 rfl slice39 _ zero4 rfl (fun _ => .bool false) _ _ _ _ s rfl rfl rfl rfl (by omega) (by unfold maxLen; omega) ?_; intro w3 L3 b3; rw [bools_zero] at L3; have R3 := R2.below b3; have r2 := R2.ring.lt; clear R2)
    | (go_at_call 17; (with_reducible refine (RS.live2 R3).mono ?_); rintro e w4 ⟨v, rfl, S4, R4, b4⟩; clear R3; have L4 := L3.below b4 L3.lt)
    | (go_at_call 24; (with_reducible refine (km.out _ _ _ _ L3.lt S4 L4).mono ?_); rintro e w5 ⟨rfl, L5, c5⟩; clear L3 L4 S4; have R5 := RS.own R4 c5 (fun k hk => by subst hk; exact r2); clear R4)
    | (refine wpList_make_zero rfl _ _ 39 4 1 rfl slice39 _ zero4 rfl (fun _ => .bool false) _ _ _ _ s rfl rfl rfl rfl (by omega) (by unfold maxLen; omega) ?_; intro w6 M6 b6; rw [bools_zero] at M6; have R6 := R5.below b6; have L6 := L5.below b6 L5.lt; have r5 := L5.lt; clear R5 L5))
  generalize w2.heap.size = GL at *
  generalize w5.heap.size = GS at *
  clear b3 b4 b6 c2 c5 k1 km
  go_loopw [13] (fun i wr => ∃ k : Nat, k ≤ s ∧ i = .int .i64 k ∧ RS w wr s t 0 ∧ At wr GL (bools (inRun s t 0) s) 4 ∧ At wr GS (bools (inRun s t k) s) 4) (fun i _ => s - (intOf i).toNat)
  case atStart => exact ⟨0, by omega, rfl, R6, L6, by rw [bools_eq (g := fun _ => false)]; exact M6; intro i hi; unfold inRun; simp; omega⟩
  case round =>
    clear R6 L6 M6
    obtain ⟨k, hk, rfl, R, L, M⟩ := hrel
    by_cases hlt : k < s
    · have hp := Nat.mod_lt (t + k) (show 0 < s by omega)
      have e1 := run_at (u := 0) ht hlt hu
      have e2 : inRun s t k ((t + k) % s) = false := by rw [run_at ht hlt (by omega)]; exact decide_eq_false (by omega)
      have e3 := bools_set (inRun s t k) _ s ((t + k) % s) (fun i hi => run_succ ht hlt i hi)
      have hat : Hid (Calls Try.prog 36 #[.pointer (some ⟨w.heap.size, 0, none⟩), .int .i64 k] wr fun e W' => e = .returned (.tuple #[.int .i64 ((t + k) % s : Nat), .int .u16 0]) ∧ RS w W' s t 0 ∧ Kept w wr W') := RS.at R hlt
      have hhead : Hid (∀ W, RS w W s t 0 → Calls Try.prog 20 #[.pointer (some ⟨w.heap.size, 0, none⟩)] W fun e W' => e = .returned (.int .i64 ((t + 0) % s : Nat)) ∧ RS w W' s t 0 ∧ Kept w W W') := fun W h => h.head
      have e4 : k = 0 → (t + k) % s = t := fun h => by subst h; exact Nat.mod_eq_of_lt ht
      have e5 : k = 0 → (t + k) % s = (t + 0) % s := fun h => by rw [h]
      generalize (t + k) % s = p at *
      generalize (t + 0) % s = q at *
      have E3 := Lib.hid e3
      clear e3
      have n1 : decide ((p : Int) < 0) = false := decide_eq_false (by omega)
      have n2 : decide ((s : Int) ≤ (p : Int)) = false := decide_eq_false (by omega)
      have E3' := Lib.hid (show k + 1 ≤ s from hlt)
      rw [show decide (k < 0) = false from decide_eq_false (by omega)] at e1
      by_cases hk0 : k = 0
      · have e6 := e4 hk0
        have e8 := e5 hk0
        rw [e6] at e8
        clear e4 e5
        subst e8
        subst e6
        subst hk0
        go_wp2_with (first
          | (go_at_call 36; refine hat.out.mono ?_; rintro e w1 ⟨rfl, R1, c1⟩; have L1 := L.mod c1 (by omega); have M1 := M.mod c1 (by omega); have a1 := L1.cell p; rw [bools_at _ _ _ hp, e1] at a1; have a2 := M1.cell p; rw [bools_at _ _ _ hp, e2] at a2; have f2 := M1.free p)
          | (go_at_call 20; refine (hhead.out _ R1).mono ?_; rintro e w2 ⟨rfl, R2, c2⟩; have L2 := L1.mod c2 (by omega); have M2 := M1.mod c2 (by omega); have b2 := M2.cell p; rw [bools_at _ _ _ hp, e2] at b2; have g2 := M2.free p))
        exact ⟨⟨_, by omega, by go_num, places_next R2 L2 M2 E3.out (by omega) (by omega)⟩, by simp [intOf]; omega⟩
      · have d4 : ((k : Int) == 0) = false := beq_eq_false_iff_ne.2 (by omega)
        have d1 : decide ((k : Int) < 0) = false := decide_eq_false (by omega)
        clear e4 e5
        go_wp2_with (first
          | (go_at_call 36; refine hat.out.mono ?_; rintro e w1 ⟨rfl, R1, c1⟩; have L1 := L.mod c1 (by omega); have M1 := M.mod c1 (by omega); have a1 := L1.cell p; rw [bools_at _ _ _ hp, e1] at a1; have a2 := M1.cell p; rw [bools_at _ _ _ hp, e2] at a2; have f2 := M1.free p)
          | (go_at_call 20; refine (hhead.out _ R1).mono ?_; rintro e w2 ⟨rfl, R2, c2⟩; have L2 := L1.mod c2 (by omega); have M2 := M1.mod c2 (by omega); have b2 := M2.cell p; rw [bools_at _ _ _ hp, e2] at b2; have g2 := M2.free p))
        exact ⟨⟨_, by omega, by go_num, places_next R1 L1 M1 E3.out (by omega) (by omega)⟩, by simp [intOf]; omega⟩
    · clear L M
      go_wp2
      go_ret
      exact ⟨rfl, R.bel⟩

theorem ringPlaces_walk (w : World) (a : Int) (_ : (Lit.int .i64 a).wf = true) (b : Int) (_ : (Lit.int .i64 b).wf = true) (c : Int) (_ : (Lit.int .i64 c).wf = true) :
    Calls Try.prog 11 #[.int .i64 a, .int .i64 b, .int .i64 c] w fun e w' => e = .returned (.bool true) ∧ Below w.heap.size w w' := by
  by_cases h : RingOk a b c
  · by_cases hc : 0 < c
    · exact ringplaces_good a b c w h hc
    · obtain rfl : c = 0 := by unfold RingOk at h; omega
      exact ringplaces_zero a b w h
  · exact ringplaces_bad a b c w h

end Go.Proofs.Ytjmnbpghfnageaa
