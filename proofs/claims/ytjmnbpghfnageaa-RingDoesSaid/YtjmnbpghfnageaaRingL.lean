/- The law on what is taken and given: its walk. -/
import Derived.Test.YtjmnbpghfnageaaRingK
set_option linter.unusedVariables false
namespace Go.Proofs.Ytjmnbpghfnageaa
open Go.RowKit

theorem RS.take2 {w W : World} {s t u n : Nat} (h : RS w W s t u) (hn : n ≤ s - u) :
    Calls Try.prog 18 #[.pointer (some ⟨w.heap.size, 0, none⟩), .int .i64 n] W fun e W' => ∃ v, e = .returned (.tuple #[v, .int .u16 0]) ∧ SpanRow W' W.heap.size v (spansL s ((t + u) % s) n) ∧ RS w W' s t (u + n) ∧ Kept w W W' :=
  (take_ok w.heap.size s t u n W h.ring h.h2 (by have := h.h5; omega) h.ht h.hu hn).mono fun e W' ⟨v, he, hr, hs, hc⟩ =>
    ⟨v, he, hs, h.kept hr hc h.h5 h.h2 h.ht (by have := h.hu; omega), hc⟩

theorem RS.give2 {w W : World} {s t u n : Nat} (h : RS w W s t u) (hn : n ≤ u) :
    Calls Try.prog 21 #[.pointer (some ⟨w.heap.size, 0, none⟩), .int .i64 n] W fun e W' => ∃ v, e = .returned (.tuple #[v, .int .u16 0]) ∧ SpanRow W' W.heap.size v (spansL s t n) ∧ RS w W' s ((t + n) % s) (u - n) ∧ Kept w W W' :=
  (give_ok w.heap.size s t u n W h.ring h.h2 (by have := h.h5; omega) h.ht h.hu hn).mono fun e W' ⟨v, he, hr, hs, hc⟩ =>
    ⟨v, he, hs, h.kept hr hc h.h5 h.h2 (Nat.mod_lt _ (by have := h.h5; omega)) (by have := h.hu; omega), hc⟩

theorem RS.drew {w W : World} {s t u : Nat} (h : RS w W s t u) (n : Nat) : RS w (W.drewN n) s t u := h.below (below_drewN (Below.refl _ _) n)

theorem RS.tailq {w W : World} {s t u : Nat} (h : RS w W s t u) (n : Nat) : Calls Try.prog 23 #[.pointer (some ⟨w.heap.size, 0, none⟩)] (W.drewN n) fun e W' => e = .returned (.int .i64 (t : Nat)) ∧ ∃ m, W' = W.drewN m :=
  (h.drew n).tailc.mono fun e W' ⟨he, hw⟩ => ⟨he, n, hw.symm⟩

theorem run_disj {s t u n i : Nat} (ht : t < s) (hu : u ≤ s) (hn : n ≤ s - u) (hi : i < s) (h : inRun s ((t + u) % s) n i = true) : inRun s t u i = false := by
  have e : (t + u) % s = t + u ∨ (t + u) % s + s = t + u := by
    by_cases h1 : t + u < s
    · exact .inl (Nat.mod_eq_of_lt h1)
    · by_cases h2 : t + u < 2 * s
      · right; rw [Nat.mod_eq_sub_mod (by omega), Nat.mod_eq_of_lt (by omega)]; omega
      · omega
  have hq : (t + u) % s < s := Nat.mod_lt _ (by omega)
  generalize (t + u) % s = q at *
  unfold inRun at h ⊢
  simp only [Bool.or_eq_true, Bool.and_eq_true, decide_eq_true_eq] at h
  simp only [Bool.or_eq_false_iff, Bool.and_eq_false_iff, decide_eq_false_iff_not]
  omega

theorem tmod_nat (a b s : Nat) : ((a : Int) + (b : Int)).tmod (s : Int) = (((a + b) % s : Nat) : Int) := by
  rw [← Int.natCast_add]; rfl

set_option maxRecDepth 100000 in
set_option maxHeartbeats 1000000 in
theorem ringgoes_bad (a b c : Int) (v : Value) (l : List (Int × Int)) (w : World) (h : ¬ RingOk a b c) (hv : Ops w v l) (hl : l.length ≤ 20000) :
    Calls Try.prog 5 #[.int .i64 a, .int .i64 b, .int .i64 c, v] w fun e w' => e = .returned (.bool true) ∧ Below w.heap.size w w' := by
  have h1 := Lib.hid (rnew_bad a b c w (ring_not h))
  clear h
  have h2 := Lib.hid (rknown_any w)
  obtain ⟨x, y, rfl⟩ := hv.shape
  clear hv
  go_enter Try.func5, Try.ntmps5
  go_wp2_with (first
    | (go_at_call 15; refine h1.out.mono ?_; rintro e w1 ⟨rfl, rfl⟩)
    | (go_at_call 16; refine h2.out.mono ?_; rintro e w2 ⟨rfl, hb2⟩))
  go_ret
  exact ⟨rfl, hb2⟩

set_option maxRecDepth 100000 in
set_option maxHeartbeats 1000000 in
theorem ringgoes_long (a b c : Int) (v : Value) (l : List (Int × Int)) (w : World) (hv : Ops w v l) (hl : 20000 < l.length) :
    Calls Try.prog 5 #[.int .i64 a, .int .i64 b, .int .i64 c, v] w fun e w' => e = .returned (.bool true) ∧ Below w.heap.size w w' := by
  have h63 : l.length ≤ 9223372036854775807 := by obtain ⟨_, _, _, h, _⟩ := hv; exact h
  obtain ⟨x, y, rfl⟩ := hv.shape
  clear hv
  go_enter Try.func5, Try.ntmps5
  go_wp2
  go_ret
  exact ⟨rfl, Below.refl _ _⟩

set_option maxRecDepth 100000 in
set_option maxHeartbeats 16000000 in
theorem ringgoes_good (a b c : Int) (v : Value) (l : List (Int × Int)) (w : World) (h : RingOk a b c) (hv : Ops w v l) (hl : l.length ≤ 20000) :
    Calls Try.prog 5 #[.int .i64 a, .int .i64 b, .int .i64 c, v] w fun e w' => e = .returned (.bool true) ∧ Below w.heap.size w w' := by
  obtain ⟨s, t0, u0, rfl, rfl, rfl, h5, h2, ht0, hu0, hnew⟩ := RS.new (w := w) h
  clear h
  have k1 := Lib.hid hnew
  clear hnew
  have HV := Lib.hid hv
  obtain ⟨va, vc, rfl⟩ := hv.shape
  clear hv
  go_enter Try.func5, Try.ntmps5
  go_wp2_with (first
    | (go_at_call 15; refine k1.out.mono ?_; rintro e w1 ⟨rfl, R1⟩)
    | (go_at_call 16; refine R1.known.mono ?_; rintro e w2 ⟨rfl, R2, c2⟩; clear R1))
  clear c2
  go_loopw [11, 12] (fun x i wr => ∃ k t u : Nat, k ≤ l.length ∧ i = .int .i64 k ∧ x = .int .i64 (u : Nat) ∧ RS w wr s t u) (fun _ i _ => l.length - (intOf i).toNat)
  case atStart => exact ⟨0, t0, u0, by omega, rfl, rfl, R2⟩
  case round =>
    clear R2 ht0 hu0 k1
    obtain ⟨k, t, u, hk, rfl, rfl, R⟩ := hrel
    by_cases hlt : k < l.length
    · by_cases h100 : k < 100
      · obtain ⟨b, off, cap, e1, hb, hat⟩ := Ops.full HV.out (by omega)
        simp only [Value.slice.injEq] at e1
        obtain ⟨rfl, _, rfl⟩ := e1
        have hc0 := hat k hlt
        clear hat HV
        obtain ⟨x, y, hcell⟩ : ∃ x y : Int, Hid (∀ W, Below w.heap.size w W → W.cell? ⟨b, off + k * 2, none⟩ = some (.int .i64 x) ∧ W.cell? ⟨b, off + k * 2 + 1, none⟩ = some (.int .i64 y)) :=
          ⟨_, _, fun W hb' => ⟨(hb'.cell (p := ⟨b, off + k * 2, none⟩) hb).trans hc0.1, (hb'.cell (p := ⟨b, off + k * 2 + 1, none⟩) hb).trans hc0.2⟩⟩
        clear hc0
        have ht := R.ht
        have hu := R.hu
        have K1 : Hid (k + 1 ≤ l.length) := hlt
        have khead : Hid (∀ W, RS w W s t u → Calls Try.prog 20 #[.pointer (some ⟨w.heap.size, 0, none⟩)] W fun e W' => e = .returned (.int .i64 ((t + u) % s : Nat)) ∧ RS w W' s t u ∧ Kept w W W') := fun W h => h.head
        have kfree : Hid (∀ W, RS w W s t u → Calls Try.prog 25 #[.pointer (some ⟨w.heap.size, 0, none⟩)] W fun e W' => e = .returned (.int .i64 ((s : Int) - (u : Int))) ∧ RS w W' s t u ∧ Kept w W W') :=
          fun W h => by have := h.free; rw [Int.ofNat_sub hu] at this; exact this
        have km : Hid (∀ (W : World) (G b : Nat) (v : Value), G < b → SpanRow W b v (spansL s t u) → At W G (bools (fun _ => false) s) 4 → Calls Try.prog 24 #[v, .int .i64 t, .slice (some ⟨G, 0, none⟩) s s] W fun e W' =>
            e = .returned (.tuple #[.int .i64 u, .bool true]) ∧ At W' G (bools (inRun s t u) s) 4 ∧ Chg (fun k => k = G) W W') :=
          fun W G b v hb hr hg => (marks_any G s t u b v W _ h2 ht hu hb hr hg (fun _ _ _ => rfl)).mono fun e W' ⟨h1, h2, h3⟩ => ⟨h1, by rw [bools_eq (g := inRun s t u)] at h2; exact h2; intro i _; rfl, h3⟩
        have tm : ((t : Int) + (u : Int)).tmod (s : Int) = (((t + u) % s : Nat) : Int) := tmod_nat t u s
        have tm0 : (t : Int).tmod (s : Int) = (t : Int) := by rw [← Int.ofNat_tmod, Nat.mod_eq_of_lt ht]

        by_cases hx1 : x = 1
        · subst hx1
          by_cases hy : y < 0 ∨ ((s - u : Nat) : Int) < y
          · have ybad : ((0 : Int) == y) = false := beq_eq_false_iff_ne.2 (by omega)
            have hqlt := Nat.mod_lt (t + u) (show 0 < s by omega)
            rcases (show y < 0 ∨ (0 ≤ y ∧ (s : Int) - (u : Int) < y) by omega) with hy1 | ⟨hy1, hy2⟩
            · have kt : Hid (∀ W, RS w W s t u → Calls Try.prog 18 #[.pointer (some ⟨w.heap.size, 0, none⟩), .int .i64 y] W fun e W' => e = .returned (.tuple #[.slice none 0 0, .int .u16 1]) ∧ RS w W' s t u ∧ Kept w W W') :=
                fun W h => (h.takeBad hy).mono fun e W' ⟨he, hr⟩ => ⟨by rw [he, if_pos hy1], hr⟩
              have y1 : decide (0 ≤ y) = false := decide_eq_false (by omega)
              generalize (t + u) % s = q at *
              as_aux_lemma =>
                go_wp2_with (first
                | (go_at_call 20; (with_reducible refine (khead.out _ R).mono ?_); rintro e w1 ⟨rfl, R1, c1⟩; clear R)
                | (go_at_call 23; (with_reducible refine (R1.tailc).mono ?_); rintro e w1' ⟨rfl, rfl⟩)
                | (refine wpList_make_zero rfl _ _ 39 4 1 rfl slice39 _ zero4 rfl (fun _ => .bool false) _ _ _ _ s rfl rfl rfl rfl (by omega) (by unfold maxLen; omega) ?_; intro w2 L2 b2; rw [bools_zero] at L2; have R2 := R1.below b2; have r2 := R1.ring.lt; clear R1)
                | (go_at_call 17; (with_reducible refine (RS.live2 R2).mono ?_); rintro e w3 ⟨v3, rfl, S3, R3, b3⟩; clear R2; have L3 := L2.below b3 L2.lt)
                | (go_at_call 24; (with_reducible refine (km.out _ _ _ _ L2.lt S3 L3).mono ?_); rintro e w4 ⟨rfl, L4, c4⟩; clear L2 L3 S3; have R4 := RS.own R3 c4 (fun k hk => by subst hk; exact r2); clear R3)
                | (go_at_call 22; (with_reducible refine R4.usedc.mono ?_); rintro e w4' ⟨rfl, rfl⟩)
                | (go_at_call 25; (with_reducible refine (kfree.out _ R4).mono ?_); rintro e w5 ⟨rfl, R5, c5⟩; clear R4; have L5 := L4.mod c5 (by omega); clear L4; obtain ⟨g0, g1⟩ := hcell.out _ R5.bel)
                  | (go_at_call 18; (with_reducible refine (kt.out _ R5).mono ?_); rintro e w6 ⟨rfl, R6, c6⟩; clear R5 g0 g1; obtain ⟨g0, g1⟩ := hcell.out _ R6.bel)
                  | (go_at_call 24; (with_reducible refine (marks_none _ _ _ _).mono ?_); rintro e w7 ⟨rfl, rfl⟩))
                exact ⟨⟨k + 1, t, u, K1.out, by go_num, by go_num, R6⟩, by simp [intOf]; omega⟩
            · have kt : Hid (∀ W, RS w W s t u → Calls Try.prog 18 #[.pointer (some ⟨w.heap.size, 0, none⟩), .int .i64 y] W fun e W' => e = .returned (.tuple #[.slice none 0 0, .int .u16 90]) ∧ RS w W' s t u ∧ Kept w W W') :=
                fun W h => (h.takeBad hy).mono fun e W' ⟨he, hr⟩ => ⟨by rw [he, if_neg (by omega)], hr⟩
              have y2 : decide (y ≤ (s : Int) - (u : Int)) = false := decide_eq_false (by omega)
              generalize (t + u) % s = q at *
              as_aux_lemma =>
                go_wp2_with (first
                | (go_at_call 20; (with_reducible refine (khead.out _ R).mono ?_); rintro e w1 ⟨rfl, R1, c1⟩; clear R)
                | (go_at_call 23; (with_reducible refine (R1.tailc).mono ?_); rintro e w1' ⟨rfl, rfl⟩)
                | (refine wpList_make_zero rfl _ _ 39 4 1 rfl slice39 _ zero4 rfl (fun _ => .bool false) _ _ _ _ s rfl rfl rfl rfl (by omega) (by unfold maxLen; omega) ?_; intro w2 L2 b2; rw [bools_zero] at L2; have R2 := R1.below b2; have r2 := R1.ring.lt; clear R1)
                | (go_at_call 17; (with_reducible refine (RS.live2 R2).mono ?_); rintro e w3 ⟨v3, rfl, S3, R3, b3⟩; clear R2; have L3 := L2.below b3 L2.lt)
                | (go_at_call 24; (with_reducible refine (km.out _ _ _ _ L2.lt S3 L3).mono ?_); rintro e w4 ⟨rfl, L4, c4⟩; clear L2 L3 S3; have R4 := RS.own R3 c4 (fun k hk => by subst hk; exact r2); clear R3)
                | (go_at_call 22; (with_reducible refine R4.usedc.mono ?_); rintro e w4' ⟨rfl, rfl⟩)
                | (go_at_call 25; (with_reducible refine (kfree.out _ R4).mono ?_); rintro e w5 ⟨rfl, R5, c5⟩; clear R4; have L5 := L4.mod c5 (by omega); clear L4; obtain ⟨g0, g1⟩ := hcell.out _ R5.bel)
                  | (go_at_call 18; (with_reducible refine (kt.out _ R5).mono ?_); rintro e w6 ⟨rfl, R6, c6⟩; clear R5 g0 g1; obtain ⟨g0, g1⟩ := hcell.out _ R6.bel)
                  | (go_at_call 24; (with_reducible refine (marks_none _ _ _ _).mono ?_); rintro e w7 ⟨rfl, rfl⟩))
                exact ⟨⟨k + 1, t, u, K1.out, by go_num, by go_num, R6⟩, by simp [intOf]; omega⟩
          · obtain ⟨n, rfl⟩ : ∃ n : Nat, y = n := ⟨y.toNat, by omega⟩
            have hn : n ≤ s - u := by omega
            have hqlt := Nat.mod_lt (t + u) (show 0 < s by omega)
            have kt : Hid (∀ W, RS w W s t u → Calls Try.prog 18 #[.pointer (some ⟨w.heap.size, 0, none⟩), .int .i64 n] W fun e W' => ∃ v, e = .returned (.tuple #[v, .int .u16 0]) ∧ SpanRow W' W.heap.size v (spansL s ((t + u) % s) n) ∧ RS w W' s t (u + n) ∧ Kept w W W') :=
              fun W h => h.take2 hn
            have km2 : Hid (∀ (W : World) (G b : Nat) (v : Value), G < b → SpanRow W b v (spansL s ((t + u) % s) n) → At W G (bools (inRun s t u) s) 4 → Calls Try.prog 24 #[v, .int .i64 ((t + u) % s : Nat), .slice (some ⟨G, 0, none⟩) s s] W fun e W' =>
                e = .returned (.tuple #[.int .i64 n, .bool true]) ∧ Chg (fun k => k = G) W W') :=
              fun W G b v hb hr hg => (marks_any G s ((t + u) % s) n b v W _ h2 hqlt (by omega) hb hr hg (fun i hi h => run_disj ht hu hn hi h)).mono fun e W' ⟨h1, h2, h3⟩ => ⟨h1, h3⟩
            have y2 : decide ((n : Int) ≤ (s : Int) - (u : Int)) = true := decide_eq_true (by omega)
            generalize (t + u) % s = q at *
            as_aux_lemma =>
              go_wp2_with (first
                | (go_at_call 20; (with_reducible refine (khead.out _ R).mono ?_); rintro e w1 ⟨rfl, R1, c1⟩; clear R)
                | (go_at_call 23; (with_reducible refine (R1.tailc).mono ?_); rintro e w1' ⟨rfl, rfl⟩)
                | (refine wpList_make_zero rfl _ _ 39 4 1 rfl slice39 _ zero4 rfl (fun _ => .bool false) _ _ _ _ s rfl rfl rfl rfl (by omega) (by unfold maxLen; omega) ?_; intro w2 L2 b2; rw [bools_zero] at L2; have R2 := R1.below b2; have r2 := R1.ring.lt; clear R1)
                | (go_at_call 17; (with_reducible refine (RS.live2 R2).mono ?_); rintro e w3 ⟨v3, rfl, S3, R3, b3⟩; clear R2; have L3 := L2.below b3 L2.lt)
                | (go_at_call 24; (with_reducible refine (km.out _ _ _ _ L2.lt S3 L3).mono ?_); rintro e w4 ⟨rfl, L4, c4⟩; clear L2 L3 S3; have R4 := RS.own R3 c4 (fun k hk => by subst hk; exact r2); clear R3)
                | (go_at_call 22; (with_reducible refine R4.usedc.mono ?_); rintro e w4' ⟨rfl, rfl⟩)
                | (go_at_call 25; (with_reducible refine (kfree.out _ R4).mono ?_); rintro e w5 ⟨rfl, R5, c5⟩; clear R4; have L5 := L4.mod c5 (by omega); clear L4; obtain ⟨g0, g1⟩ := hcell.out _ R5.bel)
                | (go_at_call 18; (with_reducible refine (kt.out _ R5).mono ?_); rintro e w6 ⟨v6, rfl, S6, R6, c6⟩; have r5 := R5.ring.lt; clear R5 g0 g1; have lt5 := L5.lt; replace L5 := L5.mod c6 (by omega))
                | (go_at_call 24; (with_reducible refine (km2.out _ _ _ _ lt5 S6 L5).mono ?_); rintro e w7 ⟨rfl, c7⟩; clear S6 L5; have R7 := RS.own R6 c7 (fun k hk => by subst hk; exact r2); clear R6; obtain ⟨g0, g1⟩ := hcell.out _ R7.bel))
              exact ⟨⟨k + 1, t, u + n, K1.out, by go_num, by go_num, R7⟩, by simp [intOf]; omega⟩
        · by_cases hx2 : x = 2
          · subst hx2
            by_cases hy : y < 0 ∨ (u : Int) < y
            · have hqlt := Nat.mod_lt (t + u) (show 0 < s by omega)
              rcases (show y < 0 ∨ (0 ≤ y ∧ (u : Int) < y) by omega) with hy1 | ⟨hy1, hy2⟩
              · have kg : Hid (∀ W, RS w W s t u → Calls Try.prog 21 #[.pointer (some ⟨w.heap.size, 0, none⟩), .int .i64 y] W fun e W' => e = .returned (.tuple #[.slice none 0 0, .int .u16 1]) ∧ W = W') :=
                  fun W h => (h.giveBad hy).mono fun e W' ⟨he, hr⟩ => ⟨by rw [he, if_pos hy1], hr⟩
                have y1 : decide (0 ≤ y) = false := decide_eq_false (by omega)
                generalize (t + u) % s = q at *
                as_aux_lemma =>
                  go_wp2_with (first
                | (go_at_call 20; (with_reducible refine (khead.out _ R).mono ?_); rintro e w1 ⟨rfl, R1, c1⟩; clear R)
                | (go_at_call 23; (with_reducible refine (R1.tailc).mono ?_); rintro e w1' ⟨rfl, rfl⟩)
                | (refine wpList_make_zero rfl _ _ 39 4 1 rfl slice39 _ zero4 rfl (fun _ => .bool false) _ _ _ _ s rfl rfl rfl rfl (by omega) (by unfold maxLen; omega) ?_; intro w2 L2 b2; rw [bools_zero] at L2; have R2 := R1.below b2; have r2 := R1.ring.lt; clear R1)
                | (go_at_call 17; (with_reducible refine (RS.live2 R2).mono ?_); rintro e w3 ⟨v3, rfl, S3, R3, b3⟩; clear R2; have L3 := L2.below b3 L2.lt)
                | (go_at_call 24; (with_reducible refine (km.out _ _ _ _ L2.lt S3 L3).mono ?_); rintro e w4 ⟨rfl, L4, c4⟩; clear L2 L3 S3; have R4 := RS.own R3 c4 (fun k hk => by subst hk; exact r2); clear R3)
                | (go_at_call 22; (with_reducible refine R4.usedc.mono ?_); rintro e w4' ⟨rfl, rfl⟩)
                | (go_at_call 25; (with_reducible refine (kfree.out _ R4).mono ?_); rintro e w5 ⟨rfl, R5, c5⟩; clear R4; have L5 := L4.mod c5 (by omega); clear L4; obtain ⟨g0, g1⟩ := hcell.out _ R5.bel)
                    | (refine wpList_make_zero rfl _ _ 39 4 1 rfl slice39 _ zero4 rfl (fun _ => .bool false) _ _ _ _ s rfl rfl rfl rfl (by omega) (by unfold maxLen; omega) ?_; intro w6 L6 b6; rw [bools_zero] at L6; have R6 := R5.below b6; have r5 := R5.ring.lt; clear R5 L5 g0 g1; obtain ⟨g0, g1⟩ := hcell.out _ R6.bel)
                    | (go_at_call 21; (with_reducible refine (kg.out _ R6).mono ?_); rintro e w7 ⟨rfl, rfl⟩)
                    | (go_at_call 24; (with_reducible refine (marks_none _ _ _ _).mono ?_); rintro e w8 ⟨rfl, rfl⟩))
                  go_quiet ((go_at_call 23; exact RS.tailq R6 _))
                  go_wp2
                  exact ⟨⟨k + 1, t, u, K1.out, by go_num, by go_num, R6.drew _⟩, by simp [intOf]; omega⟩
              · have kg : Hid (∀ W, RS w W s t u → Calls Try.prog 21 #[.pointer (some ⟨w.heap.size, 0, none⟩), .int .i64 y] W fun e W' => e = .returned (.tuple #[.slice none 0 0, .int .u16 91]) ∧ W = W') :=
                  fun W h => (h.giveBad hy).mono fun e W' ⟨he, hr⟩ => ⟨by rw [he, if_neg (by omega)], hr⟩
                have y2 : decide (y ≤ (u : Int)) = false := decide_eq_false (by omega)
                generalize (t + u) % s = q at *
                as_aux_lemma =>
                  go_wp2_with (first
                | (go_at_call 20; (with_reducible refine (khead.out _ R).mono ?_); rintro e w1 ⟨rfl, R1, c1⟩; clear R)
                | (go_at_call 23; (with_reducible refine (R1.tailc).mono ?_); rintro e w1' ⟨rfl, rfl⟩)
                | (refine wpList_make_zero rfl _ _ 39 4 1 rfl slice39 _ zero4 rfl (fun _ => .bool false) _ _ _ _ s rfl rfl rfl rfl (by omega) (by unfold maxLen; omega) ?_; intro w2 L2 b2; rw [bools_zero] at L2; have R2 := R1.below b2; have r2 := R1.ring.lt; clear R1)
                | (go_at_call 17; (with_reducible refine (RS.live2 R2).mono ?_); rintro e w3 ⟨v3, rfl, S3, R3, b3⟩; clear R2; have L3 := L2.below b3 L2.lt)
                | (go_at_call 24; (with_reducible refine (km.out _ _ _ _ L2.lt S3 L3).mono ?_); rintro e w4 ⟨rfl, L4, c4⟩; clear L2 L3 S3; have R4 := RS.own R3 c4 (fun k hk => by subst hk; exact r2); clear R3)
                | (go_at_call 22; (with_reducible refine R4.usedc.mono ?_); rintro e w4' ⟨rfl, rfl⟩)
                | (go_at_call 25; (with_reducible refine (kfree.out _ R4).mono ?_); rintro e w5 ⟨rfl, R5, c5⟩; clear R4; have L5 := L4.mod c5 (by omega); clear L4; obtain ⟨g0, g1⟩ := hcell.out _ R5.bel)
                    | (refine wpList_make_zero rfl _ _ 39 4 1 rfl slice39 _ zero4 rfl (fun _ => .bool false) _ _ _ _ s rfl rfl rfl rfl (by omega) (by unfold maxLen; omega) ?_; intro w6 L6 b6; rw [bools_zero] at L6; have R6 := R5.below b6; have r5 := R5.ring.lt; clear R5 L5 g0 g1; obtain ⟨g0, g1⟩ := hcell.out _ R6.bel)
                    | (go_at_call 21; (with_reducible refine (kg.out _ R6).mono ?_); rintro e w7 ⟨rfl, rfl⟩)
                    | (go_at_call 24; (with_reducible refine (marks_none _ _ _ _).mono ?_); rintro e w8 ⟨rfl, rfl⟩))
                  go_quiet ((go_at_call 23; exact RS.tailq R6 _))
                  go_wp2
                  exact ⟨⟨k + 1, t, u, K1.out, by go_num, by go_num, R6.drew _⟩, by simp [intOf]; omega⟩
            · obtain ⟨n, rfl⟩ : ∃ n : Nat, y = n := ⟨y.toNat, by omega⟩
              have hn : n ≤ u := by omega
              have hqlt := Nat.mod_lt (t + u) (show 0 < s by omega)
              have hplt := Nat.mod_lt (t + n) (show 0 < s by omega)
              have tmn : ((t : Int) + (n : Int)).tmod (s : Int) = (((t + n) % s : Nat) : Int) := tmod_nat t n s
              have kg : Hid (∀ W, RS w W s t u → Calls Try.prog 21 #[.pointer (some ⟨w.heap.size, 0, none⟩), .int .i64 n] W fun e W' => ∃ v, e = .returned (.tuple #[v, .int .u16 0]) ∧ SpanRow W' W.heap.size v (spansL s t n) ∧ RS w W' s ((t + n) % s) (u - n) ∧ Kept w W W') :=
                fun W h => h.give2 hn
              have km2 : Hid (∀ (W : World) (G b : Nat) (v : Value), G < b → SpanRow W b v (spansL s t n) → At W G (bools (fun _ => false) s) 4 → Calls Try.prog 24 #[v, .int .i64 t, .slice (some ⟨G, 0, none⟩) s s] W fun e W' =>
                  e = .returned (.tuple #[.int .i64 n, .bool true]) ∧ Chg (fun k => k = G) W W') :=
                fun W G b v hb hr hg => (marks_any G s t n b v W _ h2 ht (by omega) hb hr hg (fun _ _ _ => rfl)).mono fun e W' ⟨h1, h2, h3⟩ => ⟨h1, h3⟩
              have y2 : decide ((n : Int) ≤ (u : Int)) = true := decide_eq_true (by omega)
              generalize (t + u) % s = q at *
              generalize (t + n) % s = p at *
              as_aux_lemma =>
                go_wp2_with (first
                | (go_at_call 20; (with_reducible refine (khead.out _ R).mono ?_); rintro e w1 ⟨rfl, R1, c1⟩; clear R)
                | (go_at_call 23; (with_reducible refine (R1.tailc).mono ?_); rintro e w1' ⟨rfl, rfl⟩)
                | (refine wpList_make_zero rfl _ _ 39 4 1 rfl slice39 _ zero4 rfl (fun _ => .bool false) _ _ _ _ s rfl rfl rfl rfl (by omega) (by unfold maxLen; omega) ?_; intro w2 L2 b2; rw [bools_zero] at L2; have R2 := R1.below b2; have r2 := R1.ring.lt; clear R1)
                | (go_at_call 17; (with_reducible refine (RS.live2 R2).mono ?_); rintro e w3 ⟨v3, rfl, S3, R3, b3⟩; clear R2; have L3 := L2.below b3 L2.lt)
                | (go_at_call 24; (with_reducible refine (km.out _ _ _ _ L2.lt S3 L3).mono ?_); rintro e w4 ⟨rfl, L4, c4⟩; clear L2 L3 S3; have R4 := RS.own R3 c4 (fun k hk => by subst hk; exact r2); clear R3)
                | (go_at_call 22; (with_reducible refine R4.usedc.mono ?_); rintro e w4' ⟨rfl, rfl⟩)
                | (go_at_call 25; (with_reducible refine (kfree.out _ R4).mono ?_); rintro e w5 ⟨rfl, R5, c5⟩; clear R4; have L5 := L4.mod c5 (by omega); clear L4; obtain ⟨g0, g1⟩ := hcell.out _ R5.bel)
                  | (refine wpList_make_zero rfl _ _ 39 4 1 rfl slice39 _ zero4 rfl (fun _ => .bool false) _ _ _ _ s rfl rfl rfl rfl (by omega) (by unfold maxLen; omega) ?_; intro w6 L6 b6; rw [bools_zero] at L6; have R6 := R5.below b6; have r5 := R5.ring.lt; clear R5 L5 g0 g1; obtain ⟨g0, g1⟩ := hcell.out _ R6.bel)
                  | (go_at_call 21; (with_reducible refine (kg.out _ R6).mono ?_); rintro e w7 ⟨v7, rfl, S7, R7, c7⟩; have r6 := R6.ring.lt; have lt6 := L6.lt; clear R6 g0 g1; replace L6 := L6.mod c7 (by omega))
                  | (go_at_call 24; (with_reducible refine (km2.out _ _ _ _ lt6 S7 L6).mono ?_); rintro e w8 ⟨rfl, c8⟩; clear S7 L6; have R8 := RS.own R7 c8 (fun k hk => by subst hk; exact r5); clear R7; obtain ⟨g0, g1⟩ := hcell.out _ R8.bel))
                go_quiet ((go_at_call 23; exact RS.tailq R8 _))
                go_wp2
                exact ⟨⟨k + 1, p, u - n, K1.out, by go_num, by go_num, R8.drew _⟩, by simp [intOf]; omega⟩
          · have x1 : (x == 1) = false := beq_eq_false_iff_ne.2 hx1
            have x2 : (x == 2) = false := beq_eq_false_iff_ne.2 hx2
            have hqlt := Nat.mod_lt (t + u) (show 0 < s by omega)
            generalize (t + u) % s = q at *
            as_aux_lemma =>
              go_wp2_with (first
                | (go_at_call 20; (with_reducible refine (khead.out _ R).mono ?_); rintro e w1 ⟨rfl, R1, c1⟩; clear R)
                | (go_at_call 23; (with_reducible refine (R1.tailc).mono ?_); rintro e w1' ⟨rfl, rfl⟩)
                | (refine wpList_make_zero rfl _ _ 39 4 1 rfl slice39 _ zero4 rfl (fun _ => .bool false) _ _ _ _ s rfl rfl rfl rfl (by omega) (by unfold maxLen; omega) ?_; intro w2 L2 b2; rw [bools_zero] at L2; have R2 := R1.below b2; have r2 := R1.ring.lt; clear R1)
                | (go_at_call 17; (with_reducible refine (RS.live2 R2).mono ?_); rintro e w3 ⟨v3, rfl, S3, R3, b3⟩; clear R2; have L3 := L2.below b3 L2.lt)
                | (go_at_call 24; (with_reducible refine (km.out _ _ _ _ L2.lt S3 L3).mono ?_); rintro e w4 ⟨rfl, L4, c4⟩; clear L2 L3 S3; have R4 := RS.own R3 c4 (fun k hk => by subst hk; exact r2); clear R3)
                | (go_at_call 22; (with_reducible refine R4.usedc.mono ?_); rintro e w4' ⟨rfl, rfl⟩)
                | (go_at_call 25; (with_reducible refine (kfree.out _ R4).mono ?_); rintro e w5 ⟨rfl, R5, c5⟩; clear R4; have L5 := L4.mod c5 (by omega); clear L4; obtain ⟨g0, g1⟩ := hcell.out _ R5.bel))
              exact ⟨⟨k + 1, t, u, K1.out, by go_num, by go_num, R5⟩, by simp [intOf]; omega⟩
      · go_wp2_with (first
          | (go_at_call 22; (with_reducible refine R.usedc.mono ?_); rintro e w4' ⟨rfl, rfl⟩)
          | (go_at_call 26; (with_reducible refine R.sizec.mono ?_); rintro e w4' ⟨rfl, rfl⟩))
        go_ret
        exact ⟨rfl, R.bel⟩
    · go_wp2_with (first
        | (go_at_call 22; (with_reducible refine R.usedc.mono ?_); rintro e w4' ⟨rfl, rfl⟩)
        | (go_at_call 26; (with_reducible refine R.sizec.mono ?_); rintro e w4' ⟨rfl, rfl⟩))
      go_ret
      exact ⟨rfl, R.bel⟩

end Go.Proofs.Ytjmnbpghfnageaa
