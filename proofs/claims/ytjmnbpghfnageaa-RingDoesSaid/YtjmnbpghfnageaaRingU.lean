/- The law RingDoes: its walk. -/
import Derived.Test.YtjmnbpghfnageaaRingT
import Derived.Test.YtjmnbpghfnageaaRingM
set_option linter.unusedVariables false
namespace Go.Proofs.Ytjmnbpghfnageaa
open Go.RowKit

theorem DS.other {W W' : World} {B K n n' R A Q V s t u : Nat} (h : DS W B K n Q V s t u) (hb : Bk W' B K n') (hc : Chg (DSet B K R A) W W') (h1 : Q ≠ R) (h2 : Q ≠ A) (h3 : V ≠ R) (h4 : V ≠ A) : DS W' B K n' Q V s t u :=
  ⟨h.ring.mod hc (fun e => by have := h.hR; have := h.hRK; omega), h.ref.mod hc (fun e => by have := h.hA; have := h.hAK; omega), hb, h.hR, h.hA, h.hRK, h.hAK, h.hRA, h.hKB, Nat.le_trans h.hBW hc.size⟩

theorem DS.drew {W : World} {B K n R A s t u : Nat} (h : DS W B K n R A s t u) (m : Nat) : DS (W.drewN m) B K n R A s t u :=
  ⟨h.ring, h.ref, h.bk.below (below_drewN (Below.refl _ _) m), h.hR, h.hA, h.hRK, h.hAK, h.hRA, h.hKB, h.hBW⟩

theorem DS.less {W : World} {B K n n' R A s t u : Nat} (h : DS W B K n R A s t u) (hn : n ≤ n') : DS W B K n' R A s t u := { h with bk := h.bk.le hn }

/-- Both pairs of rings, and the book. -/
structure Two (w W : World) (B K n R A Q V s : Nat) : Prop where
  one : ∃ t u, t < s ∧ u ≤ s ∧ DS W B K n R A s t u
  two : ∃ t u, t < s ∧ u ≤ s ∧ DS W B K n Q V s t u
  d1 : Q ≠ R
  d2 : Q ≠ A
  d3 : V ≠ R
  d4 : V ≠ A
  l1 : w.heap.size ≤ R
  l2 : w.heap.size ≤ A
  l3 : w.heap.size ≤ Q
  l4 : w.heap.size ≤ V
  l5 : w.heap.size ≤ K
  l6 : w.heap.size ≤ B
  bel : Below w.heap.size w W

theorem Two.doesR {w W : World} {B K n R A Q V s : Nat} (x y : Int) (h : Two w W B K n R A Q V s) (hn : n ≤ 1000000) (h2 : s ≤ 2048) (h0 : 0 < s) :
    Calls Try.prog 38 #[.pointer (some ⟨R, 0, none⟩), .pointer (some ⟨A, 0, none⟩), .agg #[.int .i64 x, .int .i64 y], .pointer (some ⟨K, 0, none⟩)] W fun e W' => e = .returned (.bool true) ∧ Two w W' B K (n + 1) R A Q V s := by
  obtain ⟨t, u, ht, hu, hd⟩ := h.one
  obtain ⟨t2, u2, ht2, hu2, hd2⟩ := h.two
  refine (does_any B K n R A s t u x y W hd hn h2 h0 ht hu).mono fun e W' ⟨t', u', he, k1, k2, k3, k4⟩ => ⟨he, ⟨⟨t', u', k1, k2, k3⟩, ⟨t2, u2, ht2, hu2, hd2.other k3.bk k4 h.d1 h.d2 h.d3 h.d4⟩, h.d1, h.d2, h.d3, h.d4, h.l1, h.l2, h.l3, h.l4, h.l5, h.l6, ?_⟩⟩
  exact Chg.own h.bel k4 (fun k hk => by have := h.l1; have := h.l2; have := h.l5; have := h.l6; omega)

theorem Two.swap {w W : World} {B K n R A Q V s : Nat} (h : Two w W B K n R A Q V s) : Two w W B K n Q V R A s :=
  ⟨h.two, h.one, h.d1.symm, h.d3.symm, h.d2.symm, h.d4.symm, h.l3, h.l4, h.l1, h.l2, h.l5, h.l6, h.bel⟩

theorem Two.doesQ {w W : World} {B K n R A Q V s : Nat} (x y : Int) (h : Two w W B K n R A Q V s) (hn : n ≤ 1000000) (h2 : s ≤ 2048) (h0 : 0 < s) :
    Calls Try.prog 38 #[.pointer (some ⟨Q, 0, none⟩), .pointer (some ⟨V, 0, none⟩), .agg #[.int .i64 x, .int .i64 y], .pointer (some ⟨K, 0, none⟩)] W fun e W' => e = .returned (.bool true) ∧ Two w W' B K (n + 1) R A Q V s :=
  (h.swap.doesR x y hn h2 h0).mono fun e W' ⟨he, h'⟩ => ⟨he, h'.swap⟩

theorem Two.standsR {w W : World} {B K n R A Q V s : Nat} (h : Two w W B K n R A Q V s) (h2 : s ≤ 2048) (h0 : 0 < s) :
    Calls Try.prog 39 #[.pointer (some ⟨R, 0, none⟩), .pointer (some ⟨A, 0, none⟩)] W fun e W' => e = .returned (.bool true) ∧ Two w W' B K n R A Q V s := by
  obtain ⟨t, u, ht, hu, hd⟩ := h.one
  obtain ⟨t2, u2, ht2, hu2, hd2⟩ := h.two
  refine (stands_any R A s t u W hd.ring hd.ref h2 h0 ht hu).mono fun e W' ⟨he, m, hw⟩ => ⟨he, ?_⟩
  subst hw
  exact ⟨⟨t, u, ht, hu, hd.drew m⟩, ⟨t2, u2, ht2, hu2, hd2.drew m⟩, h.d1, h.d2, h.d3, h.d4, h.l1, h.l2, h.l3, h.l4, h.l5, h.l6, below_drewN h.bel m⟩

theorem Two.standsQ {w W : World} {B K n R A Q V s : Nat} (h : Two w W B K n R A Q V s) (h2 : s ≤ 2048) (h0 : 0 < s) :
    Calls Try.prog 39 #[.pointer (some ⟨Q, 0, none⟩), .pointer (some ⟨V, 0, none⟩)] W fun e W' => e = .returned (.bool true) ∧ Two w W' B K n R A Q V s :=
  (h.swap.standsR h2 h0).mono fun e W' ⟨he, h'⟩ => ⟨he, h'.swap⟩

theorem Two.own {w W : World} {B K n R A Q V s : Nat} (h : Two w W B K n R A Q V s) (hn : n ≤ 1000000) :
    Calls Try.prog 40 #[.pointer (some ⟨K, 0, none⟩)] W fun e W' => e = .returned (.bool true) ∧ Below w.heap.size w W' := by
  obtain ⟨t, u, ht, hu, hd⟩ := h.one
  exact (own_any W B K n hd.bk hn).mono fun e W' ⟨he, hc⟩ => ⟨he, Chg.own h.bel hc (fun k hk => by have := h.l6; omega)⟩

set_option maxRecDepth 100000 in
set_option maxHeartbeats 1000000 in
theorem ringdoes_long (a b c : Int) (v : Value) (l : List (Int × Int)) (w : World) (hv : Ops w v l) (hl : 20000 < l.length) :
    Calls Try.prog 12 #[.int .i64 a, .int .i64 b, .int .i64 c, v] w fun e w' => e = .returned (.bool true) ∧ Below w.heap.size w w' := by
  have h63 : l.length ≤ 9223372036854775807 := by obtain ⟨_, _, _, h, _⟩ := hv; exact h
  obtain ⟨x, y, rfl⟩ := hv.shape
  clear hv
  go_enter Try.func12, Try.ntmps12
  go_wp2
  go_ret
  exact ⟨rfl, Below.refl _ _⟩

set_option maxRecDepth 100000 in
set_option maxHeartbeats 1000000 in
theorem ringdoes_bad (a b c : Int) (v : Value) (l : List (Int × Int)) (w : World) (h : ¬ RingOk a b c) (hv : Ops w v l) (hl : l.length ≤ 20000) :
    Calls Try.prog 12 #[.int .i64 a, .int .i64 b, .int .i64 c, v] w fun e w' => e = .returned (.bool true) ∧ Below w.heap.size w w' := by
  have h1 := Lib.hid (rnew_bad a b c w (ring_not h))
  have h3 := Lib.hid (refnew_bad a b c w (ring_not h))
  clear h
  have h2 := Lib.hid (rknown_any w)
  obtain ⟨x, y, rfl⟩ := hv.shape
  clear hv
  go_enter Try.func12, Try.ntmps12
  go_wp2_with (first
    | (go_at_call 15; refine h1.out.mono ?_; rintro e w1 ⟨rfl, rfl⟩)
    | (go_at_call 37; refine h3.out.mono ?_; rintro e w1 ⟨rfl, rfl⟩)
    | (go_at_call 16; refine h2.out.mono ?_; rintro e w2 ⟨rfl, hb2⟩))
  go_ret
  exact ⟨rfl, hb2⟩

theorem Two.start {w w1 w2 w3 w4 w5 : World} {R A Q V s t u : Nat} (ht : t < s) (hu : u ≤ s) (r1 : RingAt w1 R s t u) (l1 : w.heap.size ≤ R) (b1 : Below w.heap.size w w1) (r2 : RingAt w2 Q s t u) (l2 : w1.heap.size ≤ Q) (b2 : Below w1.heap.size w1 w2)
    (r3 : RefAt w3 A s t u) (l3 : w2.heap.size ≤ A) (b3 : Below w2.heap.size w2 w3) (r4 : RefAt w4 V s t u) (l4 : w3.heap.size ≤ V) (b4 : Below w3.heap.size w3 w4) (b5 : Below w4.heap.size w4 w5) :
    Two w (w5.alloc (.cells (bookC (.slice none 0 0)) 79)) (w5.heap.size + 1) w5.heap.size 0 R A Q V s := by
  have z1 := r1.lt; have z2 := r2.lt; have z3 := r3.lt; have z4 := r4.lt
  have s1 := b1.size; have s2 := b2.size; have s3 := b3.size; have s4 := b4.size; have s5 := b5.size
  have hb : Bk (w5.alloc (.cells (bookC (.slice none 0 0)) 79)) (w5.heap.size + 1) w5.heap.size 0 :=
    ⟨fun _ => 0, [], .slice none 0 0, by simp, ⟨At.new _ _ _, by omega, by rw [size_alloc]; omega, World.ownsRow_nil _ _ _ _, fun g hg => by simp [Value.ownBlock] at hg, Fam.nil _ _ _ _ _ _⟩⟩
  have f1 : RingAt w5 R s t u := (((r1.below b2 z1).below b3 (by omega)).below b4 (by omega)).below b5 (by omega)
  have f2 : RingAt w5 Q s t u := ((r2.below b3 z2).below b4 (by omega)).below b5 (by omega)
  have f3 : RefAt w5 A s t u := (r3.below b4 z3).below b5 (by omega)
  have f4 : RefAt w5 V s t u := r4.below b5 z4
  exact ⟨⟨t, u, ht, hu, ⟨f1.alloc _, f3.alloc _, hb, by omega, by omega, by omega, by omega, by omega, by omega, by rw [size_alloc]; omega⟩⟩,
    ⟨t, u, ht, hu, ⟨f2.alloc _, f4.alloc _, hb, by omega, by omega, by omega, by omega, by omega, by omega, by rw [size_alloc]; omega⟩⟩,
    by omega, by omega, by omega, by omega, by omega, by omega, by omega, by omega, by omega, by omega,
    (below_then (below_then (below_then (below_then b1 b2) b3) b4) b5).alloc (by omega) _⟩

theorem Two.less {w W : World} {B K n n' R A Q V s : Nat} (h : Two w W B K n R A Q V s) (hn : n ≤ n') : Two w W B K n' R A Q V s := by
  obtain ⟨t, u, h1, h2, h3⟩ := h.one
  obtain ⟨t', u', k1, k2, k3⟩ := h.two
  exact { h with one := ⟨t, u, h1, h2, h3.less hn⟩, two := ⟨t', u', k1, k2, k3.less hn⟩ }

set_option maxRecDepth 100000 in
set_option maxHeartbeats 8000000 in
theorem ringdoes_good (a b c : Int) (v : Value) (l : List (Int × Int)) (w : World) (h : RingOk a b c) (hv : Ops w v l) (hl : l.length ≤ 20000) :
    Calls Try.prog 12 #[.int .i64 a, .int .i64 b, .int .i64 c, v] w fun e w' => e = .returned (.bool true) ∧ Below w.heap.size w w' := by
  obtain ⟨s, t, u, rfl, rfl, rfl, h5, h2, ht, hu⟩ := ring_ok h
  clear h
  have h0 : 0 < s := by omega
  have nR : Hid (∀ W : World, Calls Try.prog 15 #[.int .i64 s, .int .i64 t, .int .i64 u] W fun e W' => ∃ g, e = .returned (.tuple #[.pointer (some ⟨g, 0, none⟩), .int .u16 0]) ∧ RingAt W' g s t u ∧ W.heap.size ≤ g ∧ Below W.heap.size W W') :=
    fun W => (rnew_good s t u W h5 h2 ht hu).mono fun e W' ⟨he, hw⟩ => ⟨_, he, by rw [hw]; exact At.new _ _ _, Nat.le_refl _, by rw [hw]; exact (Below.refl _ _).alloc (Nat.le_refl _) _⟩
  have nA : Hid (∀ W : World, Calls Try.prog 37 #[.int .i64 s, .int .i64 t, .int .i64 u] W fun e W' => ∃ g, e = .returned (.tuple #[.pointer (some ⟨g, 0, none⟩), .int .i64 0]) ∧ RefAt W' g s t u ∧ W.heap.size ≤ g ∧ Below W.heap.size W W') :=
    fun W => (refnew_good s t u W h5 h2 ht hu).mono fun e W' ⟨he, hw⟩ => ⟨_, he, by rw [hw]; exact At.new _ _ _, Nat.le_refl _, by rw [hw]; exact (Below.refl _ _).alloc (Nat.le_refl _) _⟩
  have HV := Lib.hid hv
  obtain ⟨va, vc, rfl⟩ := hv.shape
  clear hv
  go_enter Try.func12, Try.ntmps12
  go_wp2_with (first
    | (go_at_call 15; (with_reducible refine (nR.out w).mono ?_); rintro e w1 ⟨R, rfl, r1, l1, b1⟩; have z1 := r1.lt)
    | (go_at_call 15; (with_reducible refine (nR.out w1).mono ?_); rintro e w2 ⟨Q, rfl, r2, l2, b2⟩; have z2 := r2.lt; have s2 := b2.size)
    | (go_at_call 37; (with_reducible refine (nA.out w2).mono ?_); rintro e w3 ⟨A, rfl, r3, l3, b3⟩; have z3 := r3.lt; have s3 := b3.size)
    | (go_at_call 37; (with_reducible refine (nA.out w3).mono ?_); rintro e w4 ⟨V, rfl, r4, l4, b4⟩; have z4 := r4.lt; have s4 := b4.size)
    | (go_at_call 16; (with_reducible refine (rknown_any w4).mono ?_); rintro e w5 ⟨rfl, b5⟩; have s5 := b5.size))
  have H0 := Lib.hid (Two.start ht hu r1 l1 b1 r2 l2 b2 r3 l3 b3 r4 l4 b4 b5)
  clear r1 l1 b1 z1 r2 l2 b2 z2 s2 r3 l3 b3 z3 s3 r4 l4 b4 z4 s4 b5 s5 nR nA ht hu
  generalize hK : w5.heap.size = K at *
  clear hK
  go_loopw [18] (fun i wr => ∃ k : Nat, k ≤ l.length ∧ i = .int .i64 k ∧ Two w wr (K + 1) K (2 * k) R A Q V s) (fun i _ => l.length - (intOf i).toNat)
  case atStart => exact ⟨0, by omega, rfl, H0.out⟩
  case round =>
    clear H0
    obtain ⟨k, hk, rfl, T⟩ := hrel
    by_cases hlt : k < l.length
    · obtain ⟨b, off, cap, e1, hb, hat⟩ := Ops.full HV.out (by omega)
      simp only [Value.slice.injEq] at e1
      obtain ⟨rfl, _, rfl⟩ := e1
      have hc0 := hat k hlt
      clear hat HV
      obtain ⟨x, y, hcell⟩ : ∃ x y : Int, Hid (∀ W, Below w.heap.size w W → W.cell? ⟨b, off + k * 2, none⟩ = some (.int .i64 x) ∧ W.cell? ⟨b, off + k * 2 + 1, none⟩ = some (.int .i64 y)) :=
        ⟨_, _, fun W hb' => ⟨(hb'.cell (p := ⟨b, off + k * 2, none⟩) hb).trans hc0.1, (hb'.cell (p := ⟨b, off + k * 2 + 1, none⟩) hb).trans hc0.2⟩⟩
      clear hc0
      have K1 : Hid (k + 1 ≤ l.length) := hlt
      have KN : Hid (2 * k + 2 ≤ 1000000) := by have : 2 * k + 2 ≤ 1000000 := by omega
                                                exact this
      obtain ⟨g0, g1⟩ := hcell.out _ T.bel
      go_wp2_with (first
        | (go_at_call 38; (with_reducible refine (T.doesR x y (by have := KN.out; omega) h2 h0).mono ?_); rintro e w1 ⟨rfl, T1⟩; clear T)
        | (go_at_call 39; (with_reducible refine (T1.standsR h2 h0).mono ?_); rintro e w2 ⟨rfl, T2⟩; clear T1 g0 g1; obtain ⟨g0, g1⟩ := hcell.out _ T2.bel)
        | (go_at_call 38; (with_reducible refine (T2.doesQ x y (by have := KN.out; omega) h2 h0).mono ?_); rintro e w3 ⟨rfl, T3⟩; clear T2)
        | (go_at_call 39; (with_reducible refine (T3.standsQ h2 h0).mono ?_); rintro e w4 ⟨rfl, T4⟩; clear T3))
      exact ⟨⟨k + 1, K1.out, by go_num, T4.less (by omega)⟩, by simp [intOf]; omega⟩
    · obtain rfl : k = l.length := by omega
      clear HV
      go_wp2_with (first
        | (go_at_call 38; (with_reducible refine (T.doesR 3 0 (by omega) h2 h0).mono ?_); rintro e w1 ⟨rfl, T1⟩; clear T)
        | (go_at_call 38; (with_reducible refine (T1.doesQ 3 0 (by omega) h2 h0).mono ?_); rintro e w3 ⟨rfl, T3⟩; clear T1)
        | (go_at_call 38; (with_reducible refine (T3.doesR 4 ((s : Int) - 1) (by omega) h2 h0).mono ?_); rintro e w4 ⟨rfl, T4⟩; clear T3)
        | (go_at_call 40; (with_reducible refine (T4.own (by omega)).mono ?_); rintro e w5 ⟨rfl, bel⟩; clear T4))
      go_ret
      exact ⟨rfl, bel⟩

open Go.ChangeShapes Go.WideShapes Go.ChangeAt Go.Deep in
set_option maxRecDepth 100000 in
theorem ringDoes_walk {H : Type} (w : World) (a : Int) (_ : (Lit.int .i64 a).wf = true) (b : Int) (_ : (Lit.int .i64 b).wf = true) (c : Int) (_ : (Lit.int .i64 c).wf = true) (enc : TypeId × Value → H) (base : Nat) (v : Value) (d : DataW H) (ps : List MemPlace) (hok : Value.okWide Try.prog w .any base 38 v)
    (h : DataW.Trod enc Try.prog w 0 (fun _ => true) true 38 v d ps) :
    Calls Try.prog 12 #[.int .i64 a, .int .i64 b, .int .i64 c, v] w fun e w' => e = .returned (.bool true) ∧ Below w.heap.size w w' := by
  obtain ⟨l, hv⟩ := ops_of_trod Try.underlying38 Try.underlying43 (by kernel_rfl) (by rfl) (by rfl) (by kernel_rfl) (by kernel_rfl) Try.underlying3 Try.underlying3 hok h
  by_cases hl : l.length ≤ 20000
  · by_cases hr : RingOk a b c
    · exact ringdoes_good a b c v l w hr hv hl
    · exact ringdoes_bad a b c v l w hr hv hl
  · exact ringdoes_long a b c v l w hv (by omega)

end Go.Proofs.Ytjmnbpghfnageaa
