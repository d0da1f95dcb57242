/- 'does': its walk. -/
import Derived.Test.YtjmnbpghfnageaaRingQ
set_option linter.unusedVariables false
namespace Go.Proofs.Ytjmnbpghfnageaa
open Go.RowKit

/-- A call of both rings comes to the same: the code, the spans, where the rings then stand. -/
def Step (F G : Nat) (y : Int) (s t u : Nat) : Prop := ∃ (code t' u' : Nat) (l : List (Nat × Nat)), code ≤ 100 ∧ l.length ≤ 2 ∧ t' < s ∧ u' ≤ s ∧
  (∀ R W, RingAt W R s t u → Calls Try.prog F #[.pointer (some ⟨R, 0, none⟩), .int .i64 y] W fun e W' => ∃ v, e = .returned (.tuple #[v, .int .u16 (code : Int)]) ∧ RingAt W' R s t' u' ∧ SpanRow W' W.heap.size v l ∧ Chg (fun k => k = R) W W') ∧
  (∀ A W, RefAt W A s t u → Calls Try.prog G #[.pointer (some ⟨A, 0, none⟩), .int .i64 y] W fun e W' => ∃ v, e = .returned (.tuple #[v, .int .i64 (code : Int)]) ∧ RefAt W' A s t' u' ∧ SpanRow W' W.heap.size v l ∧ Chg (fun k => k = A) W W')

/-- A row that is there, through a change of blocks that are not its own. -/
theorem SpanRow.chgRow {S : Nat → Prop} {w w' : World} {base : Nat} {v : Value} {l : List (Nat × Nat)} (h : SpanRow w base v l) (hc : Chg S w w') (hS : ∀ k, base ≤ k → k < w.heap.size → ¬ S k) : SpanRow w' base v l :=
  ⟨ownsRow_mod h.1 hc fun g hg => hS g (h.1.lt g hg).1 (h.1.lt g hg).2, h.2⟩

theorem SpanRow.none (W : World) (base : Nat) : SpanRow W base (.slice none 0 0) [] := ⟨World.ownsRow_nil _ _ _ _, by simp⟩

theorem take_step (y : Int) (s t u : Nat) (h2 : s ≤ 2048) (h0 : 0 < s) (ht : t < s) (hu : u ≤ s) : Step 18 55 y s t u := by
  by_cases h1 : y < 0
  · exact ⟨1, t, u, [], by omega, by simp, ht, hu,
      fun R W h => (take_neg _ y h1 W).mono fun e W' ⟨he, hw⟩ => ⟨_, he, hw ▸ h, SpanRow.none _ _, hw ▸ Chg.refl _ _⟩,
      fun A W h => (reftake_neg _ y h1 W).mono fun e W' ⟨he, hw⟩ => ⟨_, he, h.below hw h.lt, SpanRow.none _ _, Chg.ofBelow hw _⟩⟩
  · by_cases h3 : ((s - u : Nat) : Int) < y
    · exact ⟨90, t, u, [], by omega, by simp, ht, hu,
        fun R W h => (take_full R s t u y W h h2 hu (by omega) h3).mono fun e W' ⟨he, hw⟩ => ⟨_, he, h.below hw h.lt, SpanRow.none _ _, Chg.ofBelow hw _⟩,
        fun A W h => (reftake_full A s t u y W h h2 hu (by omega) h3).mono fun e W' ⟨he, hw⟩ => ⟨_, he, h.below hw h.lt, SpanRow.none _ _, Chg.ofBelow hw _⟩⟩
    · obtain ⟨n, rfl⟩ : ∃ n : Nat, y = n := ⟨y.toNat, by omega⟩
      exact ⟨0, t, u + n, spansL s ((t + u) % s) n, by omega, spansL_le _ _ _, ht, by omega,
        fun R W h => (take_ok R s t u n W h h2 h0 ht hu (by omega)).mono fun e W' ⟨v, he, hr, hs, hc⟩ => ⟨v, he, hr, hs, hc⟩,
        fun A W h => (reftake_ok A s t u n W h h2 h0 ht hu (by omega)).mono fun e W' ⟨v, he, hr, hs, hc⟩ => ⟨v, he, hr, hs, hc⟩⟩

theorem give_step (y : Int) (s t u : Nat) (h2 : s ≤ 2048) (h0 : 0 < s) (ht : t < s) (hu : u ≤ s) : Step 21 56 y s t u := by
  by_cases h1 : y < 0
  · exact ⟨1, t, u, [], by omega, by simp, ht, hu,
      fun R W h => (give_neg _ y h1 W).mono fun e W' ⟨he, hw⟩ => ⟨_, he, hw ▸ h, SpanRow.none _ _, hw ▸ Chg.refl _ _⟩,
      fun A W h => (refgive_neg _ y h1 W).mono fun e W' ⟨he, hw⟩ => ⟨_, he, h.below hw h.lt, SpanRow.none _ _, Chg.ofBelow hw _⟩⟩
  · by_cases h3 : (u : Int) < y
    · exact ⟨91, t, u, [], by omega, by simp, ht, hu,
        fun R W h => (give_less R s t u y W h (by omega) h3).mono fun e W' ⟨he, hw⟩ => ⟨_, he, hw ▸ h, SpanRow.none _ _, hw ▸ Chg.refl _ _⟩,
        fun A W h => (refgive_less A s t u y W h (by omega) h3).mono fun e W' ⟨he, hw⟩ => ⟨_, he, h.below hw h.lt, SpanRow.none _ _, Chg.ofBelow hw _⟩⟩
    · obtain ⟨n, rfl⟩ : ∃ n : Nat, y = n := ⟨y.toNat, by omega⟩
      exact ⟨0, (t + n) % s, u - n, spansL s t n, by omega, spansL_le _ _ _, Nat.mod_lt _ h0, by omega,
        fun R W h => (give_ok R s t u n W h h2 h0 ht hu (by omega)).mono fun e W' ⟨v, he, hr, hs, hc⟩ => ⟨v, he, hr, hs, hc⟩,
        fun A W h => (refgive_ok A s t u n W h h2 h0 ht hu (by omega)).mono fun e W' ⟨v, he, hr, hs, hc⟩ => ⟨v, he, hr, hs, hc⟩⟩

/-- Two rings and a book. -/
structure DS (W : World) (B K n R A s t u : Nat) : Prop where
  ring : RingAt W R s t u
  ref : RefAt W A s t u
  bk : Bk W B K n
  hR : R < B
  hA : A < B
  hRK : R ≠ K
  hAK : A ≠ K
  hRA : R ≠ A
  hKB : K < B
  hBW : B ≤ W.heap.size

/-- What 'does' may turn. -/
abbrev DSet (B K R A : Nat) : Nat → Prop := fun k => k = R ∨ k = A ∨ k = K ∨ B ≤ k

def DoesPost (W : World) (B K n R A s : Nat) (e : Ending) (W' : World) : Prop :=
  ∃ t' u', e = .returned (.bool true) ∧ t' < s ∧ u' ≤ s ∧ DS W' B K (n + 1) R A s t' u' ∧ Chg (DSet B K R A) W W'

theorem DS.end {W0 W1 W2 W3 W4 W5 : World} {B K n R A s t u t' u' : Nat} (h : DS W0 B K n R A s t u) (c1 : Below W0.heap.size W0 W1) (c2 : Chg (fun k => k = R) W1 W2) (hr : RingAt W2 R s t' u')
    (c3 : Chg (fun k => k = A) W2 W3) (ha : RefAt W3 A s t' u') (hb : Bk W4 B K (n + 1)) (c4 : Chg (fun k => k = K ∨ (B ≤ k ∧ k < W1.heap.size)) W3 W4) (c5 : Below W4.heap.size W4 W5) :
    DS W5 B K (n + 1) R A s t' u' ∧ Chg (DSet B K R A) W0 W5 := by
  have h1 := c1.size
  have h2 := c2.size
  have h3 := c3.size
  have h4 := c4.size
  have h5 := c5.size
  have := h.hBW; have := h.hR; have := h.hA; have := h.hRK; have := h.hAK; have := h.hRA
  have hr5 := ((hr.mod c3 (fun e => h.hRA e)).mod c4 (fun e => by omega)).below c5 (by omega)
  have ha5 := (ha.mod c4 (fun e => by omega)).below c5 (by omega)
  refine ⟨⟨hr5, ha5, hb.below c5, h.hR, h.hA, h.hRK, h.hAK, h.hRA, h.hKB, by omega⟩, ?_⟩
  exact ((((Chg.ofBelow c1 _).trans (c2.mono fun k hk => .inl hk)).trans (c3.mono fun k hk => .inr (.inl hk))).trans (c4.mono fun k hk => by rcases hk with hk | hk; exact .inr (.inr (.inl hk)); exact .inr (.inr (.inr hk.1)))).trans (Chg.ofBelow c5 _)

theorem DS.mid {W0 W1 W2 W3 : World} {B K n R A s t u : Nat} (h : DS W0 B K n R A s t u) (c1 : Below W0.heap.size W0 W1) (c2 : Chg (fun k => k = R) W1 W2) (c3 : Chg (fun k => k = A) W2 W3) :
    Bk W1 B K n ∧ Chg (fun k => k < B ∧ k ≠ K) W1 W3 :=
  ⟨h.bk.below c1, (c2.mono fun k hk => by subst hk; exact ⟨h.hR, h.hRK⟩).trans (c3.mono fun k hk => by subst hk; exact ⟨h.hA, h.hAK⟩)⟩


set_option maxRecDepth 100000 in
set_option maxHeartbeats 4000000 in
theorem does_take (B K n R A s t u : Nat) (y : Int) (w : World) (h : DS w B K n R A s t u) (hn : n ≤ 1000000) (h2 : s ≤ 2048) (h0 : 0 < s) (ht : t < s) (hu : u ≤ s) :
    Calls Try.prog 38 #[.pointer (some ⟨R, 0, none⟩), .pointer (some ⟨A, 0, none⟩), .agg #[.int .i64 1, .int .i64 y], .pointer (some ⟨K, 0, none⟩)] w (DoesPost w B K n R A s) := by
  have hbox : Hid (Below w.heap.size w (w.alloc (.cells #[.int .i64 1, .int .i64 y] 43))) := (Below.refl _ _).alloc (Nat.le_refl _) _
  have hring1 : Hid (RingAt (w.alloc (.cells #[.int .i64 1, .int .i64 y] 43)) R s t u) := h.ring.alloc _
  have href1 : Hid (RefAt (w.alloc (.cells #[.int .i64 1, .int .i64 y] 43)) A s t u) := h.ref.alloc _
  have hat : Hid (At (w.alloc (.cells #[.int .i64 1, .int .i64 y] 43)) w.heap.size #[.int .i64 1, .int .i64 y] 43) := At.new _ _ _
  obtain ⟨code, t', u', l, hcode, hl, ht', hu', hF, hG⟩ := take_step y s t u h2 h0 ht hu
  have KF := Lib.hid hF
  have KG := Lib.hid hG
  have HD := Lib.hid h
  have hRlt := h.ring.lt
  have hAlt := h.ref.lt
  have hRA := h.hRA
  have hKB := h.hKB
  have hBW := h.hBW
  clear h hF hG
  go_enter Try.func38, Try.ntmps38
  go_wp2_with (first
    | (go_at_call 18; refine (KF.out _ _ hring1.out).mono ?_; rintro e w2 ⟨v2, rfl, r2, s2, c2⟩; have ref2 := href1.out.mod c2 (Ne.symm hRA); have hs1 := size_alloc w (.cells #[.int .i64 1, .int .i64 y] 43); have at2 := hat.out.mod c2 (by omega); have d1 := at2.cell 1)
    | (go_at_call 55; refine (KG.out _ _ ref2).mono ?_; rintro e w3 ⟨v3, rfl, r3, s3, c3⟩; have mid := Lib.hid (HD.out.mid hbox.out c2 c3); have hs2 := c2.size; have hs3 := c3.size)
    | (go_at_call 59; refine (bookspans_any (l := l) mid.out.1 hn mid.out.2 (s2.chg c3 (fun k hk e => by omega)) hl).mono ?_; rintro e w4 ⟨rfl, b4, c4⟩; have hs4 := c4.size)
    | (go_at_call 19; refine (samespans_any w4 (w.heap.size + 1) w2.heap.size v2 v3 l hl (((s2.chg c3 (fun k hk e => by omega)).chgRow c4 (fun k hk hk2 e => by omega)).rebase (by omega)) (s3.chgRow c4 (fun k hk hk2 e => by omega))).mono ?_; rintro e w5 ⟨rfl, b5⟩))
  go_ret
  obtain ⟨e1, e2⟩ := HD.out.end hbox.out c2 r2 c3 r3 b4 c4 b5
  exact ⟨t', u', rfl, ht', hu', e1, e2⟩


set_option maxRecDepth 100000 in
set_option maxHeartbeats 4000000 in
theorem does_give (B K n R A s t u : Nat) (y : Int) (w : World) (h : DS w B K n R A s t u) (hn : n ≤ 1000000) (h2 : s ≤ 2048) (h0 : 0 < s) (ht : t < s) (hu : u ≤ s) :
    Calls Try.prog 38 #[.pointer (some ⟨R, 0, none⟩), .pointer (some ⟨A, 0, none⟩), .agg #[.int .i64 2, .int .i64 y], .pointer (some ⟨K, 0, none⟩)] w (DoesPost w B K n R A s) := by
  have hbox : Hid (Below w.heap.size w (w.alloc (.cells #[.int .i64 2, .int .i64 y] 43))) := (Below.refl _ _).alloc (Nat.le_refl _) _
  have hring1 : Hid (RingAt (w.alloc (.cells #[.int .i64 2, .int .i64 y] 43)) R s t u) := h.ring.alloc _
  have href1 : Hid (RefAt (w.alloc (.cells #[.int .i64 2, .int .i64 y] 43)) A s t u) := h.ref.alloc _
  have hat : Hid (At (w.alloc (.cells #[.int .i64 2, .int .i64 y] 43)) w.heap.size #[.int .i64 2, .int .i64 y] 43) := At.new _ _ _
  obtain ⟨code, t', u', l, hcode, hl, ht', hu', hF, hG⟩ := give_step y s t u h2 h0 ht hu
  have KF := Lib.hid hF
  have KG := Lib.hid hG
  have HD := Lib.hid h
  have hRlt := h.ring.lt
  have hAlt := h.ref.lt
  have hRA := h.hRA
  have hKB := h.hKB
  have hBW := h.hBW
  clear h hF hG
  go_enter Try.func38, Try.ntmps38
  go_wp2_with (first
    | (go_at_call 21; refine (KF.out _ _ hring1.out).mono ?_; rintro e w2 ⟨v2, rfl, r2, s2, c2⟩; have ref2 := href1.out.mod c2 (Ne.symm hRA); have hs1 := size_alloc w (.cells #[.int .i64 2, .int .i64 y] 43); have at2 := hat.out.mod c2 (by omega); have d1 := at2.cell 1)
    | (go_at_call 56; refine (KG.out _ _ ref2).mono ?_; rintro e w3 ⟨v3, rfl, r3, s3, c3⟩; have mid := Lib.hid (HD.out.mid hbox.out c2 c3); have hs2 := c2.size; have hs3 := c3.size)
    | (go_at_call 59; refine (bookspans_any (l := l) mid.out.1 hn mid.out.2 (s2.chg c3 (fun k hk e => by omega)) hl).mono ?_; rintro e w4 ⟨rfl, b4, c4⟩; have hs4 := c4.size)
    | (go_at_call 19; refine (samespans_any w4 (w.heap.size + 1) w2.heap.size v2 v3 l hl (((s2.chg c3 (fun k hk e => by omega)).chgRow c4 (fun k hk hk2 e => by omega)).rebase (by omega)) (s3.chgRow c4 (fun k hk hk2 e => by omega))).mono ?_; rintro e w5 ⟨rfl, b5⟩))
  go_ret
  obtain ⟨e1, e2⟩ := HD.out.end hbox.out c2 r2 c3 r3 b4 c4 b5
  exact ⟨t', u', rfl, ht', hu', e1, e2⟩


set_option maxRecDepth 100000 in
set_option maxHeartbeats 4000000 in
theorem does_live (B K n R A s t u : Nat) (y : Int) (w : World) (h : DS w B K n R A s t u) (hn : n ≤ 1000000) (h2 : s ≤ 2048) (h0 : 0 < s) (ht : t < s) (hu : u ≤ s) :
    Calls Try.prog 38 #[.pointer (some ⟨R, 0, none⟩), .pointer (some ⟨A, 0, none⟩), .agg #[.int .i64 3, .int .i64 y], .pointer (some ⟨K, 0, none⟩)] w (DoesPost w B K n R A s) := by
  have hbox : Hid (Below w.heap.size w (w.alloc (.cells #[.int .i64 3, .int .i64 y] 43))) := (Below.refl _ _).alloc (Nat.le_refl _) _
  have hring1 : Hid (RingAt (w.alloc (.cells #[.int .i64 3, .int .i64 y] 43)) R s t u) := h.ring.alloc _
  have href1 : Hid (RefAt (w.alloc (.cells #[.int .i64 3, .int .i64 y] 43)) A s t u) := h.ref.alloc _
  have hat : Hid (At (w.alloc (.cells #[.int .i64 3, .int .i64 y] 43)) w.heap.size #[.int .i64 3, .int .i64 y] 43) := At.new _ _ _
  have HD := Lib.hid h
  have hRlt := h.ring.lt
  have hAlt := h.ref.lt
  have hRA := h.hRA
  have hKB := h.hKB
  have hBW := h.hBW
  have hl := spansL_le s t u
  have KF : Hid (∀ W, RingAt W R s t u → Calls Try.prog 17 #[.pointer (some ⟨R, 0, none⟩)] W fun e W' => ∃ v, e = .returned v ∧ RingAt W' R s t u ∧ SpanRow W' W.heap.size v (spansL s t u) ∧ Chg (fun k => k = R) W W') :=
    fun W hW => (live_any R s t u W hW h2 ht hu).mono fun e W' ⟨v, he, hs, hb⟩ => ⟨v, he, hW.below hb hW.lt, hs, Chg.ofBelow hb _⟩
  have KG : Hid (∀ W, RefAt W A s t u → Calls Try.prog 57 #[.pointer (some ⟨A, 0, none⟩)] W fun e W' => ∃ v, e = .returned v ∧ RefAt W' A s t u ∧ SpanRow W' W.heap.size v (spansL s t u) ∧ Chg (fun k => k = A) W W') :=
    fun W hW => (reflive_any A s t u W hW h2 ht hu).mono fun e W' ⟨v, he, hs, hb⟩ => ⟨v, he, hW.below hb hW.lt, hs, Chg.ofBelow hb _⟩
  generalize spansL s t u = l at *
  clear h
  go_enter Try.func38, Try.ntmps38
  go_wp2_with (first
    | (go_at_call 17; refine (KF.out _ hring1.out).mono ?_; rintro e w2 ⟨v2, rfl, r2, s2, c2⟩; have ref2 := href1.out.mod c2 (Ne.symm hRA); have hs1 := size_alloc w (.cells #[.int .i64 3, .int .i64 y] 43))
    | (go_at_call 57; refine (KG.out _ ref2).mono ?_; rintro e w3 ⟨v3, rfl, r3, s3, c3⟩; have mid := Lib.hid (HD.out.mid hbox.out c2 c3); have hs2 := c2.size; have hs3 := c3.size)
    | (go_at_call 59; refine (bookspans_any (l := l) mid.out.1 hn mid.out.2 (s2.chg c3 (fun k hk e => by omega)) hl).mono ?_; rintro e w4 ⟨rfl, b4, c4⟩; have hs4 := c4.size)
    | (go_at_call 19; refine (samespans_any w4 (w.heap.size + 1) w2.heap.size v2 v3 l hl (((s2.chg c3 (fun k hk e => by omega)).chgRow c4 (fun k hk hk2 e => by omega)).rebase (by omega)) (s3.chgRow c4 (fun k hk hk2 e => by omega))).mono ?_; rintro e w5 ⟨rfl, b5⟩))
  go_ret
  obtain ⟨e1, e2⟩ := HD.out.end hbox.out c2 r2 c3 r3 b4 c4 b5
  exact ⟨t, u, rfl, ht, hu, e1, e2⟩


set_option maxRecDepth 100000 in
set_option maxHeartbeats 4000000 in
theorem does_at (B K n R A s t u : Nat) (y : Int) (w : World) (h : DS w B K n R A s t u) (hn : n ≤ 1000000) (h2 : s ≤ 2048) (h0 : 0 < s) (ht : t < s) (hu : u ≤ s) :
    Calls Try.prog 38 #[.pointer (some ⟨R, 0, none⟩), .pointer (some ⟨A, 0, none⟩), .agg #[.int .i64 4, .int .i64 y], .pointer (some ⟨K, 0, none⟩)] w (DoesPost w B K n R A s) := by
  have hbox : Hid (Below w.heap.size w (w.alloc (.cells #[.int .i64 4, .int .i64 y] 43))) := (Below.refl _ _).alloc (Nat.le_refl _) _
  have hring1 : Hid (RingAt (w.alloc (.cells #[.int .i64 4, .int .i64 y] 43)) R s t u) := h.ring.alloc _
  have href1 : Hid (RefAt (w.alloc (.cells #[.int .i64 4, .int .i64 y] 43)) A s t u) := h.ref.alloc _
  have hat : Hid (At (w.alloc (.cells #[.int .i64 4, .int .i64 y] 43)) w.heap.size #[.int .i64 4, .int .i64 y] 43) := At.new _ _ _
  have HD := Lib.hid h
  have hRlt := h.ring.lt
  have hAlt := h.ref.lt
  obtain ⟨p, code, hcode, KF, KG⟩ : ∃ p code : Nat, code ≤ 100 ∧ Hid (∀ W, RingAt W R s t u → Calls Try.prog 36 #[.pointer (some ⟨R, 0, none⟩), .int .i64 y] W fun e W' => e = .returned (.tuple #[.int .i64 (p : Int), .int .u16 (code : Int)]) ∧ Below W.heap.size W W') ∧
      Hid (∀ W, RefAt W A s t u → Calls Try.prog 58 #[.pointer (some ⟨A, 0, none⟩), .int .i64 y] W fun e W' => e = .returned (.tuple #[.int .i64 (p : Int), .int .i64 (code : Int)]) ∧ Below W.heap.size W W') := by
    by_cases hbad : y < 0 ∨ (0 ≤ y ∧ (s : Int) ≤ y)
    · exact ⟨0, 3, by omega, fun W hW => at_bad R s t u y W hW hbad, fun W hW => refat_bad A s t u y W hW hbad⟩
    · obtain ⟨m, rfl⟩ : ∃ m : Nat, y = m := ⟨y.toNat, by omega⟩
      exact ⟨(t + m) % s, 0, by omega, fun W hW => at_ok R s t u m W hW h2 ht (by omega), fun W hW => refat_ok A s t u m W hW h2 ht (by omega)⟩
  clear h
  go_enter Try.func38, Try.ntmps38
  go_wp2_with (first
    | (go_at_call 36; refine (KF.out _ hring1.out).mono ?_; rintro e w2 ⟨rfl, b2⟩; have ref2 := href1.out.below b2 href1.out.lt; have d1 := (hat.out.below b2 hat.out.lt).cell 1)
    | (go_at_call 58; refine (KG.out _ ref2).mono ?_; rintro e w3 ⟨rfl, b3⟩))
  go_ret
  have hb := below_then (below_then hbox.out b2) b3
  have hsz := hb.size
  have H := HD.out
  refine ⟨t, u, rfl, ht, hu, ⟨H.ring.below hb hRlt, H.ref.below hb hAlt, (H.bk.below hb).le (by omega), H.hR, H.hA, H.hRK, H.hAK, H.hRA, H.hKB, by have := H.hBW; omega⟩, Chg.ofBelow hb _⟩


set_option maxRecDepth 100000 in
set_option maxHeartbeats 4000000 in
theorem does_none (B K n R A s t u : Nat) (x y : Int) (w : World) (h : DS w B K n R A s t u) (hn : n ≤ 1000000) (h2 : s ≤ 2048) (h0 : 0 < s) (ht : t < s) (hu : u ≤ s) (hx1 : x ≠ 1) (hx2 : x ≠ 2) (hx3 : x ≠ 3) (hx4 : x ≠ 4) :
    Calls Try.prog 38 #[.pointer (some ⟨R, 0, none⟩), .pointer (some ⟨A, 0, none⟩), .agg #[.int .i64 x, .int .i64 y], .pointer (some ⟨K, 0, none⟩)] w (DoesPost w B K n R A s) := by
  have hbox : Hid (Below w.heap.size w (w.alloc (.cells #[.int .i64 x, .int .i64 y] 43))) := (Below.refl _ _).alloc (Nat.le_refl _) _
  have hring1 : Hid (RingAt (w.alloc (.cells #[.int .i64 x, .int .i64 y] 43)) R s t u) := h.ring.alloc _
  have href1 : Hid (RefAt (w.alloc (.cells #[.int .i64 x, .int .i64 y] 43)) A s t u) := h.ref.alloc _
  have hat : Hid (At (w.alloc (.cells #[.int .i64 x, .int .i64 y] 43)) w.heap.size #[.int .i64 x, .int .i64 y] 43) := At.new _ _ _
  have HD := Lib.hid h
  have hRlt := h.ring.lt
  have hAlt := h.ref.lt
  have q1 : (x == 1) = false := beq_eq_false_iff_ne.2 hx1
  have q2 : (x == 2) = false := beq_eq_false_iff_ne.2 hx2
  have q3 : (x == 3) = false := beq_eq_false_iff_ne.2 hx3
  have q4 : (x == 4) = false := beq_eq_false_iff_ne.2 hx4
  have mid := Lib.hid (h.mid hbox.out (Chg.refl _ _) (Chg.refl _ _))
  clear h hx1 hx2 hx3 hx4
  go_enter Try.func38, Try.ntmps38
  go_wp2_with (first
    | (go_at_call 59; refine (bookspans_any (l := []) mid.out.1 hn mid.out.2 (SpanRow.none _ _) (by simp)).mono ?_; rintro e w4 ⟨rfl, b4, c4⟩)
    | (go_at_call 19; refine (samespans_any w4 0 0 (.slice none 0 0) (.slice none 0 0) [] (by simp) (SpanRow.none _ _) (SpanRow.none _ _)).mono ?_; rintro e w5 ⟨rfl, b5⟩))
  go_ret
  obtain ⟨e1, e2⟩ := HD.out.end hbox.out (Chg.refl _ _) hring1.out (Chg.refl _ _) href1.out b4 c4 b5
  exact ⟨t, u, rfl, ht, hu, e1, e2⟩

theorem does_any (B K n R A s t u : Nat) (x y : Int) (w : World) (h : DS w B K n R A s t u) (hn : n ≤ 1000000) (h2 : s ≤ 2048) (h0 : 0 < s) (ht : t < s) (hu : u ≤ s) :
    Calls Try.prog 38 #[.pointer (some ⟨R, 0, none⟩), .pointer (some ⟨A, 0, none⟩), .agg #[.int .i64 x, .int .i64 y], .pointer (some ⟨K, 0, none⟩)] w (DoesPost w B K n R A s) := by
  by_cases h1 : x = 1
  · subst h1; exact does_take B K n R A s t u y w h hn h2 h0 ht hu
  by_cases h2' : x = 2
  · subst h2'; exact does_give B K n R A s t u y w h hn h2 h0 ht hu
  by_cases h3 : x = 3
  · subst h3; exact does_live B K n R A s t u y w h hn h2 h0 ht hu
  by_cases h4 : x = 4
  · subst h4; exact does_at B K n R A s t u y w h hn h2 h0 ht hu
  exact does_none B K n R A s t u x y w h hn h2 h0 ht hu h1 h2' h3 h4

end Go.Proofs.Ytjmnbpghfnageaa
