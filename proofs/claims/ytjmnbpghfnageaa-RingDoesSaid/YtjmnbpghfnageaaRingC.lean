/- The walks of the ring's methods. -/
import Derived.Test.YtjmnbpghfnageaaRingB
import Derived.Deep.RegionHeld3
import Derived.Deep.RegionWith
namespace Go.Proofs.Ytjmnbpghfnageaa
open Go.RowKit

/-- A ring in block g. -/
abbrev RingAt (w : World) (g size tail used : Nat) : Prop := At w g #[.int .i64 (size : Int), .int .i64 (tail : Int), .int .i64 (used : Int)] 90

theorem RingAt.cells {w : World} {g size tail used : Nat} (h : RingAt w g size tail used) :
    w.cell? ⟨g, 0, none⟩ = some (.int .i64 (size : Int)) ∧ w.cell? ⟨g, 1, none⟩ = some (.int .i64 (tail : Int)) ∧ w.cell? ⟨g, 2, none⟩ = some (.int .i64 (used : Int)) :=
  ⟨h.cell 0, h.cell 1, h.cell 2⟩

/-- Spans in a row of their own. -/
def SpanRow (w : World) (base : Nat) (v : Value) (l : List (Nat × Nat)) : Prop := w.ownsRow base 31 2 v l.length (l.flatMap spanCells) ∧ (v = .slice none 0 0 ↔ l = [])

theorem SpanRow.rebase {w : World} {base base' : Nat} {v : Value} {l : List (Nat × Nat)} (h : SpanRow w base v l) (hb : base' ≤ base) : SpanRow w base' v l :=
  ⟨⟨h.1.1, h.1.2.imp id (fun ⟨g, cap, cur, a, b, r⟩ => ⟨g, cap, cur, a, Nat.le_trans hb b, r⟩)⟩, h.2⟩

theorem SpanRow.set {w : World} {base : Nat} {v : Value} {l : List (Nat × Nat)} (h : SpanRow w base v l) {a : Addr} (ha : a.block < base) (u : Value) : SpanRow (w.setCell a u) base v l :=
  ⟨ownsRow_setCell_below h.1 ha u, h.2⟩

theorem SpanRow.chg {S : Nat → Prop} {w w' : World} {base : Nat} {v : Value} {l : List (Nat × Nat)} (h : SpanRow w base v l) (hc : Chg S w w') (hS : ∀ k, base ≤ k → ¬ S k) : SpanRow w' base v l := by
  refine ⟨⟨h.1.1, ?_⟩, h.2⟩
  rcases h.1.2 with hn | ⟨g, cap, cur, hv, hg, hh, r⟩
  · exact .inl hn
  · exact .inr ⟨g, cap, cur, hv, hg, (hc.block g (lt_of_block hh) (hS g hg)).trans hh, r⟩

theorem SpanRow.below {w w' : World} {base B : Nat} {v : Value} {l : List (Nat × Nat)} (h : SpanRow w base v l) (hb : Below B w w') (hB : w.heap.size ≤ B) : SpanRow w' base v l := ⟨ownsRow_below h.1 hb hB, h.2⟩

set_option maxHeartbeats 1000000 in
theorem rnew_bad (size tail used : Int) (w : World) (h : size < 5 ∨ (5 ≤ size ∧ 2048 < size) ∨ (5 ≤ size ∧ size ≤ 2048 ∧ tail < 0) ∨ (5 ≤ size ∧ size ≤ 2048 ∧ 0 ≤ tail ∧ size ≤ tail) ∨ (5 ≤ size ∧ size ≤ 2048 ∧ 0 ≤ tail ∧ tail < size ∧ used < 0) ∨ (5 ≤ size ∧ size ≤ 2048 ∧ 0 ≤ tail ∧ tail < size ∧ 0 ≤ used ∧ size < used)) :
    Calls Try.prog 15 #[.int .i64 size, .int .i64 tail, .int .i64 used] w fun e w' => e = .returned (.tuple #[.pointer none, .int .u16 1]) ∧ w = w' := by
  rcases h with h | ⟨h1, h⟩ | ⟨h1, h2, h⟩ | ⟨h1, h2, h3, h⟩ | ⟨h1, h2, h3, h4, h⟩ | ⟨h1, h2, h3, h4, h5, h⟩
  all_goals
    go_enter Try.func15, Try.ntmps15
    go_wp2
    go_ret2
    exact ⟨rfl, rfl⟩

set_option maxHeartbeats 1000000 in
theorem rnew_good (size tail used : Nat) (w : World) (h1 : 5 ≤ size) (h2 : size ≤ 2048) (h3 : tail < size) (h4 : used ≤ size) :
    Calls Try.prog 15 #[.int .i64 size, .int .i64 tail, .int .i64 used] w fun e w' => e = .returned (.tuple #[.pointer (some ⟨w.heap.size, 0, none⟩), .int .u16 0]) ∧
      w' = w.alloc (.cells #[.int .i64 (size : Int), .int .i64 (tail : Int), .int .i64 (used : Int)] 90) := by
  go_enter Try.func15, Try.ntmps15
  go_wp2
  go_ret2
  exact ⟨rfl, rfl⟩

set_option maxHeartbeats 1000000 in
theorem behind_any (g size tail used n : Nat) (w : World) (h : RingAt w g size tail used) (h2 : size ≤ 2048) (h0 : 0 < size) (h3 : tail < size) (hn : n ≤ 2048) :
    Calls Try.prog 47 #[.pointer (some ⟨g, 0, none⟩), .int .i64 n] w fun e w' => e = .returned (.int .i64 ((tail + n) % size : Nat)) ∧ Below w.heap.size w w' := by
  obtain ⟨c0, c1, c2⟩ := h.cells
  have hmod : ((tail : Int) + (n : Int)) % (size : Int) = (((tail + n) % size : Nat) : Int) := by simp
  have hs : ((size : Int) == 0) = false := beq_eq_false_iff_ne.2 (by omega)
  have hlt := Nat.mod_lt (tail + n) h0
  clear h
  generalize (tail + n) % size = q at *
  go_enter Try.func47, Try.ntmps47
  go_wp2
  go_quiet (fail)
  go_wp2
  go_ret
  exact ⟨ret_int hmod, below_drewN (Below.refl _ _) _⟩

set_option maxHeartbeats 1000000 in
theorem head_any (g size tail used : Nat) (w : World) (h : RingAt w g size tail used) (h2 : size ≤ 2048) (h0 : 0 < size) (h3 : tail < size) (hn : used ≤ size) :
    Calls Try.prog 20 #[.pointer (some ⟨g, 0, none⟩)] w fun e w' => e = .returned (.int .i64 ((tail + used) % size : Nat)) ∧ Below w.heap.size w w' := by
  have hcall := Lib.hid (behind_any g size tail used used w h h2 h0 h3 (by omega))
  obtain ⟨c0, c1, c2⟩ := h.cells
  clear h
  generalize (tail + used) % size = q at *
  go_enter Try.func20, Try.ntmps20
  go_wp2_with (go_at_call 47; refine hcall.out.mono ?_; rintro e w' ⟨rfl, hb⟩)
  go_ret
  exact ⟨rfl, hb⟩

set_option maxHeartbeats 1000000 in
theorem free_any (g size tail used : Nat) (w : World) (h : RingAt w g size tail used) (h2 : size ≤ 2048) (hn : used ≤ size) :
    Calls Try.prog 25 #[.pointer (some ⟨g, 0, none⟩)] w fun e w' => e = .returned (.int .i64 (size - used : Nat)) ∧ Below w.heap.size w w' := by
  obtain ⟨c0, c1, c2⟩ := h.cells
  have hsub : (size : Int) - (used : Int) = ((size - used : Nat) : Int) := by omega
  clear h
  generalize size - used = q at *
  go_enter Try.func25, Try.ntmps25
  go_wp2
  go_quiet (fail)
  go_wp2
  go_ret
  exact ⟨rfl, below_drewN (Below.refl _ _) _⟩

set_option maxHeartbeats 1000000 in
theorem size_any (g size tail used : Nat) (w : World) (h : RingAt w g size tail used) :
    Calls Try.prog 26 #[.pointer (some ⟨g, 0, none⟩)] w fun e w' => e = .returned (.int .i64 (size : Nat)) ∧ w = w' := by
  obtain ⟨c0, c1, c2⟩ := h.cells
  clear h
  go_enter Try.func26, Try.ntmps26
  go_wp2
  go_ret
  exact ⟨rfl, rfl⟩

set_option maxHeartbeats 1000000 in
theorem tail_any (g size tail used : Nat) (w : World) (h : RingAt w g size tail used) :
    Calls Try.prog 23 #[.pointer (some ⟨g, 0, none⟩)] w fun e w' => e = .returned (.int .i64 (tail : Nat)) ∧ w = w' := by
  obtain ⟨c0, c1, c2⟩ := h.cells
  clear h
  go_enter Try.func23, Try.ntmps23
  go_wp2
  go_ret
  exact ⟨rfl, rfl⟩

set_option maxHeartbeats 1000000 in
theorem used_any (g size tail used : Nat) (w : World) (h : RingAt w g size tail used) :
    Calls Try.prog 22 #[.pointer (some ⟨g, 0, none⟩)] w fun e w' => e = .returned (.int .i64 (used : Nat)) ∧ w = w' := by
  obtain ⟨c0, c1, c2⟩ := h.cells
  clear h
  go_enter Try.func22, Try.ntmps22
  go_wp2
  go_ret
  exact ⟨rfl, rfl⟩

set_option maxHeartbeats 1000000 in
theorem spans_any (r' : Option Addr) (a b : Int) (w : World) :
    Calls Try.prog 46 #[.pointer r', .int .i64 a, .int .i64 b] w fun e w' => e = .returned (.func (.func 74) #[] #[.pointer (some ⟨w.heap.size + 2, 0, none⟩), .pointer (some ⟨w.heap.size, 0, none⟩), .pointer (some ⟨w.heap.size + 1, 0, none⟩)]) ∧
      w' = ((w.alloc (.cells #[.pointer r'] 22)).alloc (.cells #[.int .i64 a] 3)).alloc (.cells #[.int .i64 b] 3) := by
  go_enter Try.func46, Try.ntmps46
  go_wp2
  go_ret
  exact ⟨rfl, rfl⟩

/-- 'spans', then 'Collect': in the world behind 'spans'. -/
theorem collect_spans (g size tail used start n : Nat) (w : World) (h : RingAt w g size tail used) (h2 : size ≤ 2048) (h3 : start < size) (hn : n ≤ size) :
    Calls Try.prog 45 #[.func (.func 74) #[] #[.pointer (some ⟨w.heap.size + 2, 0, none⟩), .pointer (some ⟨w.heap.size, 0, none⟩), .pointer (some ⟨w.heap.size + 1, 0, none⟩)]]
      (((w.alloc (.cells #[.pointer (some ⟨g, 0, none⟩)] 22)).alloc (.cells #[.int .i64 (start : Int)] 3)).alloc (.cells #[.int .i64 (n : Int)] 3)) fun e w' =>
      ∃ v, e = .returned v ∧ SpanRow w' w.heap.size v (spansL size start n) ∧ Below w.heap.size w w' := by
  have hlt := h.lt
  have h1 := ((h.alloc (.cells #[.pointer (some ⟨g, 0, none⟩)] 22)).alloc (.cells #[.int .i64 (start : Int)] 3)).alloc (.cells #[.int .i64 (n : Int)] 3)
  have e1 : At (((w.alloc (.cells #[.pointer (some ⟨g, 0, none⟩)] 22)).alloc (.cells #[.int .i64 (start : Int)] 3)).alloc (.cells #[.int .i64 (n : Int)] 3)) w.heap.size #[.pointer (some ⟨g, 0, none⟩)] 22 :=
    ((At.new _ _ _).alloc _).alloc _
  have e2 : At (((w.alloc (.cells #[.pointer (some ⟨g, 0, none⟩)] 22)).alloc (.cells #[.int .i64 (start : Int)] 3)).alloc (.cells #[.int .i64 (n : Int)] 3)) (w.heap.size + 1) #[.int .i64 (start : Int)] 3 :=
    (At.new2 _ _ _ _).alloc _
  refine (collect_any g w.heap.size (w.heap.size + 1) (w.heap.size + 2) size start n tail used _ h2 h3 hn h1 e1 e2 (At.new3 _ _ _ _ _) (by omega) (by omega) (by omega) (by omega) (by omega)).mono ?_
  rintro e w' ⟨v, rfl, hown, hnil, hc⟩
  have hb3 : Below w.heap.size w (((w.alloc (.cells #[.pointer (some ⟨g, 0, none⟩)] 22)).alloc (.cells #[.int .i64 (start : Int)] 3)).alloc (.cells #[.int .i64 (n : Int)] 3)) :=
    (((Below.refl _ w).alloc (Nat.le_refl _) _).alloc (by rw [size_alloc]; omega) _).alloc (by rw [size_alloc, size_alloc]; omega) _
  refine ⟨v, rfl, ⟨⟨hown.1, hown.2.imp id (fun ⟨g, cap, cur, a, b, r⟩ => ⟨g, cap, cur, a, Nat.le_trans hb3.size b, r⟩)⟩, hnil⟩, ?_⟩
  exact Chg.own hb3 hc (fun k hk => by rcases hk with rfl | rfl <;> omega)

def SpanPost (w : World) (size start n : Nat) (e : Ending) (w' : World) : Prop := ∃ v, e = .returned v ∧ SpanRow w' w.heap.size v (spansL size start n) ∧ Below w.heap.size w w'

set_option maxRecDepth 100000 in
set_option maxHeartbeats 2000000 in
theorem live_any (g size tail used : Nat) (w : World) (h : RingAt w g size tail used) (h2 : size ≤ 2048) (h3 : tail < size) (hn : used ≤ size) :
    Calls Try.prog 17 #[.pointer (some ⟨g, 0, none⟩)] w (SpanPost w size tail used) := by
  obtain ⟨c0, c1, c2⟩ := h.cells
  have hlt := h.lt
  have HS := Lib.hid (RingAt.cells (w := (((w.alloc (.cells #[.pointer (some ⟨g, 0, none⟩)] 22)).alloc (.cells #[.int .i64 (tail : Int)] 3)).alloc (.cells #[.int .i64 (used : Int)] 3)).drew) (((h.alloc _).alloc _).alloc _).drew).2
  have H := Lib.hid h
  clear h
  go_enter Try.func17, Try.ntmps17
  go_wp2
  go_region_held3 (fun w' => w'.cell? ⟨g, 1, none⟩ = some (.int .i64 (tail : Int)) ∧ w'.cell? ⟨g, 2, none⟩ = some (.int .i64 (used : Int)))
    (first | exact HS.out | exact (RingAt.cells (H.out.drew.below hb hlt)).2 | exact (RingAt.cells H.out.drew).2)
    (first
    | (go_at_call 46; refine (spans_any _ _ _ _).mono ?_; rintro e w1 ⟨rfl, rfl⟩)
    | (go_at_call 45; refine (collect_spans g size tail used tail used w.drew H.out.drew h2 h3 hn).mono ?_; rintro e w2 ⟨v, rfl, hrow, hb⟩))
  go_wp2
  go_ret
  exact ⟨_, rfl, hrow, (Below.refl w.heap.size w).drew.trans hb⟩

set_option maxHeartbeats 1000000 in
theorem take_neg (a : Option Addr) (n : Int) (hn : n < 0) (w : World) :
    Calls Try.prog 18 #[.pointer a, .int .i64 n] w fun e w' => e = .returned (.tuple #[.slice none 0 0, .int .u16 1]) ∧ w = w' := by
  go_enter Try.func18, Try.ntmps18
  go_wp2
  go_ret2
  exact ⟨rfl, rfl⟩

set_option maxHeartbeats 1000000 in
theorem take_full (g size tail used : Nat) (n : Int) (w : World) (h : RingAt w g size tail used) (h2 : size ≤ 2048) (hu : used ≤ size) (h0 : 0 ≤ n) (hn : ((size - used : Nat) : Int) < n) :
    Calls Try.prog 18 #[.pointer (some ⟨g, 0, none⟩), .int .i64 n] w fun e w' => e = .returned (.tuple #[.slice none 0 0, .int .u16 90]) ∧ Below w.heap.size w w' := by
  have hcall := Lib.hid (free_any g size tail used w h h2 hu)
  clear h
  generalize size - used = q at *
  go_enter Try.func18, Try.ntmps18
  go_wp2_with (go_at_call 25; refine hcall.out.mono ?_; rintro e w1 ⟨rfl, hb⟩)
  go_ret2
  exact ⟨rfl, hb⟩

def TakePost (w : World) (g size tail used start n : Nat) (e : Ending) (w' : World) : Prop :=
  ∃ v, e = .returned (.tuple #[v, .int .u16 0]) ∧ RingAt w' g size tail used ∧ SpanRow w' w.heap.size v (spansL size start n) ∧ Chg (fun k => k = g) w w'

set_option maxRecDepth 100000 in
set_option maxHeartbeats 2000000 in
theorem take_ok (g size tail used n : Nat) (w : World) (h : RingAt w g size tail used) (h2 : size ≤ 2048) (h0 : 0 < size) (h3 : tail < size) (hu : used ≤ size) (hn : n ≤ size - used) :
    Calls Try.prog 18 #[.pointer (some ⟨g, 0, none⟩), .int .i64 n] w (TakePost w g size tail (used + n) ((tail + used) % size) n) := by
  have hfree := Lib.hid (free_any g size tail used w h h2 hu)
  have hhead := Lib.hid (fun (W : World) (hb : Below w.heap.size w W) => head_any g size tail used W (h.below hb h.lt) h2 h0 h3 hu)
  have hq := Nat.mod_lt (tail + used) h0
  have hcol := Lib.hid (fun (W : World) (hb : Below w.heap.size w W) => collect_spans g size tail used ((tail + used) % size) n W (h.below hb h.lt) h2 hq (by omega))
  have hlt := h.lt
  have H := Lib.hid h
  have hno : ¬ (((size - used : Nat) : Int) < (n : Int)) := by omega
  have hn2 : n ≤ 2048 := by omega
  clear h
  generalize (tail + used) % size = st at *
  generalize size - used = q at *
  go_enter Try.func18, Try.ntmps18
  go_wp2_with (first
    | (go_at_call 25; refine hfree.out.mono ?_; rintro e w1 ⟨rfl, hb1⟩)
    | (go_at_call 20; refine (hhead.out _ hb1).mono ?_; rintro e w2 ⟨rfl, hb2⟩; have hb2' := below_then hb1 hb2)
    | (go_at_call 46; refine (spans_any _ _ _ _).mono ?_; rintro e w3 ⟨rfl, rfl⟩)
    | (go_at_call 45; refine (hcol.out _ hb2').mono ?_; rintro e w4 ⟨v, rfl, hrow, hb4⟩; have hb4' := below_then hb2' hb4; have hr4 := H.out.below hb4' hlt; obtain ⟨d0, d1, d2⟩ := RingAt.cells hr4; have f2 := hr4.free 2))
  go_ret2
  refine ⟨v, rfl, hr4.set 2 (.int .i64 ((used + n : Nat) : Int)), ?_, ?_⟩
  · exact (hrow.set (a := ⟨g, 2, none⟩) (Nat.lt_of_lt_of_le hlt hb2'.size) _).rebase hb2'.size
  · exact Chg.setCell (S := fun k => k = g) (Chg.ofBelow hb4' _) ⟨g, 2, none⟩ (.inl rfl) _

set_option maxHeartbeats 1000000 in
theorem give_neg (a : Option Addr) (n : Int) (hn : n < 0) (w : World) :
    Calls Try.prog 21 #[.pointer a, .int .i64 n] w fun e w' => e = .returned (.tuple #[.slice none 0 0, .int .u16 1]) ∧ w = w' := by
  go_enter Try.func21, Try.ntmps21
  go_wp2
  go_ret2
  exact ⟨rfl, rfl⟩

set_option maxHeartbeats 1000000 in
theorem give_less (g size tail used : Nat) (n : Int) (w : World) (h : RingAt w g size tail used) (h0 : 0 ≤ n) (hn : (used : Int) < n) :
    Calls Try.prog 21 #[.pointer (some ⟨g, 0, none⟩), .int .i64 n] w fun e w' => e = .returned (.tuple #[.slice none 0 0, .int .u16 91]) ∧ w = w' := by
  obtain ⟨c0, c1, c2⟩ := h.cells
  clear h
  go_enter Try.func21, Try.ntmps21
  go_wp2
  go_ret2
  exact ⟨rfl, rfl⟩

set_option maxRecDepth 100000 in
set_option maxHeartbeats 4000000 in
theorem give_ok (g size tail used n : Nat) (w : World) (h : RingAt w g size tail used) (h2 : size ≤ 2048) (h0 : 0 < size) (h3 : tail < size) (hu : used ≤ size) (hn : n ≤ used) :
    Calls Try.prog 21 #[.pointer (some ⟨g, 0, none⟩), .int .i64 n] w (TakePost w g size ((tail + n) % size) (used - n) tail n) := by
  have hcol := Lib.hid (collect_spans g size tail used tail n w h h2 h3 (by omega))
  have hbeh := Lib.hid (fun (W : World) (hb : Below w.heap.size w W) => behind_any g size tail used n W (h.below hb h.lt) h2 h0 h3 (by omega))
  have hlt := h.lt
  have H := Lib.hid h
  have hno : ¬ ((used : Int) < (n : Int)) := by omega
  have hq : (used : Int) - (n : Int) = ((used - n : Nat) : Int) := by omega
  obtain ⟨c0, c1, c2⟩ := h.cells
  clear h
  have hwq : IntKind.i64.wrap ((used - n : Nat) : Int) = ((used - n : Nat) : Int) := IntWalk.i64_in _ (by omega)
  generalize used - n = q at *
  generalize (tail + n) % size = st at *
  go_enter Try.func21, Try.ntmps21
  go_wp2_with (first
    | (go_at_call 46; refine (spans_any _ _ _ _).mono ?_; rintro e w3 ⟨rfl, rfl⟩)
    | (go_at_call 45; refine hcol.out.mono ?_; rintro e w4 ⟨v, rfl, hrow, hb4⟩; have hr4 := H.out.below hb4 hlt; obtain ⟨d0, d1, d2⟩ := RingAt.cells hr4; have f1 := hr4.free 1; have f2 := hr4.free 2))
  go_region_with (go_at_call 47; refine (hbeh.out _ (below_then hb4 (Below.refl _ _).drew)).mono ?_; rintro e w5 ⟨rfl, hb5⟩; have hr5 := H.out.below (below_then hb4 ((Below.refl _ _).drew.trans hb5)) hlt; obtain ⟨k0, k1, k2⟩ := RingAt.cells hr5; have g1 := hr5.free 1; have g2 := hr5.free 2)
  all_goals
    have hb45 : Below w4.heap.size w4 w5 := (Below.refl w4.heap.size w4).drew.trans hb5
    have hbw5 := below_then hb4 hb45
    go_wp2
    go_ret2
    refine ⟨v, rfl, (hr5.set 1 _).set 2 _, ?_, ?_⟩
    · exact ((hrow.below hb45 (Nat.le_refl _)).set (a := ⟨g, 1, none⟩) hlt _).set (a := ⟨g, 2, none⟩) hlt _
    · exact Chg.setCell (S := fun k => k = g) (Chg.setCell (S := fun k => k = g) (Chg.ofBelow hbw5 _) ⟨g, 1, none⟩ (.inl rfl) _) ⟨g, 2, none⟩ (.inl rfl) _

set_option maxHeartbeats 1000000 in
theorem at_bad (g size tail used : Nat) (n : Int) (w : World) (h : RingAt w g size tail used) (hn : n < 0 ∨ (0 ≤ n ∧ (size : Int) ≤ n)) :
    Calls Try.prog 36 #[.pointer (some ⟨g, 0, none⟩), .int .i64 n] w fun e w' => e = .returned (.tuple #[.int .i64 0, .int .u16 3]) ∧ Below w.heap.size w w' := by
  obtain ⟨c0, c1, c2⟩ := h.cells
  clear h
  rcases hn with hn | ⟨hn, hn'⟩
  all_goals
    go_enter Try.func36, Try.ntmps36
    go_wp2
    go_ret2
    exact ⟨rfl, Below.refl _ _⟩

set_option maxHeartbeats 1000000 in
theorem at_ok (g size tail used n : Nat) (w : World) (h : RingAt w g size tail used) (h2 : size ≤ 2048) (h3 : tail < size) (hn : n < size) :
    Calls Try.prog 36 #[.pointer (some ⟨g, 0, none⟩), .int .i64 n] w fun e w' => e = .returned (.tuple #[.int .i64 ((tail + n) % size : Nat), .int .u16 0]) ∧ Below w.heap.size w w' := by
  have hbeh := Lib.hid (behind_any g size tail used n w h h2 (by omega) h3 (by omega))
  obtain ⟨c0, c1, c2⟩ := h.cells
  clear h
  generalize (tail + n) % size = st at *
  go_enter Try.func36, Try.ntmps36
  go_wp2_with (go_at_call 47; refine hbeh.out.mono ?_; rintro e w' ⟨rfl, hb⟩)
  go_ret2
  exact ⟨rfl, hb⟩

end Go.Proofs.Ytjmnbpghfnageaa
