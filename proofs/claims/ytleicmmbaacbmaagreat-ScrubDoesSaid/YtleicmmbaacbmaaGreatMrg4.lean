/- Several texts in one: BayA, BayB. -/
import Derived.Test.YtleicmmbaacbmaaGreatMrg3
/- A bay of disks: how it lies in memory; a slot, its disk. -/
set_option linter.unusedVariables false
namespace Go.Proofs.YtleicmmbaacbmaaGreat
open Go.RowKit

/-- A device: its disk, whether it is worn, how many operations it still does. -/
structure Dev where
  d : Dsk
  worn : Bool
  left : Int

structure DevAt (W : World) (T : Nat → Nat) (t dv dp : Nat) (x : Dev) : Prop where
  dev : At W dv #[.pointer (some ⟨dp, 0, none⟩), .bool x.worn, .int .i64 x.left] 86
  tag : T dv = 1
  two : 2 ≤ t
  disk : DiskAt W T t dp x.d
  lo : 0 ≤ x.left
  hi : x.left ≤ 9223372036854775807

/-- A bay: so many slots; at 3 k, 3 k + 1, 3 k + 2 what is in slot k, aside of it, coming; its power; its counts. -/
structure BaySt where
  n : Nat
  pos : Nat → Option Dev
  dark : Bool
  trip : Int
  cnt : Nat → Int

def pcell (p : Option Nat) : Value := .pointer (p.map fun b => ⟨b, 0, none⟩)
def slotCells (ptr : Nat → Option Nat) (n : Nat) : Array Value := ((List.range (3 * n)).map fun i => pcell (ptr i)).toArray
theorem slotCells_at (ptr : Nat → Option Nat) (n i : Nat) (h : i < 3 * n) : (slotCells ptr n)[i]? = some (pcell (ptr i)) := by simp [slotCells, h]

def bayCells (gs : Nat) (s : BaySt) : Array Value := #[.slice (some ⟨gs, 0, none⟩) s.n s.n, .bool s.dark, .int .i64 s.trip, .int .i64 (s.cnt 0), .int .i64 (s.cnt 1), .int .i64 (s.cnt 2)]

/-- The bay s in block b; gs: the slots' row; ptr: the devices' blocks; tg: their tags; dp: their disks' blocks. -/
structure BayIn (W : World) (T : Nat → Nat) (b : Nat) (s : BaySt) (gs : Nat) (ptr : Nat → Option Nat) (tg dp : Nat → Nat) : Prop where
  bay : At W b (bayCells gs s) 80
  slots : At W gs (slotCells ptr s.n) 88
  tb : T b = 1
  ts : T gs = 1
  some' : ∀ i, i < 3 * s.n → ∀ x, s.pos i = some x → ∃ dv, ptr i = some dv ∧ DevAt W T (tg i) dv (dp i) x
  none' : ∀ i, i < 3 * s.n → s.pos i = none → ptr i = none
  apart : ∀ i j, i < 3 * s.n → j < 3 * s.n → i ≠ j → s.pos i ≠ none → s.pos j ≠ none → tg i ≠ tg j
  own : ∀ i j, i < 3 * s.n → j < 3 * s.n → i ≠ j → ∀ dv, ptr i = some dv → ptr j ≠ some dv
  virgin : ∀ k, W.heap.size ≤ k → T k = 0
  few : s.n ≤ 17
  cl : ∀ j, 0 ≤ s.cnt j
  trl : -1 ≤ s.trip
  trh : s.trip ≤ 9223372036854775807

def BayAt (W : World) (T : Nat → Nat) (b : Nat) (s : BaySt) : Prop := ∃ gs ptr tg dp, BayIn W T b s gs ptr tg dp

theorem DevAt.keep {S : Nat → Prop} {W W' : World} {T : Nat → Nat} {t dv dp : Nat} {x : Dev} (h : DevAt W T t dv dp x) (hc : Chg S W W') (hS : ∀ k, T k = t ∨ k = dv → ¬ S k) : DevAt W' T t dv dp x :=
  ⟨h.dev.mod hc (hS dv (.inr rfl)), h.tag, h.two, h.disk.keep hc (fun k hk => hS k (.inl hk)), h.lo, h.hi⟩

theorem DevAt.retag {W : World} {T T' : Nat → Nat} {t dv dp : Nat} {x : Dev} (h : DevAt W T t dv dp x) (hT : ∀ g, g < W.heap.size → T' g = T g) : DevAt W T' t dv dp x :=
  ⟨h.dev, by rw [hT dv h.dev.lt]; exact h.tag, h.two, h.disk.retag hT, h.lo, h.hi⟩

/-- What does not touch the bay's blocks leaves it. -/
theorem BayIn.keep {S : Nat → Prop} {W W' : World} {T : Nat → Nat} {b : Nat} {s : BaySt} {gs : Nat} {ptr : Nat → Option Nat} {tg dp : Nat → Nat} (h : BayIn W T b s gs ptr tg dp) (hc : Chg S W W') (hS : ∀ k, T k ≠ 0 → ¬ S k) : BayIn W' T b s gs ptr tg dp :=
  ⟨h.bay.mod hc (hS b (by rw [h.tb]; omega)), h.slots.mod hc (hS gs (by rw [h.ts]; omega)), h.tb, h.ts,
    fun i hi x hx => by
      obtain ⟨dv, h1, h2⟩ := h.some' i hi x hx
      exact ⟨dv, h1, h2.keep hc (fun k hk => hS k (by have := h2.two; have := h2.tag; rcases hk with hk | rfl <;> omega))⟩,
    h.none', h.apart, h.own, fun k hk => h.virgin k (Nat.le_trans hc.size hk), h.few, h.cl, h.trl, h.trh⟩

theorem BayAt.keep {S : Nat → Prop} {W W' : World} {T : Nat → Nat} {b : Nat} {s : BaySt} (h : BayAt W T b s) (hc : Chg S W W') (hS : ∀ k, T k ≠ 0 → ¬ S k) : BayAt W' T b s := by
  obtain ⟨gs, ptr, tg, dp, h⟩ := h
  exact ⟨gs, ptr, tg, dp, h.keep hc hS⟩

theorem BayAt.below {W W' : World} {T : Nat → Nat} {b : Nat} {s : BaySt} (h : BayAt W T b s) (hb : Below W.heap.size W W') : BayAt W' T b s :=
  h.keep (Chg.ofBelow hb (fun _ => False)) (fun _ _ h => h)

/-- Is there such a slot? -/
def BaySt.is (s : BaySt) (k : Int) : Prop := 0 ≤ k ∧ k < (s.n : Int)

set_option maxRecDepth 100000 in
set_option maxHeartbeats 1000000 in
theorem bay_at {w : World} {T : Nat → Nat} {b : Nat} {s : BaySt} {gs : Nat} {ptr : Nat → Option Nat} {tg dp : Nat → Nat} (h : BayIn w T b s gs ptr tg dp) (k : Nat) (hk : k < s.n) :
    Calls Tryz.prog 80 #[.pointer (some ⟨b, 0, none⟩), .int .i64 k] w fun e w' => e = .returned (.pointer (some ⟨gs, k * 3, none⟩)) ∧ w' = w := by
  have c0 : w.cell? ⟨b, 0, none⟩ = some (.slice (some ⟨gs, 0, none⟩) s.n s.n) := h.bay.cell 0
  have hf := h.few
  clear h
  generalize s.n = n at *
  go_enter Tryz.func80, Tryz.ntmps80
  go_wp2
  go_ret
  exact ⟨rfl, rfl⟩

set_option maxRecDepth 100000 in
set_option maxHeartbeats 1000000 in
theorem bay_at_none {w : World} {T : Nat → Nat} {b : Nat} {s : BaySt} {gs : Nat} {ptr : Nat → Option Nat} {tg dp : Nat → Nat} (h : BayIn w T b s gs ptr tg dp) (k : Int) (hk : ¬ s.is k) :
    Calls Tryz.prog 80 #[.pointer (some ⟨b, 0, none⟩), .int .i64 k] w fun e w' => e = .returned (.pointer none) ∧ w' = w := by
  have c0 : w.cell? ⟨b, 0, none⟩ = some (.slice (some ⟨gs, 0, none⟩) s.n s.n) := h.bay.cell 0
  have hf := h.few
  have hk' : k < 0 ∨ (0 ≤ k ∧ (s.n : Int) ≤ k) := by unfold BaySt.is at hk; omega
  clear h hk
  generalize s.n = n at *
  rcases hk' with hk | ⟨hk, hk2⟩
  all_goals
    go_enter Tryz.func80, Tryz.ntmps80
    go_wp2
    go_ret
    exact ⟨rfl, rfl⟩

set_option maxRecDepth 100000 in
set_option maxHeartbeats 1000000 in
theorem bay_in {w : World} {T : Nat → Nat} {b : Nat} {s : BaySt} {gs : Nat} {ptr : Nat → Option Nat} {tg dp : Nat → Nat} (h : BayIn w T b s gs ptr tg dp) (k : Nat) (hk : k < s.n) :
    Calls Tryz.prog 79 #[.pointer (some ⟨b, 0, none⟩), .int .i64 k] w fun e w' => e = .returned (pcell (ptr (k * 3))) ∧ w' = w := by
  have hat := Lib.hid (bay_at h k hk)
  have c0 : w.cell? ⟨gs, k * 3, none⟩ = some (pcell (ptr (k * 3))) := (h.slots.cell (k * 3)).trans (slotCells_at ptr s.n (k * 3) (by omega))
  have hf := h.few
  clear h
  unfold pcell at *
  generalize (ptr (k * 3)).map (fun b => (⟨b, 0, none⟩ : Addr)) = q at *
  go_enter Tryz.func79, Tryz.ntmps79
  go_wp2_with (go_at_call 80; refine hat.out.mono ?_; rintro e w1 ⟨rfl, rfl⟩)
  go_ret
  exact ⟨rfl, rfl⟩

set_option maxRecDepth 100000 in
set_option maxHeartbeats 1000000 in
theorem bay_in_none {w : World} {T : Nat → Nat} {b : Nat} {s : BaySt} {gs : Nat} {ptr : Nat → Option Nat} {tg dp : Nat → Nat} (h : BayIn w T b s gs ptr tg dp) (k : Int) (hk : ¬ s.is k) :
    Calls Tryz.prog 79 #[.pointer (some ⟨b, 0, none⟩), .int .i64 k] w fun e w' => e = .returned (.pointer none) ∧ w' = w := by
  have hat := Lib.hid (bay_at_none h k hk)
  clear h
  go_enter Tryz.func79, Tryz.ntmps79
  go_wp2_with (go_at_call 80; refine hat.out.mono ?_; rintro e w1 ⟨rfl, rfl⟩)
  go_ret
  exact ⟨rfl, rfl⟩

set_option maxRecDepth 100000 in
set_option maxHeartbeats 1000000 in
theorem bay_there {w : World} {T : Nat → Nat} {b : Nat} {s : BaySt} {gs : Nat} {ptr : Nat → Option Nat} {tg dp : Nat → Nat} (h : BayIn w T b s gs ptr tg dp) (k dv : Nat) (hk : k < s.n) (hp : ptr (k * 3) = some dv) :
    Calls Tryz.prog 41 #[.pointer (some ⟨b, 0, none⟩), .int .i64 k] w fun e w' => e = .returned (.tuple #[.pointer (some ⟨dv, 0, none⟩), .int .u16 0]) ∧ w' = w := by
  have hat := Lib.hid (bay_at h k hk)
  have hin := Lib.hid (bay_in h k hk)
  rw [hp] at hin
  unfold pcell at hin
  clear h
  go_enter Tryz.func41, Tryz.ntmps41
  go_wp2_with (first
    | (go_at_call 80; refine hat.out.mono ?_; rintro e w1 ⟨rfl, rfl⟩)
    | (go_at_call 79; refine hin.out.mono ?_; rintro e w1 ⟨rfl, rfl⟩))
  go_ret2
  exact ⟨rfl, rfl⟩

set_option maxRecDepth 100000 in
set_option maxHeartbeats 1000000 in
theorem bay_there_empty {w : World} {T : Nat → Nat} {b : Nat} {s : BaySt} {gs : Nat} {ptr : Nat → Option Nat} {tg dp : Nat → Nat} (h : BayIn w T b s gs ptr tg dp) (k : Nat) (hk : k < s.n) (hp : ptr (k * 3) = none) :
    Calls Tryz.prog 41 #[.pointer (some ⟨b, 0, none⟩), .int .i64 k] w fun e w' => e = .returned (.tuple #[.pointer none, .int .u16 51]) ∧ w' = w := by
  have hat := Lib.hid (bay_at h k hk)
  have hin := Lib.hid (bay_in h k hk)
  rw [hp] at hin
  unfold pcell at hin
  clear h
  go_enter Tryz.func41, Tryz.ntmps41
  go_wp2_with (first
    | (go_at_call 80; refine hat.out.mono ?_; rintro e w1 ⟨rfl, rfl⟩)
    | (go_at_call 79; refine hin.out.mono ?_; rintro e w1 ⟨rfl, rfl⟩))
  go_ret2
  exact ⟨rfl, rfl⟩

set_option maxRecDepth 100000 in
set_option maxHeartbeats 1000000 in
theorem bay_there_none {w : World} {T : Nat → Nat} {b : Nat} {s : BaySt} {gs : Nat} {ptr : Nat → Option Nat} {tg dp : Nat → Nat} (h : BayIn w T b s gs ptr tg dp) (k : Int) (hk : ¬ s.is k) :
    Calls Tryz.prog 41 #[.pointer (some ⟨b, 0, none⟩), .int .i64 k] w fun e w' => e = .returned (.tuple #[.pointer none, .int .u16 1]) ∧ w' = w := by
  have hat := Lib.hid (bay_at_none h k hk)
  have hin := Lib.hid (bay_in_none h k hk)
  clear h
  go_enter Tryz.func41, Tryz.ntmps41
  go_wp2_with (first
    | (go_at_call 80; refine hat.out.mono ?_; rintro e w1 ⟨rfl, rfl⟩)
    | (go_at_call 79; refine hin.out.mono ?_; rintro e w1 ⟨rfl, rfl⟩))
  go_ret2
  exact ⟨rfl, rfl⟩

end Go.Proofs.YtleicmmbaacbmaaGreat

/- A bay of disks: a device is used; what is done to it. -/
set_option linter.unusedVariables false
namespace Go.Proofs.YtleicmmbaacbmaaGreat
open Go.RowKit

/-- A device behind one operation's wear. -/
def Dev.use (x : Dev) : Dev := if x.worn = false then x else if x.left = 0 then ⟨⟨x.d.last, [], true⟩, false, x.left⟩ else { x with left := x.left - 1 }

theorem dev_ne {W : World} {T : Nat → Nat} {t dv dp : Nat} {x : Dev} (h : DevAt W T t dv dp x) : dv ≠ dp := by
  intro e
  have := h.tag; have := h.two; have := h.disk.tag
  subst e
  omega

/-- The device's own cells turned; its disk stands. -/
theorem DevAt.turn {W W' : World} {T : Nat → Nat} {t dv dp : Nat} {x : Dev} (h : DevAt W T t dv dp x) (worn : Bool) (left : Int) (hc : Chg (fun k => k = dv) W W') (ha : At W' dv #[.pointer (some ⟨dp, 0, none⟩), .bool worn, .int .i64 left] 86) (h0 : 0 ≤ left) (h1 : left ≤ 9223372036854775807) :
    DevAt W' T t dv dp ⟨x.d, worn, left⟩ :=
  ⟨ha, h.tag, h.two, h.disk.keep hc (fun k hk e => by have := h.tag; have := h.two; subst e; omega), h0, h1⟩

/-- Its disk turned; its own cells stand. -/
theorem DevAt.disk' {W W' : World} {T : Nat → Nat} {t dv dp : Nat} {x : Dev} {d' : Dsk} (h : DevAt W T t dv dp x) (hd : DiskAt W' T t dp d') (ha : At W' dv #[.pointer (some ⟨dp, 0, none⟩), .bool x.worn, .int .i64 x.left] 86) : DevAt W' T t dv dp ⟨d', x.worn, x.left⟩ :=
  ⟨ha, h.tag, h.two, hd, h.lo, h.hi⟩

set_option maxRecDepth 100000 in
set_option maxHeartbeats 2000000 in
theorem dev_use (T : Nat → Nat) (t dv dp : Nat) (x : Dev) (w : World) (h : DevAt w T t dv dp x) (hm : x.d.cache.length ≤ 1000000) :
    Calls Tryz.prog 83 #[.pointer (some ⟨dv, 0, none⟩)] w fun e w' => e = .returned (.tuple #[]) ∧ DevAt w' T t dv dp x.use ∧ Chg (fun k => T k = t ∨ k = dv) w w' := by
  have c0 : w.cell? ⟨dv, 0, none⟩ = some (.pointer (some ⟨dp, 0, none⟩)) := h.dev.cell 0
  have c1 : w.cell? ⟨dv, 1, none⟩ = some (.bool x.worn) := h.dev.cell 1
  have c2 : w.cell? ⟨dv, 2, none⟩ = some (.int .i64 x.left) := h.dev.cell 2
  have f1 := h.dev.free 1
  have f2 := h.dev.free 2
  have hlo := h.lo
  have hhi := h.hi
  have htg := h.tag
  have H := Lib.hid h
  unfold Dev.use
  cases hw : x.worn
  · rw [hw] at c1
    rw [if_pos rfl]
    clear h
    go_enter Tryz.func83, Tryz.ntmps83
    go_wp2
    go_end0
    exact ⟨rfl, H.out, Chg.refl _ _⟩
  · rw [hw] at c1
    rw [if_neg (by simp)]
    by_cases h0 : x.left = 0
    · rw [if_pos h0]
      rw [h0] at c2
      have hfail := Lib.hid (disk_fail T t dp x.d w h.disk hm)
      have hdp : dv ≠ dp := dev_ne h
      clear h
      go_enter Tryz.func83, Tryz.ntmps83
      go_wp2_with (go_at_call 74; refine hfail.out.mono ?_; rintro e w1 ⟨rfl, r1, r2⟩; have hd1 := H.out.dev.mod r2 (fun e => by have := H.out.two; omega); have e1 : w1.cell? ⟨dv, 1, none⟩ = some (.bool x.worn) := hd1.cell 1; have g1 := hd1.free 1)
      go_end0
      have hs : Chg (fun k => k = dv) w1 (w1.setCell ⟨dv, 1, none⟩ (.bool false)) := Chg.setCell (S := fun k => k = dv) (Chg.refl _ _) ⟨dv, 1, none⟩ (.inl rfl) _
      refine ⟨rfl, (H.out.disk' r1 hd1).turn false x.left hs (hd1.set 1 (.bool false)) hlo hhi, (r2.mono fun k hk => .inl hk).trans (hs.mono fun k hk => .inr hk)⟩
    · rw [if_neg h0]
      have q0 : (x.left == 0) = false := beq_eq_false_iff_ne.2 h0
      have ha := Lib.hid (H.out.dev.set 2 (.int .i64 (x.left - 1)))
      have HT := Lib.hid (fun (hx : At (w.setCell ⟨dv, 2, none⟩ (.int .i64 (x.left - 1))) dv #[.pointer (some ⟨dp, 0, none⟩), .bool x.worn, .int .i64 (x.left - 1)] 86) => H.out.turn x.worn (x.left - 1) (Chg.setCell (S := fun k => k = dv) (Chg.refl _ _) ⟨dv, 2, none⟩ (.inl rfl) _) hx (by omega) (by omega))
      clear h
      go_enter Tryz.func83, Tryz.ntmps83
      go_wp2
      go_end0
      refine ⟨rfl, ?_, Chg.setCell (S := fun k => T k = t ∨ k = dv) (Chg.refl _ _) ⟨dv, 2, none⟩ (.inl (.inr rfl)) _⟩
      have := HT.out ha.out
      rw [hw] at this
      exact this

end Go.Proofs.YtleicmmbaacbmaaGreat
