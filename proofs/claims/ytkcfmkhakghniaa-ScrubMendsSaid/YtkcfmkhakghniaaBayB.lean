/- A bay of disks: a device is used; what is done to it. -/
import Derived.Test.YtkcfmkhakghniaaBayA
set_option linter.unusedVariables false
namespace Go.Proofs.Ytkcfmkhakghniaa
open Go.RowKit

/-- A device behind one operation's wear. -/
def Dev.use (x : Dev) : Dev := if x.worn = false then x else if x.left = 0 then ⟨⟨x.d.last, [], true⟩, false, x.left⟩ else { x with left := x.left - 1 }

theorem dev_ne {W : World} {T : Nat → Nat} {t dv dp : Nat} {x : Dev} (h : DevAt W T t dv dp x) : dv ≠ dp := by
  intro e
  have := h.tag; have := h.two; have := h.disk.tag
  subst e
  omega

/-- The device's own cells turned; its disk stands. -/
theorem DevAt.turn {W W' : World} {T : Nat → Nat} {t dv dp : Nat} {x : Dev} (h : DevAt W T t dv dp x) (worn : Bool) (left : Int) (hc : Chg (fun k => k = dv) W W') (ha : At W' dv #[.pointer (some ⟨dp, 0, none⟩), .bool worn, .int .i64 left] 100) (h0 : 0 ≤ left) (h1 : left ≤ 9223372036854775807) :
    DevAt W' T t dv dp ⟨x.d, worn, left⟩ :=
  ⟨ha, h.tag, h.two, h.disk.keep hc (fun k hk e => by have := h.tag; have := h.two; subst e; omega), h0, h1⟩

/-- Its disk turned; its own cells stand. -/
theorem DevAt.disk' {W W' : World} {T : Nat → Nat} {t dv dp : Nat} {x : Dev} {d' : Dsk} (h : DevAt W T t dv dp x) (hd : DiskAt W' T t dp d') (ha : At W' dv #[.pointer (some ⟨dp, 0, none⟩), .bool x.worn, .int .i64 x.left] 100) : DevAt W' T t dv dp ⟨d', x.worn, x.left⟩ :=
  ⟨ha, h.tag, h.two, hd, h.lo, h.hi⟩

set_option maxRecDepth 100000 in
set_option maxHeartbeats 2000000 in
theorem dev_use (T : Nat → Nat) (t dv dp : Nat) (x : Dev) (w : World) (h : DevAt w T t dv dp x) (hm : x.d.cache.length ≤ 1000000) :
    Calls Try.prog 76 #[.pointer (some ⟨dv, 0, none⟩)] w fun e w' => e = .returned (.tuple #[]) ∧ DevAt w' T t dv dp x.use ∧ Chg (fun k => T k = t ∨ k = dv) w w' := by
  have c0 : w.cell? ⟨dv, 0, none⟩ = some (.pointer (some ⟨dp, 0, none⟩)) := h.dev.cell 0
  have c1 : w.cell? ⟨dv, 1, none⟩ = some (.bool x.worn) := h.dev.cell 1
  have c2 : w.cell? ⟨dv, 2, none⟩ = some (.int .i64 x.left) := h.dev.cell 2
  have f1 := h.dev.free 1
  have f2 := h.dev.free 2
  have hlo := h.lo
  have hhi := h.hi
  have htg := h.tag
  have H := Lib.hid h
  unfold Dev.use
  cases hw : x.worn
  · rw [hw] at c1
    rw [if_pos rfl]
    clear h
    go_enter Try.func76, Try.ntmps76
    go_wp2
    go_end0
    exact ⟨rfl, H.out, Chg.refl _ _⟩
  · rw [hw] at c1
    rw [if_neg (by simp)]
    by_cases h0 : x.left = 0
    · rw [if_pos h0]
      rw [h0] at c2
      have hfail := Lib.hid (disk_fail T t dp x.d w h.disk hm)
      have hdp : dv ≠ dp := dev_ne h
      clear h
      go_enter Try.func76, Try.ntmps76
      go_wp2_with (go_at_call 108; refine hfail.out.mono ?_; rintro e w1 ⟨rfl, r1, r2⟩; have hd1 := H.out.dev.mod r2 (fun e => by have := H.out.two; omega); have e1 : w1.cell? ⟨dv, 1, none⟩ = some (.bool x.worn) := hd1.cell 1; have g1 := hd1.free 1)
      go_end0
      have hs : Chg (fun k => k = dv) w1 (w1.setCell ⟨dv, 1, none⟩ (.bool false)) := Chg.setCell (S := fun k => k = dv) (Chg.refl _ _) ⟨dv, 1, none⟩ (.inl rfl) _
      refine ⟨rfl, (H.out.disk' r1 hd1).turn false x.left hs (hd1.set 1 (.bool false)) hlo hhi, (r2.mono fun k hk => .inl hk).trans (hs.mono fun k hk => .inr hk)⟩
    · rw [if_neg h0]
      have q0 : (x.left == 0) = false := beq_eq_false_iff_ne.2 h0
      have ha := Lib.hid (H.out.dev.set 2 (.int .i64 (x.left - 1)))
      have HT := Lib.hid (fun (hx : At (w.setCell ⟨dv, 2, none⟩ (.int .i64 (x.left - 1))) dv #[.pointer (some ⟨dp, 0, none⟩), .bool x.worn, .int .i64 (x.left - 1)] 100) => H.out.turn x.worn (x.left - 1) (Chg.setCell (S := fun k => k = dv) (Chg.refl _ _) ⟨dv, 2, none⟩ (.inl rfl) _) hx (by omega) (by omega))
      clear h
      go_enter Try.func76, Try.ntmps76
      go_wp2
      go_end0
      refine ⟨rfl, ?_, Chg.setCell (S := fun k => T k = t ∨ k = dv) (Chg.refl _ _) ⟨dv, 2, none⟩ (.inl (.inr rfl)) _⟩
      have := HT.out ha.out
      rw [hw] at this
      exact this

end Go.Proofs.Ytkcfmkhakghniaa
