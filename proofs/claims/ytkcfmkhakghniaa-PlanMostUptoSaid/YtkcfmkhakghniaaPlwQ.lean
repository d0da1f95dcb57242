/- PlanMost: the walk, where 'known' tells true. -/
import Derived.Test.YtkcfmkhakghniaaPlwP
import Derived.Test.YtkcfmkhakghniaaPlwI
set_option linter.unusedVariables false
namespace Go.Proofs.Ytkcfmkhakghniaa
open Go.RowKit

/-- Rows of patches stand where no cell of theirs turns. -/
theorem RowsAt.store {w w' : World} {B g : Nat} {v : Value} {L : List (Value × List OP)} {cs : Array Value} {t : TypeId} (h : RowsAt w B v L) (hc : Chg (fun k => k = g) w w') (ha : At w g cs t) (h1 : 65 ≠ t) (h2 : 69 ≠ t) (h3 : 5 ≠ t) : RowsAt w' B v L :=
  ⟨ownsRow_mod h.row hc (fun z hz e => own_ne_at h.row ha h1 (e ▸ hz)), fun x hx => (h.each x hx).mod hc (fun z hz e => own_ne_at (h.each x hx).row ha h2 (e ▸ hz)) (fun y hy z hz e => own_ne_at ((h.each x hx).dat y hy) ha h3 (e ▸ hz))⟩

set_option maxRecDepth 100000 in
set_option maxHeartbeats 8000000 in
/-- .. where nothing is planned. -/
theorem most_short (m c s : Int) (gn : Nat) (vu vr : Value) (us : List (Int × List UInt8)) (ls : List (List UInt8)) (w : World) (hu : PutSeg w vu us) (hv : Segs w vr ls) (hll : ls.length ≤ 140737488351232) (hdl : ∀ l ∈ ls, l.length ≤ 140737488351232)
    (hknown : ∀ W, Calls Try.prog 27 #[] W fun e w' => e = .returned (.bool true) ∧ Below W.heap.size W w')
    (hs : muchIs (us.map (·.2.length)) = true ∨ muchIs (ls.map List.length) = true ∨ splitCode m c s us ≠ 0) :
    Calls Try.prog 6 #[geo m c s, vu, .int .u8 gn, vr] w fun e w' => e = .returned (.bool true) ∧ Below w.heap.size w w' := by
  have hb0 : Below w.heap.size w (w.alloc (.cells #[.int .i64 m, .int .i64 c, .int .i64 s] 23)) := (Below.refl _ _).alloc (Nat.le_refl _) _
  have HG0 : Hid (At (w.alloc (.cells #[.int .i64 m, .int .i64 c, .int .i64 s] 23)) w.heap.size #[.int .i64 m, .int .i64 c, .int .i64 s] 23) := At.new _ _ _
  have hmp : Hid (∀ W, Below w.heap.size w W → _) := fun W hW => much_puts vu us W (hu.below hW)
  have hmr : Hid (∀ W, Below w.heap.size w W → _) := fun W hW => much_rows vr ls W (hv.below hW) hll hdl
  have HKN := Lib.hid hknown
  have HU := Lib.hid hu
  have HB0 := Lib.hid hb0
  cases hm1 : muchIs (us.map (·.2.length))
  · cases hm2 : muchIs (ls.map List.length)
    · have hz : splitCode m c s us ≠ 0 := by
        rcases hs with h | h | h
        · rw [hm1] at h; cases h
        · rw [hm2] at h; cases h
        · exact h
      have hmo : Hid (∀ W, Below w.heap.size w W → _) := fun W hW => most_refused m c s vu us W (HU.out.below hW) hz
      have hsp : Hid (∀ W, Below w.heap.size w W → _) := fun W hW => split_refused m c s vu us W (HU.out.below hW) hz
      rw [hm1] at hmp
      rw [hm2] at hmr
      have e1 : (splitCode m c s us != splitCode m c s us) = false := by simp
      have e2 : (splitCode m c s us != 0) = true := by simpa using hz
      obtain ⟨va, vc, rfl⟩ := hu.shape
      obtain ⟨ra, rc, rfl⟩ := hv.shape
      clear hu hv hs hm1 hm2 hknown hdl hz hb0
      generalize splitCode m c s us = q at *
      unfold geo at *
      go_enter Try.func6, Try.ntmps6
      go_wp2_with (first
        | (go_at_call 25; (with_reducible refine (hmp.out _ HB0.out).mono ?_); rintro e w1 ⟨rfl, rfl⟩)
        | (go_at_call 30; (with_reducible refine (hmr.out _ HB0.out).mono ?_); rintro e w1 ⟨rfl, rfl⟩)
        | (go_at_call 31; (with_reducible refine (hmo.out _ HB0.out).mono ?_); rintro e w1 ⟨rfl, hb1⟩; have HB1 := Lib.hid (below_then HB0.out hb1); have hg1 := HG0.out.below hb1 HG0.out.lt; have c0 := hg1.cell 0; have c1 := hg1.cell 1; have c2 := hg1.cell 2; clear hb1 hg1)
        | (go_at_call 26; (with_reducible refine (hsp.out _ HB1.out).mono ?_); rintro e w2 ⟨rfl, hb2⟩; have HB2 := Lib.hid (below_then HB1.out hb2); clear hb2)
        | (go_at_call 27; (with_reducible refine (HKN.out _).mono ?_); rintro e w3 ⟨rfl, hb3⟩; have HB3 := Lib.hid (below_then HB2.out hb3); clear hb3))
      go_ret
      exact ⟨rfl, HB3.out⟩
    · rw [hm1] at hmp
      rw [hm2] at hmr
      obtain ⟨va, vc, rfl⟩ := hu.shape
      obtain ⟨ra, rc, rfl⟩ := hv.shape
      clear hu hv hs hm1 hm2 hknown hdl hb0
      unfold geo at *
      go_enter Try.func6, Try.ntmps6
      go_wp2_with (first
        | (go_at_call 25; (with_reducible refine (hmp.out _ HB0.out).mono ?_); rintro e w1 ⟨rfl, rfl⟩)
        | (go_at_call 30; (with_reducible refine (hmr.out _ HB0.out).mono ?_); rintro e w1 ⟨rfl, rfl⟩))
      go_ret
      exact ⟨rfl, HB0.out⟩
  · rw [hm1] at hmp
    obtain ⟨va, vc, rfl⟩ := hu.shape
    obtain ⟨ra, rc, rfl⟩ := hv.shape
    clear hu hv hs hm1 hknown hdl hb0
    unfold geo at *
    go_enter Try.func6, Try.ntmps6
    go_wp2_with (first
      | (go_at_call 25; (with_reducible refine (hmp.out _ HB0.out).mono ?_); rintro e w1 ⟨rfl, rfl⟩))
    go_ret
    exact ⟨rfl, HB0.out⟩

end Go.Proofs.Ytkcfmkhakghniaa
