/- What is refused of a plan, in the order in which it is looked for; spindleref13's faults. -/
import Derived.Test.YtpegbgomnpinfaaGreatMrg11
import Derived.Test.YtpegbgomnpinfaaGreatPlyG
import Derived.Test.YtpegbgomnpinfaaGreatMrg3
set_option linter.unusedVariables false
namespace Go.Proofs.YtpegbgomnpinfaaGreat
open Go.RowKit

/-- A patch beside the geometry. -/
def patBad (M C S : Nat) (p : Pat) : Bool := decide (p.m < 0) || (decide ((M : Int) ≤ p.m) || (decide (p.r < 0) || decide (((S * C : Nat) : Int) ≤ p.r)))
/-- A patch out of its row, out of order, or of the parity's member. -/
def ordBad (par : Int) (ps : List Pat) (k : Nat) : Bool := (!((ps.getD k pat0).r == (ps.getD 0 pat0).r)) || ((decide (0 < k) && decide ((ps.getD k pat0).m ≤ (ps.getD (k - 1) pat0).m)) || ((ps.getD k pat0).m == par))
/-- The code. -/
def planCode (M C S : Int) (l : List Bool) (ps : List Pat) : Nat :=
  if geoIs M C S = false then 60 else
  if (l.length : Int) ≠ M ∨ ps.length = 0 then 1 else
  if ps.any (patBad M.toNat C.toNat S.toNat) = true then 3 else
  if (List.range ps.length).any (ordBad (parOf M.toNat C.toNat (ps.getD 0 pat0).r.toNat : Nat) ps) = true then 1 else
  if (ps.any fun p => decide (p.d.length ≠ 128)) = true then 4 else
  if 1 < l.count true then 130 else 0

theorem any_take {α : Type} {f : α → Bool} {l : List α} {k : Nat} (hk : k < l.length) (h : (l.take k).any f = false) : (l.take (k + 1)).any f = f (l[k]'hk) := by
  rw [List.take_succ_eq_append_getElem hk, List.any_append, h]
  simp
theorem any_hit {α : Type} {f : α → Bool} {l : List α} {k : Nat} (hk : k < l.length) (h : f (l[k]'hk) = true) : l.any f = true := List.any_eq_true.2 ⟨_, List.getElem_mem hk, h⟩

set_option maxRecDepth 100000 in
set_option maxHeartbeats 2000000 in
/-- The short ways: no geometry; another number of members, or nothing to be put. -/
theorem faults_short (M C S : Int) (vd vp : Value) (l : List Bool) (ps : List Pat) (w : World) (hd : BooSeg w vd l) (hp : PSeg w vp ps) (h : geoIs M C S = false ∨ ((l.length : Int) ≠ M ∨ ps.length = 0)) :
    Calls Tryz.prog 93 #[geo M C S, vd, vp] w fun e w' => e = .returned (.int .i64 (planCode M C S l ps : Nat)) ∧ Below w.heap.size w w' := by
  have hk := Lib.hid (fun W => ref_check M C S W)
  have HB0 : Hid (Below w.heap.size w (w.alloc (.cells #[.int .i64 M, .int .i64 C, .int .i64 S] 23))) := (Below.refl _ _).alloc (Nat.le_refl _) _
  have HA : Hid (At (w.alloc (.cells #[.int .i64 M, .int .i64 C, .int .i64 S] 23)) w.heap.size #[.int .i64 M, .int .i64 C, .int .i64 S] 23) := At.new _ _ _
  obtain ⟨da, dc, rfl⟩ := hd.shape
  obtain ⟨pa, pc, rfl⟩ := hp.shape
  have hfew := hp.few
  unfold geoCode geo at *
  cases hg : geoIs M C S
  · rw [hg] at hk
    simp only [Bool.false_eq_true, if_false] at hk
    have HE : Hid (planCode M C S l ps = 60) := by show planCode M C S l ps = 60; unfold planCode; rw [if_pos hg]
    clear hd hp h hg
    go_enter Tryz.func93, Tryz.ntmps93
    go_wp2_with (go_at_call 44; (with_reducible refine (hk.out _).mono ?_); rintro e w1 ⟨rfl, hb1⟩; have HB1 := Lib.hid (below_then HB0.out hb1); clear hb1)
    go_ret
    exact ⟨by rw [HE.out]; rfl, HB1.out⟩
  · rw [hg] at hk h
    simp only [if_true] at hk
    have h' : (l.length : Int) ≠ M ∨ ps.length = 0 := h.resolve_left (by simp)
    have HE : Hid (planCode M C S l ps = 1) := by show planCode M C S l ps = 1; unfold planCode; rw [if_neg (by simp [hg]), if_pos h']
    clear hd hp h hg
    go_enter Tryz.func93, Tryz.ntmps93
    by_cases hlm : (l.length : Int) = M
    · have hz : ps.length = 0 := h'.resolve_left (by simpa using hlm)
      have hz' : ((ps.length : Int) == 0) = true := by simp [hz]
      have hl1 : ((l.length : Int) != M) = false := by simpa using hlm
      clear h' hz hlm
      go_wp2_with (go_at_call 44; (with_reducible refine (hk.out _).mono ?_); rintro e w1 ⟨rfl, hb1⟩; have c0 := (HA.out.below hb1 HA.out.lt).cell 0; have HB1 := Lib.hid (below_then HB0.out hb1); clear hb1)
      go_ret
      exact ⟨by rw [HE.out]; rfl, HB1.out⟩
    · have hl1 : ((l.length : Int) != M) = true := by simpa using hlm
      clear h' hlm
      go_wp2_with (go_at_call 44; (with_reducible refine (hk.out _).mono ?_); rintro e w1 ⟨rfl, hb1⟩; have c0 := (HA.out.below hb1 HA.out.lt).cell 0; have HB1 := Lib.hid (below_then HB0.out hb1); clear hb1)
      go_ret
      exact ⟨by rw [HE.out]; rfl, HB1.out⟩

end Go.Proofs.YtpegbgomnpinfaaGreat
