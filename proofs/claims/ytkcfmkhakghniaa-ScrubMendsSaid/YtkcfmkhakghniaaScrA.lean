/- Scrub: whether there is such a row and member. -/
import Derived.Test.YtkcfmkhakghniaaGeoD
import Derived.Test.YtkcfmkhakghniaaBayL
import Derived.Test.YtkcfmkhakghniaaCalm
set_option linter.unusedVariables false
namespace Go.Proofs.Ytkcfmkhakghniaa
open Go.RowKit

/-- What 'may' answers. -/
def mayCode (n : Nat) (m c s member row : Int) : Int :=
  if geoIs m c s then (if (n : Int) = m + 1 then (if 0 ≤ member ∧ member < m ∧ 0 ≤ row ∧ row < s * c then 0 else 3) else 1) else 60

set_option maxRecDepth 100000 in
set_option maxHeartbeats 4000000 in
theorem scrub_may {w : World} {T : Nat → Nat} {b : Nat} {st : BaySt} (h : BayAt w T b st) (m c s member row : Int) :
    Calls Try.prog 44 #[.pointer (some ⟨b, 0, none⟩), geo m c s, .int .i64 member, .int .i64 row] w fun e w' => e = .returned (.int .u16 (mayCode st.n m c s member row)) ∧ Below w.heap.size w w' := by
  have hk := Lib.hid (fun W => geom_check m c s W)
  have hr := Lib.hid (fun W => geom_rows m c s W)
  have hfew := bay_slots_few h
  have hb : Below w.heap.size w (w.alloc (.cells #[.int .i64 m, .int .i64 c, .int .i64 s] 23)) := (Below.refl _ _).alloc (Nat.le_refl _) _
  have ha : At (w.alloc (.cells #[.int .i64 m, .int .i64 c, .int .i64 s] 23)) w.heap.size #[.int .i64 m, .int .i64 c, .int .i64 s] 23 := At.new _ _ _
  have HS : Hid (∀ W, Below w.heap.size w W → Calls Try.prog 78 #[.pointer (some ⟨b, 0, none⟩)] W fun e w' => e = .returned (.int .i64 (st.n : Int)) ∧ w' = W) := fun W hW => bay_slots (h.below hW)
  have HA := Lib.hid ha
  have HL := Lib.hid ha.lt
  clear ha h
  generalize st.n = n at *
  unfold mayCode geoCode geoRows at *
  cases hg : geoIs m c s
  · rw [hg] at hk
    simp only [if_false, Bool.false_eq_true] at *
    unfold geo at *
    go_enter Try.func44, Try.ntmps44
    go_wp2_with (go_at_call 57; (with_reducible refine (hk.out _).mono ?_); rintro e w1 ⟨rfl, hb1⟩)
    go_ret
    exact ⟨rfl, below_then hb hb1⟩
  · obtain ⟨hlo, hhi⟩ := geo_bounds hg
    obtain ⟨h1, h2, -⟩ := (geoIs_iff m c s).1 hg
    rw [hg] at hk hr
    simp only [if_true] at *
    unfold geo at *
    by_cases hn : (n : Int) = m + 1
    · rw [if_pos hn]
      have hn' : ((n : Int) != (m + 1)) = false := by simp [hn]
      generalize s * c = q at *
      clear hn
      by_cases hin : 0 ≤ member ∧ member < m ∧ 0 ≤ row ∧ row < q
      · rw [if_pos hin]
        obtain ⟨i1, i2, i3, i4⟩ := hin
        go_enter Try.func44, Try.ntmps44
        go_wp2_with (go_at_call 57; (with_reducible refine (hk.out _).mono ?_); rintro e w1 ⟨rfl, hb1⟩; have hA1 := HA.out.below hb1 HL.out; have c0 := hA1.cell 0; have c1 := hA1.cell 1; have c2 := hA1.cell 2; clear hA1; have hbb := below_then hb hb1; have HS1 : Hid (∀ k, Calls Try.prog 78 #[.pointer (some ⟨b, 0, none⟩)] (w1.drewN k) fun e w' => e = .returned (.int .i64 (n : Int)) ∧ ∃ j, w' = w1.drewN j) := fun k => (HS.out _ (below_drewN hbb k)).mono fun e w' ⟨x1, x2⟩ => ⟨x1, k, x2⟩)
        go_quiet ((go_at_call 78; exact HS1.out _))
        go_wp2_with (go_at_call 45; (with_reducible refine (hr.out _).mono ?_); rintro e w2 ⟨rfl, hb2⟩)
        go_ret
        exact ⟨rfl, below_then (below_drewN hbb _) hb2⟩
      · rw [if_neg hin]
        have hin' : (0 ≤ member ∧ member < m ∧ 0 ≤ row ∧ q ≤ row) ∨ member < 0 ∨ (0 ≤ member ∧ m ≤ member) ∨ (0 ≤ member ∧ member < m ∧ row < 0) := by omega
        clear hin
        rcases hin' with ⟨i1, i2, i3, i4⟩ | hin'
        · go_enter Try.func44, Try.ntmps44
          go_wp2_with (go_at_call 57; (with_reducible refine (hk.out _).mono ?_); rintro e w1 ⟨rfl, hb1⟩; have hA1 := HA.out.below hb1 HL.out; have c0 := hA1.cell 0; have c1 := hA1.cell 1; have c2 := hA1.cell 2; clear hA1; have hbb := below_then hb hb1; have HS1 : Hid (∀ k, Calls Try.prog 78 #[.pointer (some ⟨b, 0, none⟩)] (w1.drewN k) fun e w' => e = .returned (.int .i64 (n : Int)) ∧ ∃ j, w' = w1.drewN j) := fun k => (HS.out _ (below_drewN hbb k)).mono fun e w' ⟨x1, x2⟩ => ⟨x1, k, x2⟩)
          go_quiet ((go_at_call 78; exact HS1.out _))
          go_wp2_with (go_at_call 45; (with_reducible refine (hr.out _).mono ?_); rintro e w2 ⟨rfl, hb2⟩)
          go_ret
          exact ⟨rfl, below_then (below_drewN hbb _) hb2⟩
        · rcases hin' with i1 | ⟨i1, i2⟩ | ⟨i1, i2, i3⟩
          all_goals
            go_enter Try.func44, Try.ntmps44
            go_wp2_with (go_at_call 57; (with_reducible refine (hk.out _).mono ?_); rintro e w1 ⟨rfl, hb1⟩; have hA1 := HA.out.below hb1 HL.out; have c0 := hA1.cell 0; have c1 := hA1.cell 1; have c2 := hA1.cell 2; clear hA1; have hbb := below_then hb hb1; have HS1 : Hid (∀ k, Calls Try.prog 78 #[.pointer (some ⟨b, 0, none⟩)] (w1.drewN k) fun e w' => e = .returned (.int .i64 (n : Int)) ∧ ∃ j, w' = w1.drewN j) := fun k => (HS.out _ (below_drewN hbb k)).mono fun e w' ⟨x1, x2⟩ => ⟨x1, k, x2⟩)
            go_quiet ((go_at_call 78; exact HS1.out _))
            go_wp2
            go_ret
            exact ⟨rfl, below_drewN hbb _⟩
    · rw [if_neg hn]
      have hn' : ((n : Int) != (m + 1)) = true := by simp [hn]
      clear hn
      go_enter Try.func44, Try.ntmps44
      go_wp2_with (go_at_call 57; (with_reducible refine (hk.out _).mono ?_); rintro e w1 ⟨rfl, hb1⟩; have hA1 := HA.out.below hb1 HL.out; have c0 := hA1.cell 0; have c1 := hA1.cell 1; have c2 := hA1.cell 2; clear hA1; have hbb := below_then hb hb1; have HS1 : Hid (∀ k, Calls Try.prog 78 #[.pointer (some ⟨b, 0, none⟩)] (w1.drewN k) fun e w' => e = .returned (.int .i64 (n : Int)) ∧ ∃ j, w' = w1.drewN j) := fun k => (HS.out _ (below_drewN hbb k)).mono fun e w' ⟨x1, x2⟩ => ⟨x1, k, x2⟩)
      go_quiet ((go_at_call 78; exact HS1.out _))
      go_wp2
      go_ret
      exact ⟨rfl, below_drewN hbb _⟩

end Go.Proofs.Ytkcfmkhakghniaa
