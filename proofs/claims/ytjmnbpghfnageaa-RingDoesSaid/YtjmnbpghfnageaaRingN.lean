/- The reference's ring: its walks. -/
import Derived.Test.YtjmnbpghfnageaaRingL
import Derived.Test.YtjmnbpghfnageaaRag
set_option linter.unusedVariables false
namespace Go.Proofs.Ytjmnbpghfnageaa
open Go.RowKit

/-- The reference's ring in block g. -/
abbrev RefAt (w : World) (g size tail used : Nat) : Prop := At w g #[.int .i64 (size : Int), .int .i64 (tail : Int), .int .i64 (used : Int)] 106

theorem RefAt.cells {w : World} {g size tail used : Nat} (h : RefAt w g size tail used) :
    w.cell? ⟨g, 0, none⟩ = some (.int .i64 (size : Int)) ∧ w.cell? ⟨g, 1, none⟩ = some (.int .i64 (tail : Int)) ∧ w.cell? ⟨g, 2, none⟩ = some (.int .i64 (used : Int)) :=
  ⟨h.cell 0, h.cell 1, h.cell 2⟩

set_option maxHeartbeats 1000000 in
theorem refnew_bad (size tail used : Int) (w : World) (h : size < 5 ∨ (5 ≤ size ∧ 2048 < size) ∨ (5 ≤ size ∧ size ≤ 2048 ∧ tail < 0) ∨ (5 ≤ size ∧ size ≤ 2048 ∧ 0 ≤ tail ∧ size ≤ tail) ∨ (5 ≤ size ∧ size ≤ 2048 ∧ 0 ≤ tail ∧ tail < size ∧ used < 0) ∨ (5 ≤ size ∧ size ≤ 2048 ∧ 0 ≤ tail ∧ tail < size ∧ 0 ≤ used ∧ size < used)) :
    Calls Try.prog 37 #[.int .i64 size, .int .i64 tail, .int .i64 used] w fun e w' => e = .returned (.tuple #[.pointer none, .int .i64 1]) ∧ w = w' := by
  rcases h with h | ⟨h1, h⟩ | ⟨h1, h2, h⟩ | ⟨h1, h2, h3, h⟩ | ⟨h1, h2, h3, h4, h⟩ | ⟨h1, h2, h3, h4, h5, h⟩
  all_goals
    go_enter Try.func37, Try.ntmps37
    go_wp2
    go_ret2
    exact ⟨rfl, rfl⟩

set_option maxHeartbeats 1000000 in
theorem refnew_good (size tail used : Nat) (w : World) (h1 : 5 ≤ size) (h2 : size ≤ 2048) (h3 : tail < size) (h4 : used ≤ size) :
    Calls Try.prog 37 #[.int .i64 size, .int .i64 tail, .int .i64 used] w fun e w' => e = .returned (.tuple #[.pointer (some ⟨w.heap.size, 0, none⟩), .int .i64 0]) ∧
      w' = w.alloc (.cells #[.int .i64 (size : Int), .int .i64 (tail : Int), .int .i64 (used : Int)] 106) := by
  go_enter Try.func37, Try.ntmps37
  go_wp2
  go_ret2
  exact ⟨rfl, rfl⟩

set_option maxHeartbeats 1000000 in
theorem refhead_any (g s t u : Nat) (w : World) (h : RefAt w g s t u) (h2 : s ≤ 2048) (h0 : 0 < s) (h3 : t < s) (hn : u ≤ s) :
    Calls Try.prog 60 #[.pointer (some ⟨g, 0, none⟩)] w fun e w' => e = .returned (.int .i64 ((t + u) % s : Nat)) ∧ ∃ n, w' = w.drewN n := by
  obtain ⟨c0, c1, c2⟩ := h.cells
  have hmod : ((t : Int) + (u : Int)) % (s : Int) = (((t + u) % s : Nat) : Int) := by simp
  have hs : ((s : Int) == 0) = false := beq_eq_false_iff_ne.2 (by omega)
  have hlt := Nat.mod_lt (t + u) h0
  clear h
  generalize (t + u) % s = q at *
  go_enter Try.func60, Try.ntmps60
  go_wp2
  go_quiet (fail)
  go_wp2
  go_ret
  exact ⟨ret_int hmod, _, rfl⟩

theorem SpanRow.last1 {W : World} {base g cap t b : Nat} (h : SpanRow W base (.slice (some ⟨g, 0, none⟩) 1 cap) [(t, b)]) (b' : Nat) :
    SpanRow (W.setCell ⟨g, 1, none⟩ (.int .i64 (b' : Int))) base (.slice (some ⟨g, 0, none⟩) 1 cap) [(t, b')] :=
  ⟨(World.ownsRow.stored h.1 1 (.int .i64 (b' : Int))).1, by simp⟩

theorem SpanRow.last2 {W : World} {base g cap t m t2 b : Nat} (h : SpanRow W base (.slice (some ⟨g, 0, none⟩) 2 cap) [(t, m), (t2, b)]) (b' : Nat) :
    SpanRow (W.setCell ⟨g, 3, none⟩ (.int .i64 (b' : Int))) base (.slice (some ⟨g, 0, none⟩) 2 cap) [(t, m), (t2, b')] :=
  ⟨(World.ownsRow.stored h.1 3 (.int .i64 (b' : Int))).1, by simp⟩

theorem SpanRow.blk {W : World} {base g n cap : Nat} {l : List (Nat × Nat)} (h : SpanRow W base (.slice (some ⟨g, 0, none⟩) n cap) l) : base ≤ g := (h.1.lt g rfl).1


theorem two_one (a b : Int) : ∀ u ∈ [Value.int .i64 a, Value.int .i64 b], u.oneCell' = true := by
  intro u hu
  simp only [List.mem_cons, List.not_mem_nil, or_false] at hu
  rcases hu with rfl | rfl <;> rfl

theorem below_app {B : Nat} {w W w1 : World} {o : Obj} {v : Value} (hb : Below B w W) (hB : B ≤ W.heap.size) (hc : Chg (fun k => v.ownBlock = some k) (W.alloc o) w1) (hv : ∀ k, v.ownBlock = some k → B ≤ k) : Below B w w1 :=
  (hb.alloc hB o).trans (hc.below fun k hk => ⟨by rw [size_alloc]; omega, fun h => by have := hv k h; omega⟩)


theorem spansL_one (s t : Nat) (h : t < s) : spansL s t 1 = [(t, 1)] := by unfold spansL; rw [if_neg (by omega), if_pos (by omega)]
theorem spansL_low (s t k : Nat) (h0 : 0 < k) (h : k ≤ s - t) : spansL s t k = [(t, k)] := by unfold spansL; rw [if_neg (by omega), if_pos h]
theorem spansL_high (s t k : Nat) (h : s - t < k) : spansL s t k = [(t, s - t), (0, k - (s - t))] := by unfold spansL; rw [if_neg (by omega), if_neg (by omega)]

set_option maxRecDepth 100000 in
set_option maxHeartbeats 4000000 in
theorem refspans_any (g s t u start n : Nat) (w : World) (h : RefAt w g s t u) (h2 : s ≤ 2048) (h3 : start < s) (hn : n ≤ s) :
    Calls Try.prog 75 #[.pointer (some ⟨g, 0, none⟩), .int .i64 start, .int .i64 n] w fun e W' => ∃ v, e = .returned v ∧ SpanRow W' w.heap.size v (spansL s start n) ∧ Below w.heap.size w W' := by
  have hlt := h.lt
  have H := Lib.hid h
  clear h
  go_enter Try.func75, Try.ntmps75
  go_wp2
  go_loopw [7, 8] (fun o i wr => ∃ k : Nat, k ≤ n ∧ i = .int .i64 k ∧ SpanRow wr w.heap.size o (spansL s start k) ∧ Below w.heap.size w wr) (fun _ i _ => n - (intOf i).toNat)
  case atStart => exact ⟨0, by omega, rfl, ⟨World.ownsRow_nil _ _ _ _, by simp [spansL]⟩, Below.refl _ _⟩
  case round =>
    obtain ⟨k, hk, rfl, hrow, hb⟩ := hrel
    have hsz := hb.size
    by_cases hkn : k < n
    · obtain ⟨c0, c1, c2⟩ := RefAt.cells (H.out.below hb hlt)
      have K1 : Hid (k + 1 ≤ n) := hkn
      by_cases hk0 : k = 0
      · subst hk0
        rw [spansL_zero] at hrow
        obtain rfl := hrow.2.2 rfl
        have tm0 : (start : Int).tmod (s : Int) = (start : Int) := by rw [← Int.ofNat_tmod, Nat.mod_eq_of_lt h3]
        clear hrow
        go_wp2_with (refine wpList_append_keeps rfl _ _ 28 31 2 16 rfl slice28 w.heap.size (.slice none 0 0) 0 [] rfl (World.ownsRow_nil _ _ _ _) _ 1 1 [.int .i64 (start : Int), .int .i64 0] rfl rfl (cell_two_new _ _ _ _) (two_one _ _) (by decide) (by decide) (by rw [size_alloc]; omega) (by omega) ?_; intro v1 w1 hown hloc hchg hkeep; obtain ⟨g1, cap1, rfl, hg1, hg1'⟩ := ownsRow_full hown (by omega); have d1 := hown.cellAt 1 (by omega); have f1 := hown.frozenAt 1)
        refine ⟨⟨1, K1.out, by go_num, ?_, ?_⟩, by simp [intOf]; omega⟩
        · rw [spansL_one s start h3]
          exact SpanRow.last1 (b := 0) ⟨hown, by simp⟩ 1
        · exact (below_app hb hsz hchg (fun k hk => by cases hk)).setCell hg1 _
      · have hk1 : 0 < k := by omega
        have hkb : ((k : Int) == 0) = false := beq_eq_false_iff_ne.2 (by omega)
        have hmod := Nat.mod_lt (start + k) (show 0 < s by omega)
        have tm := tmod_nat start k s
        rcases Nat.lt_trichotomy k (s - start) with hl | hl | hl
        · rw [spansL_low s start k hk1 (by omega)] at hrow
          have Hnext := Lib.hid (spansL_low s start (k + 1) (by omega) (by omega))
          have hp0 : (start + k) % s ≠ 0 := by rw [Nat.mod_eq_of_lt (by omega)]; omega
          generalize (start + k) % s = p at *
          have hpb : ((p : Int) == 0) = false := beq_eq_false_iff_ne.2 (by omega)
          obtain ⟨g1, cap1, rfl, hg1, hg1'⟩ := hrow.full (by simp)
          have d1 : wr.cell? ⟨g1, 1, none⟩ = some (.int .i64 (k : Int)) := (hrow.1.cellAt 1 (by simp)).trans rfl
          have f1 := hrow.1.frozenAt 1
          have Hset := Lib.hid (SpanRow.last1 hrow (k + 1))
          clear hrow
          go_wp2
          refine ⟨⟨k + 1, K1.out, by go_num, ?_, hb.setCell hg1 _⟩, by simp [intOf]; omega⟩
          rw [Hnext.out]
          exact Hset.out
        · rw [spansL_low s start k hk1 (by omega)] at hrow
          have Hnext := Lib.hid (spansL_high s start (k + 1) (by omega))
          have hp0 : (start + k) % s = 0 := by rw [show start + k = s by omega, Nat.mod_self]
          have tm : ((start : Int) + (k : Int)).tmod (s : Int) = 0 := by rw [tmod_nat, hp0]; rfl
          have em : ((start : Int) + (k : Int)) % (s : Int) = 0 := by rw [← Int.natCast_add, show start + k = s by omega]; simp
          have HL := Lib.hid hl
          clear hl
          have HR : Hid (wr.ownsRow w.heap.size 31 2 u7 1 [.int .i64 (start : Int), .int .i64 (k : Int)]) := hrow.1
          clear hrow hmod hp0
          go_wp2_with (refine wpList_append_keeps rfl _ _ 28 31 2 16 rfl slice28 w.heap.size u7 1 [.int .i64 (start : Int), .int .i64 (k : Int)] rfl (HR.out.alloc _) _ 1 1 [.int .i64 0, .int .i64 0] rfl rfl (cell_two_new _ _ _ _) (two_one _ _) (by decide) (by decide) (by rw [size_alloc]; omega) (by omega) ?_; intro v1 w1 hown hloc hchg hkeep; obtain ⟨g1, cap1, rfl, hg1, hg1'⟩ := ownsRow_full hown (by omega); have d1 := hown.cellAt 3 (by omega); have f1 := hown.frozenAt 3)
          refine ⟨⟨k + 1, K1.out, by go_num, ?_, ?_⟩, by simp [intOf]; omega⟩
          · rw [Hnext.out, ← HL.out, show k + 1 - k = 1 by omega]
            exact SpanRow.last2 (b := 0) ⟨hown, by simp⟩ 1
          · exact (below_app hb hsz hchg (fun k hk => (HR.out.lt k hk).1)).setCell hg1 _
        · rw [spansL_high s start k hl] at hrow
          have Hnext := Lib.hid (spansL_high s start (k + 1) (by omega))
          have hp0 : (start + k) % s ≠ 0 := by rw [Nat.mod_eq_sub_mod (by omega), Nat.mod_eq_of_lt (by omega)]; omega
          generalize (start + k) % s = p at *
          have hpb : ((p : Int) == 0) = false := beq_eq_false_iff_ne.2 (by omega)
          have hm : k + 1 - (s - start) = (k - (s - start)) + 1 := by omega
          have hm2 : k - (s - start) ≤ 2048 := by omega
          rw [hm] at Hnext
          generalize k - (s - start) = m at *
          obtain ⟨g1, cap1, rfl, hg1, hg1'⟩ := hrow.full (by simp)
          have d1 : wr.cell? ⟨g1, 3, none⟩ = some (.int .i64 (m : Int)) := (hrow.1.cellAt 3 (by simp)).trans rfl
          have f1 := hrow.1.frozenAt 3
          have Hset := Lib.hid (SpanRow.last2 hrow (m + 1))
          clear hrow
          go_wp2
          refine ⟨⟨k + 1, K1.out, by go_num, ?_, hb.setCell hg1 _⟩, by simp [intOf]; omega⟩
          rw [Hnext.out]
          exact Hset.out
    · obtain rfl : k = n := by omega
      go_wp2
      go_ret
      exact ⟨_, rfl, hrow, hb⟩

end Go.Proofs.Ytjmnbpghfnageaa
