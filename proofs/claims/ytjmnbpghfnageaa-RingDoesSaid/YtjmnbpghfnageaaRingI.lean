/- 'marks': its walk. -/
import Derived.Test.YtjmnbpghfnageaaRingG
namespace Go.Proofs.Ytjmnbpghfnageaa
open Go.RowKit

def bools (f : Nat → Bool) (n : Nat) : Array Value := ((List.range n).map fun i => Value.bool (f i)).toArray

theorem bools_size (f : Nat → Bool) (n : Nat) : (bools f n).size = n := by simp [bools]
theorem bools_at (f : Nat → Bool) (n i : Nat) (h : i < n) : (bools f n)[i]? = some (.bool (f i)) := by simp [bools, h]
theorem bools_eq {f g : Nat → Bool} {n : Nat} (h : ∀ i, i < n → f i = g i) : bools f n = bools g n := by
  unfold bools
  congr 1
  exact List.map_congr_left fun i hi => by rw [h i (List.mem_range.1 hi)]
theorem bools_set (f g : Nat → Bool) (n k : Nat) (h : ∀ i, i < n → g i = if i = k then true else f i) : (bools f n).setIfInBounds k (.bool true) = bools g n := by
  apply Array.ext_getElem?
  intro i
  rw [Array.getElem?_setIfInBounds]
  by_cases hi : i < n
  · rw [bools_at g n i hi, bools_at f n i hi, bools_size, h i hi]
    by_cases hk : k = i
    · subst hk; simp [hi]
    · simp [hk, Ne.symm hk]
  · have h1 : (bools g n)[i]? = none := by rw [Array.getElem?_eq_none]; rw [bools_size]; omega
    have h2 : (bools f n)[i]? = none := by rw [Array.getElem?_eq_none]; rw [bools_size]; omega
    rw [h1, h2, bools_size]
    by_cases hk : k = i
    · subst hk; simp [hi]
    · simp [hk]
theorem bools_zero (f : Nat → Value) (n : Nat) : cellsTo f (.bool false) n 0 = bools (fun _ => false) n := by
  simp [cellsTo, bools]

/-- The first j places from a on are marked besides. -/
def plus (f : Nat → Bool) (a j : Nat) : Nat → Bool := fun i => f i || (decide (a ≤ i) && decide (i < a + j))

theorem plus_zero (f : Nat → Bool) (a : Nat) : plus f a 0 = f := by
  funext i
  have : (decide (a ≤ i) && decide (i < a + 0)) = false := by
    by_cases h : a ≤ i
    · simp [show ¬ i < a by omega]
    · simp [h]
  simp only [plus, this, Bool.or_false]

theorem plus_succ (f : Nat → Bool) (a j i : Nat) : plus f a (j + 1) i = if i = a + j then true else plus f a j i := by
  unfold plus
  split
  · rename_i h; subst h; simp
  · rename_i h
    congr 1
    by_cases h1 : a ≤ i
    · simp only [h1, decide_true, Bool.true_and]; exact decide_eq_decide.2 (by omega)
    · simp [h1]

set_option maxRecDepth 100000 in
set_option maxHeartbeats 4000000 in
theorem marks_one (G s t u b : Nat) (g cap : Nat) (W : World) (f : Nat → Bool) (hs : s ≤ 2048) (h0 : 0 < u) (hu : t + u ≤ s) (hb : G < b)
    (hr : SpanRow W b (.slice (some ⟨g, 0, none⟩) 1 cap) [(t, u)]) (hg : At W G (bools f s) 4) (hf : ∀ i, t ≤ i → i < t + u → f i = false) :
    Calls Try.prog 24 #[.slice (some ⟨g, 0, none⟩) 1 cap, .int .i64 t, .slice (some ⟨G, 0, none⟩) s s] W fun e W' =>
      e = .returned (.tuple #[.int .i64 u, .bool true]) ∧ At W' G (bools (plus f t u) s) 4 ∧ Chg (fun k => k = G) W W' := by
  have q1 : decide ((u : Int) < 1) = false := decide_eq_false (by omega)
  obtain ⟨a0, a1⟩ := hr.at 0 (by simp)
  have HR := Lib.hid hr
  clear hr
  go_enter Try.func24, Try.ntmps24
  go_wp2
  refine wp_loop_rounds 2 ?_
  rw [rounds_succ]
  go_wp2
  go_loopw [8, 9, 11] (fun c a i wr => ∃ k : Nat, k ≤ u ∧ c = .int .i64 k ∧ a = .int .i64 (t + k : Nat) ∧ i = .int .i64 k ∧ At wr G (bools (plus f t k) s) 4 ∧ Chg (fun k => k = G) W wr) (fun _ _ i _ => u - (intOf i).toNat)
  case atStart => exact ⟨0, by omega, rfl, by simp, rfl, by rw [plus_zero]; exact hg, Chg.refl _ _⟩
  case round =>
    clear hg a0 a1
    obtain ⟨k, hk, rfl, rfl, rfl, hg, hc⟩ := hrel
    obtain ⟨a0, a1⟩ := (HR.out.chg hc (fun k hk e => by omega)).at 0 (by simp)
    by_cases hlt : k < u
    · have c1 := hg.cell (t + k)
      rw [bools_at _ _ _ (by omega)] at c1
      have c2 : plus f t k (t + k) = false := by unfold plus; rw [hf _ (by omega) (by omega)]; simp
      rw [c2] at c1
      have f1 := hg.free (t + k)
      have Hset := Lib.hid (hg.set (t + k) (.bool true))
      have q2 : decide ((s : Int) ≤ ((t + k : Nat) : Int)) = false := decide_eq_false (by omega)
      clear hg c2
      go_wp2
      refine ⟨⟨k + 1, by omega, by go_num, by go_num, by go_num, ?_, Chg.setCell (S := fun k => k = G) hc ⟨G, t + k, none⟩ (.inl rfl) _⟩, by simp [intOf]; omega⟩
      rw [← bools_set (plus f t k) _ s (t + k) (fun i _ => plus_succ f t k i)]
      exact Hset.out
    · obtain rfl : k = u := by omega
      go_wp2
      rw [rounds_succ]
      go_wp2
      go_ret2
      exact ⟨rfl, hg, hc⟩

set_option maxRecDepth 100000 in
set_option maxHeartbeats 4000000 in
theorem marks_none (G s t : Nat) (W : World) :
    Calls Try.prog 24 #[.slice none 0 0, .int .i64 t, .slice (some ⟨G, 0, none⟩) s s] W fun e W' =>
      e = .returned (.tuple #[.int .i64 0, .bool true]) ∧ W = W' := by
  go_enter Try.func24, Try.ntmps24
  go_wp2
  refine wp_loop_rounds 1 ?_
  rw [rounds_succ]
  go_wp2
  go_ret2
  exact ⟨rfl, rfl⟩

set_option maxRecDepth 100000 in
set_option maxHeartbeats 4000000 in
theorem marks_two (G s t m u b : Nat) (g cap : Nat) (W : World) (f : Nat → Bool) (hs : s ≤ 2048) (h0 : 0 < u) (h1 : 0 < m) (hm : t + m = s) (hu : u ≤ t) (hb : G < b)
    (hr : SpanRow W b (.slice (some ⟨g, 0, none⟩) 2 cap) [(t, m), (0, u)]) (hg : At W G (bools f s) 4) (hf : ∀ i, (t ≤ i ∧ i < s) ∨ i < u → f i = false) :
    Calls Try.prog 24 #[.slice (some ⟨g, 0, none⟩) 2 cap, .int .i64 t, .slice (some ⟨G, 0, none⟩) s s] W fun e W' =>
      e = .returned (.tuple #[.int .i64 (m + u : Nat), .bool true]) ∧ At W' G (bools (plus (plus f t m) 0 u) s) 4 ∧ Chg (fun k => k = G) W W' := by
  have q1 : decide ((m : Int) < 1) = false := decide_eq_false (by omega)
  have q3 : decide ((u : Int) < 1) = false := decide_eq_false (by omega)
  obtain ⟨a0, a1⟩ := hr.at 0 (by simp)
  have HR := Lib.hid hr
  clear hr
  go_enter Try.func24, Try.ntmps24
  go_wp2
  refine wp_loop_rounds 3 ?_
  rw [rounds_succ]
  go_wp2
  go_loopw [8, 9, 11] (fun c a i wr => ∃ k : Nat, k ≤ m ∧ c = .int .i64 k ∧ a = .int .i64 (t + k : Nat) ∧ i = .int .i64 k ∧ At wr G (bools (plus f t k) s) 4 ∧ Chg (fun k => k = G) W wr) (fun _ _ i _ => m - (intOf i).toNat)
  case atStart => exact ⟨0, by omega, rfl, by simp, rfl, by rw [plus_zero]; exact hg, Chg.refl _ _⟩
  case round =>
    clear hg a0 a1
    obtain ⟨k, hk, rfl, rfl, rfl, hg, hc⟩ := hrel
    obtain ⟨a0, a1⟩ := (HR.out.chg hc (fun k hk e => by omega)).at 0 (by simp)
    by_cases hlt : k < m
    · have c1 := hg.cell (t + k)
      rw [bools_at _ _ _ (by omega)] at c1
      have c2 : plus f t k (t + k) = false := by unfold plus; rw [hf _ (by omega)]; simp
      rw [c2] at c1
      have f1 := hg.free (t + k)
      have Hset := Lib.hid (hg.set (t + k) (.bool true))
      have q2 : decide ((s : Int) ≤ ((t + k : Nat) : Int)) = false := decide_eq_false (by omega)
      clear hg c2
      go_wp2
      refine ⟨⟨k + 1, by omega, by go_num, by go_num, by go_num, ?_, Chg.setCell (S := fun k => k = G) hc ⟨G, t + k, none⟩ (.inl rfl) _⟩, by simp [intOf]; omega⟩
      rw [← bools_set (plus f t k) _ s (t + k) (fun i _ => plus_succ f t k i)]
      exact Hset.out
    · obtain rfl : k = m := by omega
      obtain ⟨a2, a3⟩ := (HR.out.chg hc (fun k hk e => by omega)).at 1 (by simp)
      have q5 : ((t + k : Nat) : Int).tmod (s : Int) = 0 := by rw [hm]; simp
      rw [hm]
      go_wp2
      rw [rounds_succ]
      go_wp2
      go_loopw [8, 9, 11] (fun c a i wr => ∃ j : Nat, j ≤ u ∧ c = .int .i64 (k + j : Nat) ∧ a = .int .i64 (j : Nat) ∧ i = .int .i64 j ∧ At wr G (bools (plus (plus f t k) 0 j) s) 4 ∧ Chg (fun k => k = G) W wr) (fun _ _ i _ => u - (intOf i).toNat)
      case atStart => exact ⟨0, by omega, by simp, by simp, rfl, by rw [plus_zero]; exact hg, hc⟩
      case round =>
        clear hg hc a0 a1 a2 a3
        obtain ⟨j, hj, rfl, rfl, rfl, hg, hc'⟩ := hrel
        obtain ⟨a0, a1⟩ := (HR.out.chg hc' (fun k hk e => by omega)).at 1 (by simp)
        by_cases hlt2 : j < u
        · have c1 := hg.cell j
          rw [bools_at _ _ _ (by omega)] at c1
          have c2 : plus (plus f t k) 0 j j = false := by unfold plus; rw [hf _ (by omega)]; simp; omega
          rw [c2] at c1
          have f1 := hg.free j
          have Hset := Lib.hid (hg.set j (.bool true))
          have q2 : decide ((s : Int) ≤ (j : Int)) = false := decide_eq_false (by omega)
          clear hg c2
          go_wp2
          refine ⟨⟨j + 1, by omega, by go_num, by go_num, by go_num, ?_, Chg.setCell (S := fun k => k = G) hc' ⟨G, j, none⟩ (.inl rfl) _⟩, by simp [intOf]; omega⟩
          rw [← bools_set (plus (plus f t k) 0 j) _ s j (fun i _ => by have := plus_succ (plus f t k) 0 j i; rw [Nat.zero_add] at this; exact this)]
          exact Hset.out
        · obtain rfl : j = u := by omega
          go_wp2
          rw [rounds_succ]
          go_wp2
          go_ret2
          exact ⟨rfl, hg, hc'⟩

/-- The places of a run of n from t on, in a ring of s places. -/
def inRun (s t n i : Nat) : Bool := (decide (t ≤ i) && decide (i < t + n)) || decide (i + s < t + n)

theorem marks_any (G s t n b : Nat) (v : Value) (W : World) (f : Nat → Bool) (hs : s ≤ 2048) (ht : t < s) (hn : n ≤ s) (hb : G < b)
    (hr : SpanRow W b v (spansL s t n)) (hg : At W G (bools f s) 4) (hf : ∀ i, i < s → inRun s t n i = true → f i = false) :
    Calls Try.prog 24 #[v, .int .i64 t, .slice (some ⟨G, 0, none⟩) s s] W fun e W' =>
      e = .returned (.tuple #[.int .i64 n, .bool true]) ∧ At W' G (bools (fun i => f i || inRun s t n i) s) 4 ∧ Chg (fun k => k = G) W W' := by
  rcases Nat.eq_zero_or_pos n with hz | hpos
  · subst hz
    obtain rfl := hr.2.2 rfl
    refine (marks_none G s t W).mono fun e W' ⟨he, hw⟩ => ?_
    subst hw
    refine ⟨he, ?_, Chg.refl _ _⟩
    rw [bools_eq (g := f)]
    · exact hg
    · intro i hi
      have : inRun s t 0 i = false := by unfold inRun; simp; omega
      rw [this, Bool.or_false]
  · by_cases hone : n ≤ s - t
    · have e1 : spansL s t n = [(t, n)] := by unfold spansL; rw [if_neg (by omega), if_pos hone]
      rw [e1] at hr
      obtain ⟨g, cap, rfl, _⟩ := hr.full (by simp)
      have hlen : ([(t, n)] : List (Nat × Nat)).length = 1 := rfl
      rw [hlen] at hr ⊢
      refine (marks_one G s t n b g cap W f hs hpos (by omega) hb hr hg (fun i h1 h2 => hf i (by omega) (by unfold inRun; simp; omega))).mono fun e W' ⟨he, ha, hc⟩ => ⟨he, ?_, hc⟩
      rw [bools_eq (g := plus f t n)]
      · exact ha
      · intro i hi
        have : decide (i + s < t + n) = false := decide_eq_false (by omega)
        simp only [inRun, plus, this, Bool.or_false]
    · have e1 : spansL s t n = [(t, s - t), (0, n - (s - t))] := by unfold spansL; rw [if_neg (by omega), if_neg hone]
      rw [e1] at hr
      obtain ⟨g, cap, rfl, _⟩ := hr.full (by simp)
      have hlen : ([(t, s - t), (0, n - (s - t))] : List (Nat × Nat)).length = 2 := rfl
      rw [hlen] at hr ⊢
      refine (marks_two G s t (s - t) (n - (s - t)) b g cap W f hs (by omega) (by omega) (by omega) (by omega) hb hr hg (fun i h => hf i (by omega) (by unfold inRun; simp; omega))).mono fun e W' ⟨he, ha, hc⟩ => ⟨by rw [he, show s - t + (n - (s - t)) = n by omega], ?_, hc⟩
      rw [bools_eq (g := plus (plus f t (s - t)) 0 (n - (s - t)))]
      · exact ha
      · intro i hi
        simp only [inRun, plus, Bool.or_assoc]
        congr 1
        by_cases h1 : t ≤ i
        · simp [h1, show i < t + n by omega, show i < t + (s - t) by omega]
        · simp only [h1, decide_false, Bool.false_and, Bool.false_or, Nat.zero_le, decide_true, Bool.true_and]
          exact decide_eq_decide.2 (by omega)

end Go.Proofs.Ytjmnbpghfnageaa
