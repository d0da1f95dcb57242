/- Several texts in one: RfP, Same, BokA. -/
import Derived.Test.YtleicmmbaacbmaaGreatRfO
import Derived.Test.YtleicmmbaacbmaaGreatRfN
import Derived.Test.YtleicmmbaacbmaaGreatDiskB
import Derived.Test.YtleicmmbaacbmaaGreatMrg1
import Derived.Test.YtleicmmbaacbmaaGreatMrg9
import Derived.Deep.MidRow
import Derived.Deep.OwnRows
/- How a call turns a bay: plain. -/
set_option linter.unusedVariables false
namespace Go.Proofs.YtleicmmbaacbmaaGreat
open Go.RowKit

/-- Only what is in a slot turns. -/
def Fix (s s' : BaySt) : Prop := s'.n = s.n ∧ ∀ q, q % 3 ≠ 0 → s'.pos q = s.pos q
theorem Fix.refl (s : BaySt) : Fix s s := ⟨rfl, fun _ _ => rfl⟩
theorem Fix.trans {a b c : BaySt} (h : Fix a b) (h' : Fix b c) : Fix a c := ⟨h'.1.trans h.1, fun q hq => (h'.2 q hq).trans (h.2 q hq)⟩
theorem Fix.still {s s' : BaySt} (h : Fix s s') (hs : s.still) : s'.still := fun k hk => by
  rw [h.2 (k * 3 + 2) (by omega)]
  exact hs k (by rw [← h.1]; exact hk)
theorem laid_fix (s : BaySt) (k : Nat) (y : Dev) : Fix s (s.laid (k * 3) y) := ⟨rfl, fun q hq => by
  show (if q = k * 3 then _ else s.pos q) = _
  rw [if_neg (by omega)]⟩
theorem start_fix (s : BaySt) (j : Nat) (k : Int) : Fix s (s.start j k).1 := by
  unfold BaySt.start
  split
  · exact .refl s
  · split
    · exact ⟨rfl, fun _ _ => rfl⟩
    · split
      · exact .refl s
      · split
        · exact ⟨rfl, fun _ _ => rfl⟩
        · exact ⟨rfl, fun q hq => by
            show (if q = k.toNat * 3 then _ else s.pos q) = _
            rw [if_neg (by omega)]⟩
theorem read_fix (s : BaySt) (k z : Int) : Fix s (s.read k z).2.2 := by rw [read_state]; exact start_fix s 0 k
theorem write_fix (s : BaySt) (k z : Int) (l : List UInt8) : Fix s (s.write k z l).2 := by
  unfold BaySt.write
  have h := start_fix s 1 k
  cases hs : s.start 1 k with
  | mk a b =>
    rw [hs] at h
    cases b with
    | inl c => exact h
    | inr x => exact h.trans (laid_fix _ _ _)
theorem flush_fix (s : BaySt) (k : Int) : Fix s (s.flush k).2 := by
  unfold BaySt.flush
  have h := start_fix s 2 k
  cases hs : s.start 2 k with
  | mk a b =>
    rw [hs] at h
    cases b with
    | inl c => exact h
    | inr x => exact h.trans (laid_fix _ _ _)
theorem hand_fix (s : BaySt) (z but : Int) : ∀ k, Fix s (s.hand z but k).s
  | 0 => .refl s
  | k + 1 => by
    have ih := hand_fix s z but k
    show Fix s ((s.hand z but k).step z but k).s
    unfold Handed.step
    split
    · exact ih
    · split
      · exact ih.trans (read_fix _ _ _)
      · exact ih.trans (read_fix _ _ _)
theorem look_fix (s : BaySt) (M : Nat) : ∀ r, Fix s (s.look M r).s
  | 0 => .refl s
  | r + 1 => by
    have ih := look_fix s M r
    show Fix s ((s.look M r).step M r).s
    unfold Looked.step
    split
    · exact ih
    · split
      · exact ih.trans (hand_fix _ _ _ _)
      · exact ih.trans (hand_fix _ _ _ _)

structure Grow (s s' : BaySt) : Prop where
  n : s'.n = s.n
  small : ∀ m, s.small m → s'.small (m + 1)
  cnt : ∀ j, j < 3 → s'.cnt j ≤ s.cnt j + 70000
  still : s'.still

theorem small_up {s : BaySt} {m k : Nat} (h : s.small m) (hk : m ≤ k) : s.small k := fun i hi x hx => Nat.le_trans (h i hi x hx) hk

theorem Grow.same {s : BaySt} (hs : s.still) : Grow s s := ⟨rfl, fun m h => small_up h (by omega), fun j _ => by omega, hs⟩
theorem Grow.of_reads {s s' : BaySt} {k : Nat} (hs : s.still) (h : Reads s s' k) (hf : Fix s s') (hk : k ≤ 70000) : Grow s s' :=
  ⟨h.n, fun m hm => small_up (h.small m hm) (by omega), fun j hj => by
    rcases (by omega : j = 0 ∨ j = 1 ∨ j = 2) with rfl | rfl | rfl
    · have := h.hi; omega
    · rw [h.c1]; omega
    · rw [h.c2]; omega, hf.still hs⟩
theorem Grow.of_went {s s' : BaySt} {j up : Nat} (hs : s.still) (h : Went s s' j up) (hf : Fix s s') (hu : up ≤ 1) : Grow s s' :=
  ⟨h.n, fun m hm => small_up (h.small m hm) (by omega), fun q hq => by
    by_cases e : q = j
    · subst e; have := h.hi; omega
    · rw [h.rest q e]; omega, hf.still hs⟩

theorem grow_write {s : BaySt} (hs : s.still) (k z : Int) (l : List UInt8) : Grow s (s.write k z l).2 := .of_went hs (write_went s k z l) (write_fix s k z l) (Nat.le_refl _)
theorem grow_lost {s : BaySt} (hs : s.still) (z but : Int) (M : Nat) (hM : M ≤ 16) : Grow s (s.hand z but M).s := .of_reads hs (hand_reads s z but M) (hand_fix s z but M) (by omega)
theorem grow_rows {s : BaySt} (hs : s.still) (M R : Nat) (hM : M ≤ 16) (hR : R ≤ 4096) : Grow s (s.look M R).s := .of_reads hs (look_reads s M R) (look_fix s M R) (by have := Nat.mul_le_mul hR hM; omega)
theorem grow_mend {s : BaySt} (hs : s.still) (M p r : Nat) (hM : M ≤ 16) : Grow s (s.mend M p r).2 := by
  have h1 := hand_reads s (1 + r) p M
  have h2 := hand_fix s (1 + r) p M
  have g1 : Grow s (s.hand (1 + r) p M).s := .of_reads hs h1 h2 (by omega)
  unfold BaySt.mend
  split
  · exact g1
  · have w1 := write_went (s.hand (1 + r) p M).s p (1 + r) (sumL (s.hand (1 + r) p M).f 128)
    have w2 := write_fix (s.hand (1 + r) p M).s p (1 + r) (sumL (s.hand (1 + r) p M).f 128)
    have hi := h1.hi
    have c1 := h1.c1
    have c2 := h1.c2
    have k0 := w1.rest 0 (by omega)
    have k1 := w1.hi
    have k2 := w1.rest 2 (by omega)
    have g2 : Grow s ((s.hand (1 + r) p M).s.write p (1 + r) (sumL (s.hand (1 + r) p M).f 128)).2 := by
      refine ⟨w1.n.trans h1.n, fun m hm => w1.small m (h1.small m hm), fun j hj => ?_, (h2.trans w2).still hs⟩
      rcases (by omega : j = 0 ∨ j = 1 ∨ j = 2) with rfl | rfl | rfl
      · rw [k0]; omega
      · omega
      · rw [k2]; omega
    split
    · exact g2
    · have f1 := flush_went ((s.hand (1 + r) p M).s.write p (1 + r) (sumL (s.hand (1 + r) p M).f 128)).2 p
      have f2 := flush_fix ((s.hand (1 + r) p M).s.write p (1 + r) (sumL (s.hand (1 + r) p M).f 128)).2 p
      have g3 : Grow s (((s.hand (1 + r) p M).s.write p (1 + r) (sumL (s.hand (1 + r) p M).f 128)).2.flush p).2 := by
        refine ⟨f1.n.trans g2.n, fun m hm => f1.small (m + 1) (g2.small m hm), fun j hj => ?_, (h2.trans (w2.trans f2)).still hs⟩
        have r0 := f1.rest 0 (by omega)
        have r1 := f1.rest 1 (by omega)
        have r2 := f1.hi
        rcases (by omega : j = 0 ∨ j = 1 ∨ j = 2) with rfl | rfl | rfl
        · rw [r0, k0]; omega
        · rw [r1]; omega
        · omega
      split
      · exact g3
      · exact g3
theorem small_laid {s : BaySt} {m i : Nat} {y : Dev} (h : s.small m) (hy : y.d.cache.length ≤ m) : (s.laid i y).small m := fun j hj x hx => by
  have hx' : (if j = i then some y else s.pos j) = some x := hx
  by_cases e : j = i
  · rw [if_pos e] at hx'
    obtain rfl := Option.some.inj hx'
    exact hy
  · rw [if_neg e] at hx'
    exact h j hj x hx'
theorem grow_fails {s : BaySt} (hs : s.still) (k : Int) : Grow s (s.fails k).2 := by
  rcases slot_three s k with hno | ⟨i, x, rfl, hi, hx⟩
  · rw [fails_none hno]; exact .same hs
  · rw [fails_some hi hx]
    exact ⟨rfl, fun m hm => small_up (small_laid hm (by simp)) (by omega), fun j _ => by show s.cnt j ≤ _; omega, (laid_fix s i _).still hs⟩
theorem grow_wears {s : BaySt} (hs : s.still) (k n : Int) : Grow s (s.wears k n).2 := by
  by_cases hn : n < 0
  · unfold BaySt.wears; rw [if_pos hn]; exact .same hs
  · rcases slot_three s k with hno | ⟨i, x, rfl, hi, hx⟩
    · rw [wears_none hn hno]; exact .same hs
    · rw [wears_some hn hi hx]
      exact ⟨rfl, fun m hm => small_up (small_laid hm (hm (i * 3) (by omega) x hx)) (by omega), fun j _ => by show s.cnt j ≤ _; omega, (laid_fix s i _).still hs⟩
theorem grow_trips {s : BaySt} (hs : s.still) (n : Int) : Grow s (s.trips n).2 := by
  unfold BaySt.trips
  split
  · exact .same hs
  · split
    · exact .same hs
    · exact ⟨rfl, fun m hm => small_up (show BaySt.small _ _ from hm) (by omega), fun j _ => by show s.cnt j ≤ _; omega, hs⟩
theorem cutTo_grow {s : BaySt} (hs : s.still) : ∀ k, k ≤ s.n → (∀ m, s.small m → (s.cutTo [] k).small m) ∧ Fix s (s.cutTo [] k)
  | 0, _ => ⟨fun m h => h, .refl s⟩
  | k + 1, hk => by
    obtain ⟨i1, i2⟩ := cutTo_grow hs k (by omega)
    rw [cutTo_step hs hk]
    split
    · exact ⟨i1, i2⟩
    · exact ⟨fun m hm => small_laid (i1 m hm) (by show ([] : List (Nat × Sec)).length ≤ m; simp), i2.trans (laid_fix _ _ _)⟩
theorem grow_cut {s : BaySt} (hs : s.still) : Grow s (s.cut []) := by
  obtain ⟨h1, h2⟩ := cutTo_grow hs s.n (Nat.le_refl _)
  have hc := cutTo_cnt s [] s.n
  refine ⟨h2.1, fun m hm => small_up (show BaySt.small _ _ from h1 m hm) (by omega), fun j _ => ?_, fun k hk => h2.still hs k hk⟩
  show (s.cutTo [] s.n).cnt j ≤ _
  rw [hc]
  omega

end Go.Proofs.YtleicmmbaacbmaaGreat

/- Lists that are the same: of bytes, of whole numbers. -/
set_option linter.unusedVariables false
namespace Go.Proofs.YtleicmmbaacbmaaGreat
open Go.RowKit

set_option maxRecDepth 100000 in
set_option maxHeartbeats 1000000 in
theorem same_any (u v : Value) (l m : List UInt8) (w : World) (hl : l.length ≤ 9223372036854775807) (hm : m.length ≤ 9223372036854775807) (hu : Seg w u l) (hv : Seg w v m) :
    Calls Tryz.prog 15 #[u, v] w fun e w' => e = .returned (.bool (decide (l = m))) ∧ Below w.heap.size w w' := by
  obtain ⟨a, c, rfl⟩ := hu.shape
  obtain ⟨b, d, rfl⟩ := hv.shape
  by_cases hlen : l.length = m.length
  · have hne : ((l.length : Int) != (m.length : Int)) = false := by simp; omega
    go_enter Tryz.func15, Tryz.ntmps15
    go_wp2_with fail
    go_loopw [5] (fun i wr => ∃ k : Nat, k ≤ l.length ∧ i = .int .i64 k ∧ l.take k = m.take k ∧ Below w.heap.size w wr) (fun i _ => l.length - (intOf i).toNat)
    case atStart => exact ⟨0, Nat.zero_le _, rfl, rfl, Below.refl _ _⟩
    case round =>
      obtain ⟨k, hk, rfl, htake, hbw⟩ := hrel
      have Hlen := Lib.hid hlen
      have Htake := Lib.hid htake
      clear htake hlen
      by_cases hlt : k < l.length
      · have hlt' : k < m.length := by have := Hlen.out; omega
        obtain ⟨b1, o1, c1, e1, hb1, h1⟩ := Seg.full (hu.below hbw) (by omega)
        obtain ⟨b2, o2, c2, e2, hb2, h2⟩ := Seg.full (hv.below hbw) (by omega)
        simp only [Value.slice.injEq] at e1 e2
        obtain ⟨rfl, _, rfl⟩ := e1
        obtain ⟨rfl, _, rfl⟩ := e2
        have c1 := h1 k hlt
        have c2 := h2 k hlt'
        have hx := u8_ne l[k] m[k]
        clear h1 h2 hu hv
        by_cases heq : l[k] = m[k]
        · rw [decide_eq_true heq] at hx
          have Hn := Lib.hid (take_eq_succ Htake.out hlt hlt' heq)
          generalize l[k] = x at *
          generalize m[k] = y at *
          clear heq
          go_wp2
          go_quiet (fail)
          go_wp2
          go_roundw
          case rel => exact ⟨k + 1, by omega, by go_num, Hn.out, below_drewN hbw _⟩
          case measure => simp [intOf]; omega
        · rw [decide_eq_false heq] at hx
          have Hn := Lib.hid (show decide (l = m) = false from decide_eq_false fun e => heq (by subst e; rfl))
          generalize l[k] = x at *
          generalize m[k] = y at *
          clear heq
          go_wp2
          go_quiet (fail)
          go_wp2
          go_ret
          exact ⟨by rw [Hn.out]; rfl, below_drewN hbw _⟩
      · have Hn := Lib.hid (show decide (l = m) = true from decide_eq_true (by
          have h := Htake.out
          rw [List.take_of_length_le (by omega), List.take_of_length_le (by have := Hlen.out; omega)] at h
          exact h))
        clear hu hv
        go_wp2
        go_ret
        exact ⟨by rw [Hn.out]; rfl, hbw⟩
  · have hne : ((l.length : Int) != (m.length : Int)) = true := by simp; omega
    have Hn := Lib.hid (show decide (l = m) = false from decide_eq_false fun e => hlen (by rw [e]))
    clear hlen hu hv
    go_enter Tryz.func15, Tryz.ntmps15
    go_wp2
    go_ret
    exact ⟨by rw [Hn.out]; rfl, Below.refl _ _⟩

/-- A list of whole numbers, to be read. -/
def ISeg (w : World) (v : Value) (l : List Nat) : Prop :=
  ∃ a c, v = .slice a l.length c ∧ (l = [] ∨ ∃ b o, a = some ⟨b, o, none⟩ ∧ b < w.heap.size ∧ ∀ j (h : j < l.length), w.cell? ⟨b, o + j, none⟩ = some (.int .i64 ((l[j] : Nat) : Int)))

theorem ISeg.below {w w' : World} {v : Value} {l : List Nat} (h : ISeg w v l) (hb : Below w.heap.size w w') : ISeg w' v l := by
  obtain ⟨a, c, h1, h2⟩ := h
  refine ⟨a, c, h1, ?_⟩
  rcases h2 with h2 | ⟨b, o, h3, h4, h5⟩
  · exact .inl h2
  · exact .inr ⟨b, o, h3, Nat.lt_of_lt_of_le h4 hb.size, fun j hj => (hb.cell (p := ⟨b, o + j, none⟩) h4).trans (h5 j hj)⟩
theorem ISeg.shape {w : World} {v : Value} {l : List Nat} (h : ISeg w v l) : ∃ a c, v = .slice a l.length c := by
  obtain ⟨a, c, h1, _⟩ := h
  exact ⟨a, c, h1⟩
theorem ISeg.full {w : World} {a : Option Addr} {n c : Nat} {l : List Nat} (h : ISeg w (.slice a n c) l) (hl : 0 < l.length) : ∃ b o, a = some ⟨b, o, none⟩ ∧ b < w.heap.size ∧ ∀ j (h : j < l.length), w.cell? ⟨b, o + j, none⟩ = some (.int .i64 ((l[j] : Nat) : Int)) := by
  obtain ⟨a', c', h1, h2⟩ := h
  simp only [Value.slice.injEq] at h1
  obtain ⟨rfl, -, rfl⟩ := h1
  rcases h2 with h2 | h2
  · subst h2; simp at hl
  · exact h2

set_option maxRecDepth 100000 in
set_option maxHeartbeats 1000000 in
theorem same_ints (u v : Value) (l m : List Nat) (w : World) (hl : l.length ≤ 1000000) (hm : m.length ≤ 1000000) (hu : ISeg w u l) (hv : ISeg w v m) :
    Calls Tryz.prog 38 #[u, v] w fun e w' => e = .returned (.bool (decide (l = m))) ∧ Below w.heap.size w w' := by
  obtain ⟨a, c, rfl⟩ := hu.shape
  obtain ⟨b, d, rfl⟩ := hv.shape
  by_cases hlen : l.length = m.length
  · have hne : ((l.length : Int) != (m.length : Int)) = false := by simp; omega
    go_enter Tryz.func38, Tryz.ntmps38
    go_wp2_with fail
    go_loopw [5] (fun i wr => ∃ k : Nat, k ≤ l.length ∧ i = .int .i64 k ∧ l.take k = m.take k ∧ Below w.heap.size w wr) (fun i _ => l.length - (intOf i).toNat)
    case atStart => exact ⟨0, Nat.zero_le _, rfl, rfl, Below.refl _ _⟩
    case round =>
      obtain ⟨k, hk, rfl, htake, hbw⟩ := hrel
      have Hlen := Lib.hid hlen
      have Htake := Lib.hid htake
      clear htake hlen
      by_cases hlt : k < l.length
      · have hlt' : k < m.length := by have := Hlen.out; omega
        obtain ⟨b1, o1, rfl, hb1, h1⟩ := ISeg.full (hu.below hbw) (by omega)
        obtain ⟨b2, o2, rfl, hb2, h2⟩ := ISeg.full (hv.below hbw) (by omega)
        have c1 := h1 k hlt
        have c2 := h2 k hlt'
        clear h1 h2 hu hv
        by_cases heq : l[k] = m[k]
        · have hx : (((l[k] : Nat) : Int) != ((m[k] : Nat) : Int)) = false := by rw [heq]; simp
          have Hn := Lib.hid (take_eq_succ Htake.out hlt hlt' heq)
          generalize l[k] = x at *
          generalize m[k] = y at *
          clear heq
          go_wp2
          go_quiet (fail)
          go_wp2
          go_roundw
          case rel => exact ⟨k + 1, by omega, by go_num, Hn.out, below_drewN hbw _⟩
          case measure => simp [intOf]; omega
        · have hx : (((l[k] : Nat) : Int) != ((m[k] : Nat) : Int)) = true := by simp only [bne_iff_ne, ne_eq]; omega
          have Hn := Lib.hid (show decide (l = m) = false from decide_eq_false fun e => heq (by subst e; rfl))
          generalize l[k] = x at *
          generalize m[k] = y at *
          clear heq
          go_wp2
          go_quiet (fail)
          go_wp2
          go_ret
          exact ⟨by rw [Hn.out]; rfl, below_drewN hbw _⟩
      · have Hn := Lib.hid (show decide (l = m) = true from decide_eq_true (by
          have h := Htake.out
          rw [List.take_of_length_le (by omega), List.take_of_length_le (by have := Hlen.out; omega)] at h
          exact h))
        clear hu hv
        go_wp2
        go_ret
        exact ⟨by rw [Hn.out]; rfl, hbw⟩
  · have hne : ((l.length : Int) != (m.length : Int)) = true := by simp; omega
    have Hn := Lib.hid (show decide (l = m) = false from decide_eq_false fun e => hlen (by rw [e]))
    clear hlen hu hv
    go_enter Tryz.func38, Tryz.ntmps38
    go_wp2
    go_ret
    exact ⟨by rw [Hn.out]; rfl, Below.refl _ _⟩

end Go.Proofs.YtleicmmbaacbmaaGreat

/- The book's own: what its texts stand on. -/
set_option linter.unusedVariables false
namespace Go.Proofs.YtleicmmbaacbmaaGreat
open Go.RowKit

theorem own_at {w : World} {B e sz g n c : Nat} {xs : List Value} (h : w.ownsRow B e sz (.slice (some ⟨g, 0, none⟩) n c) n xs) : B ≤ g ∧ n ≤ c ∧ c ≤ maxLen ∧ ∃ cur, At w g cur e ∧ cur.size = c * sz ∧ cur.toList.take (n * sz) = xs := by
  rcases h.2 with ⟨h, _⟩ | ⟨g', cap, cur, hv, hb, hg, hc, hm, hs, ht⟩
  · cases h
  · simp only [Value.slice.injEq, Option.some.injEq, Addr.mk.injEq] at hv
    obtain ⟨⟨rfl, _, _⟩, _, rfl⟩ := hv
    exact ⟨hb, hc, hm, cur, hg, hs, ht⟩

theorem at_one {w : World} {g : Nat} {cs cs' : Array Value} {t t' : TypeId} (h : At w g cs t) (h' : At w g cs' t') : cs = cs' ∧ t = t' := by
  unfold At at h h'
  rw [h] at h'
  simp only [Option.some.injEq, Obj.cells.injEq] at h'
  exact ⟨h'.1, h'.2.1⟩

theorem take_set_one (xs : List Value) (k : Nat) (a : Value) (h : k < xs.length) : (xs.set k a).take ((k + 1) * 1) = xs.take (k * 1) ++ [a] := by
  rw [Nat.mul_one, Nat.mul_one, List.take_succ_eq_append_getElem (by rw [List.length_set]; exact h), List.getElem_set_self, List.take_set_of_le (Nat.le_refl _)]
theorem take_set_three (xs : List Value) (k : Nat) (a b c : Value) (h : k * 3 + 2 < xs.length) : (((xs.set (k * 3) a).set (k * 3 + 1) b).set (k * 3 + 2) c).take ((k + 1) * 3) = xs.take (k * 3) ++ [a, b, c] := by
  apply List.ext_getElem?
  intro i
  rw [List.getElem?_take]
  by_cases h1 : i < (k + 1) * 3
  · rw [if_pos h1]
    by_cases h2 : i < k * 3
    · rw [List.getElem?_append_left (by rw [List.length_take]; omega), List.getElem?_take, if_pos h2, List.getElem?_set_ne (by omega), List.getElem?_set_ne (by omega), List.getElem?_set_ne (by omega)]
    · rw [List.getElem?_append_right (by rw [List.length_take]; omega), List.length_take, Nat.min_eq_left (by omega)]
      by_cases h3 : i = k * 3
      · subst h3
        rw [List.getElem?_set_ne (by omega), List.getElem?_set_ne (by omega), List.getElem?_set_self (by omega)]
        simp
      · by_cases h4 : i = k * 3 + 1
        · subst h4
          rw [List.getElem?_set_ne (by omega), List.getElem?_set_self (by simp; omega), show k * 3 + 1 - k * 3 = 1 by omega]
          rfl
        · obtain rfl : i = k * 3 + 2 := by omega
          rw [List.getElem?_set_self (by simp; omega), show k * 3 + 2 - k * 3 = 2 by omega]
          rfl
  · rw [if_neg h1, List.getElem?_eq_none]
    simp only [List.length_append, List.length_take, List.length_cons, List.length_nil]
    omega

/-- What is new does not count. -/
theorem chg_old {S0 S : Nat → Prop} {w W W1 : World} (h : Chg S0 w W) (hc : Chg S W W1) (hS : ∀ k, k < w.heap.size → S k → S0 k) : Chg S0 w W1 :=
  ⟨hc.os.trans h.os, hc.tape.trans h.tape, hc.output.trans h.output, Nat.le_trans h.size hc.size, fun k hk hn => (hc.block k (Nat.lt_of_lt_of_le hk h.size) (fun hs => hn (hS k hk hs))).trans (h.block k hk hn)⟩
theorem pat_oneA (n : Int) : (#[Value.int .i64 0, .int .i64 n, .slice none 0 0].all (·.oneCell')) = true := all_oneCell_toArray (cs := [.int .i64 0, .int .i64 n, .slice none 0 0]) fun v hv => by
  simp only [List.mem_cons, List.not_mem_nil, or_false] at hv
  rcases hv with rfl | rfl | rfl <;> rfl

theorem slice_rowsB : SliceOf Tryz.prog 38 53 1 24 := SliceOf.mk' (z := .slice none 0 0) Tryz.underlying38 (by decide) (by kernel_rfl) rfl
theorem slice_bools : SliceOf Tryz.prog 103 4 1 1 := SliceOf.mk' (z := .bool false) Tryz.underlying103 (by decide) (by kernel_rfl) rfl
theorem slice_pats : SliceOf Tryz.prog 167 169 3 40 := SliceOf.mk' (z := .agg #[.int .i64 0, .int .i64 0, .slice none 0 0]) Tryz.underlying167 (by decide) (by kernel_rfl) rfl
theorem slice_rows : SliceOf Tryz.prog 48 167 1 24 := SliceOf.mk' (z := .slice none 0 0) Tryz.underlying48 (by decide) (by kernel_rfl) rfl
theorem own_ne_at {w : World} {B : Nat} {e t : TypeId} {sz n g : Nat} {v : Value} {xs : List Value} {cs : Array Value} (h : w.ownsRow B e sz v n xs) (ha : At w g cs t) (hne : e ≠ t) : v.ownBlock ≠ some g := by
  intro hv
  rcases h.2 with ⟨rfl, _⟩ | ⟨g', cap, cur, rfl, _, hg, _⟩
  · cases hv
  · simp only [Value.ownBlock, Option.some.injEq] at hv
    subst hv
    unfold At at ha
    rw [hg] at ha
    simp only [Option.some.injEq, Obj.cells.injEq] at ha
    exact hne ha.2.1
theorem own_ne_own {w : World} {B B' : Nat} {e t : TypeId} {sz sz' n m g : Nat} {v u : Value} {xs ys : List Value} (h : w.ownsRow B e sz v n xs) (h' : w.ownsRow B' t sz' u m ys) (hne : e ≠ t) (hu : u.ownBlock = some g) : v.ownBlock ≠ some g := by
  rcases h'.2 with ⟨rfl, _⟩ | ⟨g', cap, cur, rfl, _, hg, _⟩
  · cases hu
  · simp only [Value.ownBlock, Option.some.injEq] at hu
    subst hu
    exact own_ne_at (cs := cur) h hg hne
theorem own_cell3 {w : World} {B g n c : Nat} {e : TypeId} {f : Nat → List Value} (h : w.ownsRow B e 3 (.slice (some ⟨g, 0, none⟩) n c) n (elems f n)) (hf : ∀ k, (f k).length = 3) (j i : Nat) (hj : j < n) (hi : i < 3) : w.cell? ⟨g, j * 3 + i, none⟩ = (f j)[i]? := by
  have hx := elems_at hf n j i hj hi
  have hlen : i < (f j).length := by rw [hf]; exact hi
  rw [List.getElem?_eq_getElem hlen] at hx ⊢
  have := h.cells (g := g) rfl (j * 3 + i) _ hx
  rw [Go.WideShapes.add_plain, Nat.zero_add] at this
  exact this
theorem new_one (W : World) (x : Value) (t : TypeId) (ad : Addr) (had : ad = ⟨W.heap.size, 0, none⟩) : ∀ j u, [x][j]? = some u → (W.alloc (.cells #[x] t)).cell? (ad.add j) = some u := by
  intro j u hj
  subst had
  rw [Go.WideShapes.add_plain, Nat.zero_add, (At.new W #[x] t).cell j, List.getElem?_toArray]
  exact hj

theorem new_three (W : World) (x y z : Value) (t : TypeId) (ad : Addr) (had : ad = ⟨W.heap.size, 0, none⟩) : ∀ j u, [x, y, z][j]? = some u → (W.alloc (.cells #[x, y, z] t)).cell? (ad.add j) = some u := by
  intro j u hj
  subst had
  rw [Go.WideShapes.add_plain, Nat.zero_add, (At.new W #[x, y, z] t).cell j, List.getElem?_toArray]
  exact hj

end Go.Proofs.YtleicmmbaacbmaaGreat
