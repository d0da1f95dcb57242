/- Lists of bits: as an argument brings them; lent; whole. -/
import Derived.Test.YtpegbgomnpinfaaGreatMrg9
import Derived.Test.YtpegbgomnpinfaaGreatPlwG
set_option linter.unusedVariables false
namespace Go.Proofs.YtpegbgomnpinfaaGreat
open Go.RowKit

/-- Bits, as they stand. -/
def BooSeg (w : World) (v : Value) (l : List Bool) : Prop :=
  ∃ a cap, v = .slice a l.length cap ∧ ((a = none → l.length = 0 ∧ cap = 0) ∧ l.length ≤ cap) ∧
    (l = [] ∨ ∃ b off, a = some ⟨b, off, none⟩ ∧ b < w.heap.size ∧ ∀ j (h : j < l.length), w.cell? ⟨b, off + j, none⟩ = some (.bool l[j]))
theorem BooSeg.below {w w' : World} {v : Value} {l : List Bool} (h : BooSeg w v l) (hb : Below w.heap.size w w') : BooSeg w' v l := by
  obtain ⟨a, cap, hv, hn, h⟩ := h
  refine ⟨a, cap, hv, hn, ?_⟩
  rcases h with h | ⟨b, off, ha, hlt, hc⟩
  · exact .inl h
  · exact .inr ⟨b, off, ha, Nat.lt_of_lt_of_le hlt hb.size, fun j hj => (hb.cell (p := ⟨b, off + j, none⟩) hlt).trans (hc j hj)⟩
theorem BooSeg.shape {w : World} {v : Value} {l : List Bool} (h : BooSeg w v l) : ∃ a cap, v = .slice a l.length cap := by
  obtain ⟨a, cap, hv, _⟩ := h
  exact ⟨a, cap, hv⟩
theorem BooSeg.full {w : World} {v : Value} {l : List Bool} (h : BooSeg w v l) (hl : 0 < l.length) :
    ∃ b off cap, v = .slice (some ⟨b, off, none⟩) l.length cap ∧ b < w.heap.size ∧ ∀ j (h : j < l.length), w.cell? ⟨b, off + j, none⟩ = some (.bool l[j]) := by
  obtain ⟨a, cap, hv, _, h⟩ := h
  rcases h with rfl | ⟨b, off, rfl, hb, hc⟩
  · simp at hl
  · exact ⟨b, off, cap, hv, hb, hc⟩
theorem BooSeg.cells {w : World} {a : Option Addr} {n cap : Nat} {l : List Bool} (h : BooSeg w (.slice a n cap) l) :
    n = l.length ∧ (a = none → l.length = 0 ∧ cap = 0) ∧ ∀ ad, a = some ad → ∀ j u, (l.map Value.bool)[j]? = some u → w.cell? (ad.add j) = some u := by
  obtain ⟨a', cap', hv, hn, h⟩ := h
  simp only [Value.slice.injEq] at hv
  obtain ⟨rfl, rfl, rfl⟩ := hv
  refine ⟨rfl, hn.1, ?_⟩
  intro ad had j u hu
  rcases h with rfl | ⟨b, off, ha, _, hc⟩
  · simp at hu
  · rw [ha] at had
    obtain rfl := Option.some.inj had
    have hj : j < l.length := by
      have := (List.getElem?_eq_some_iff.1 hu).1
      simpa using this
    rw [Addr.add_lit, hc j hj]
    simp [hj] at hu
    rw [hu]
/-- .. as plan reads them. -/
theorem BooSeg.bseg {w : World} {v : Value} {l : List Bool} (h : BooSeg w v l) : BSeg w v (fun j => l.getD j false) l.length := by
  obtain ⟨a, cap, hv, _, h⟩ := h
  refine ⟨a, cap, hv, ?_⟩
  rcases h with rfl | ⟨b, off, ha, hlt, hc⟩
  · exact .inl rfl
  · refine .inr ⟨b, off, ha, hlt, fun j hj => (hc j hj).trans ?_⟩
    show _ = some (Value.bool (l.getD j false))
    rw [List.getD_eq_getElem?_getD, List.getElem?_eq_getElem hj]
    rfl
theorem boo_ne (x y : Bool) : (!(x == y)) = !decide (x = y) := by cases x <;> cases y <;> rfl

def lentBoos (l : List Bool) : Array Value := (l.map Value.bool ++ [Value.bool true, Value.bool false]).toArray
/-- Such a slice, lent. -/
def LentB (w : World) (lo : Nat) (v : Value) (l : List Bool) : Prop := ∃ g, lo ≤ g ∧ v = .slice (some ⟨g, 0, none⟩) l.length (l.length + 2) ∧ At w g (lentBoos l) 4
theorem LentB.seg {w : World} {lo : Nat} {v : Value} {l : List Bool} (h : LentB w lo v l) : BooSeg w v l := by
  obtain ⟨g, -, rfl, h⟩ := h
  refine ⟨_, _, rfl, ⟨fun h => by simp at h, by omega⟩, .inr ⟨g, 0, rfl, h.lt, fun j hj => ?_⟩⟩
  rw [h.cell (0 + j), Nat.zero_add]
  simp [lentBoos, List.getElem?_append, hj]
theorem LentB.below {w w' : World} {lo : Nat} {v : Value} {l : List Bool} (h : LentB w lo v l) (hb : Below w.heap.size w w') : LentB w' lo v l := by
  obtain ⟨g, hg, rfl, h⟩ := h
  exact ⟨g, hg, rfl, h.below hb h.lt⟩
theorem lentBoos_mark (l : List Bool) : (lentBoos l)[l.length]? = some (.bool true) ∧ (lentBoos l)[l.length + 1]? = some (.bool false) := by
  constructor <;> simp [lentBoos]
theorem boos_one (l : List Bool) : ∀ u ∈ l.map Value.bool, u.oneCell' = true := by
  intro u hu
  obtain ⟨x, -, rfl⟩ := List.mem_map.1 hu
  rfl

set_option maxRecDepth 100000 in
set_option maxHeartbeats 1000000 in
theorem lent_bools (v : Value) (l : List Bool) (w : World) (hl : l.length ≤ 140737488355000) (hv : BooSeg w v l) :
    Calls Tryz.prog 21 #[v] w fun e w' => e = .returned (.slice (some ⟨w.heap.size, 0, none⟩) l.length (l.length + 2)) ∧ At w' w.heap.size (lentBoos l) 4 ∧ Below w.heap.size w w' := by
  obtain ⟨ao, cap, rfl, hv'⟩ := id hv
  clear hv'
  go_enter Tryz.func21, Tryz.ntmps21
  go_wp2_with (first
    | (refine wpList_make_room rfl _ _ 68 4 1 1 rfl slice_bools _ _ _ (l.length + 2) rfl rfl (by omega) (by omega) (by unfold maxLen; omega) ?_; intro w1 hown1 hb1 hlt1; have HC := Lib.hid (hv.below hb1).cells; clear hv)
    | (refine wpList_append_room rfl _ _ 68 4 1 1 rfl slice_bools w.heap.size w.heap.size 0 (l.length + 2) [] rfl hown1 ao l.length cap (l.map Value.bool) rfl (by rw [List.length_map, Nat.mul_one]) HC.out.2.1 HC.out.2.2 (boos_one l) (by omega) ?_; intro w2 hown2 hb2; rw [Nat.zero_add, List.nil_append] at hown2)
    | (refine wpList_append_room rfl _ _ 68 4 1 1 rfl slice_bools w.heap.size w.heap.size l.length (l.length + 2) (l.map Value.bool) rfl (hown2.alloc _) _ 2 2 [Value.bool true, Value.bool false] rfl rfl (by intro h; cases h) (fun ad h => by cases h; exact cell_two_new _ _ _ _) (by simp; exact ⟨rfl, rfl⟩) (Nat.le_refl _) ?_; intro w3 hown3 hb3))
  go_ret
  exact ⟨rfl, at_of_owns hown3, ((hb1.trans hb2).alloc (Nat.le_trans hb1.size hb2.size) _).trans hb3⟩

set_option maxRecDepth 100000 in
set_option maxHeartbeats 1000000 in
theorem same_bools (u v : Value) (l m : List Bool) (w : World) (hl : l.length ≤ 9223372036854775807) (hm : m.length ≤ 9223372036854775807) (hu : BooSeg w u l) (hv : BooSeg w v m) :
    Calls Tryz.prog 91 #[u, v] w fun e w' => e = .returned (.bool (decide (l = m))) ∧ Below w.heap.size w w' := by
  obtain ⟨a, c, rfl⟩ := hu.shape
  obtain ⟨b, d, rfl⟩ := hv.shape
  by_cases hlen : l.length = m.length
  · have hne : ((l.length : Int) != (m.length : Int)) = false := by simp; omega
    go_enter Tryz.func91, Tryz.ntmps91
    go_wp2_with fail
    go_loopw [5] (fun i wr => ∃ k : Nat, k ≤ l.length ∧ i = .int .i64 k ∧ l.take k = m.take k ∧ Below w.heap.size w wr) (fun i _ => l.length - (intOf i).toNat)
    case atStart => exact ⟨0, Nat.zero_le _, rfl, rfl, Below.refl _ _⟩
    case round =>
      obtain ⟨k, hk, rfl, htake, hbw⟩ := hrel
      have Hlen := Lib.hid hlen
      have Htake := Lib.hid htake
      clear htake hlen
      by_cases hlt : k < l.length
      · have hlt' : k < m.length := by have := Hlen.out; omega
        obtain ⟨b1, o1, c1, e1, hb1, h1⟩ := BooSeg.full (hu.below hbw) (by omega)
        obtain ⟨b2, o2, c2, e2, hb2, h2⟩ := BooSeg.full (hv.below hbw) (by omega)
        simp only [Value.slice.injEq] at e1 e2
        obtain ⟨rfl, _, rfl⟩ := e1
        obtain ⟨rfl, _, rfl⟩ := e2
        have c1 := h1 k hlt
        have c2 := h2 k hlt'
        have hx := boo_ne l[k] m[k]
        clear h1 h2 hu hv
        by_cases heq : l[k] = m[k]
        · rw [decide_eq_true heq, Bool.not_true] at hx
          have Hn := Lib.hid (take_eq_succ Htake.out hlt hlt' heq)
          generalize l[k] = x at *
          generalize m[k] = y at *
          clear heq
          go_wp2
          go_quiet (fail)
          go_wp2
          go_roundw
          case rel => exact ⟨k + 1, by omega, by go_num, Hn.out, below_drewN hbw _⟩
          case measure => simp [intOf]; omega
        · rw [decide_eq_false heq, Bool.not_false] at hx
          have Hn := Lib.hid (show decide (l = m) = false from decide_eq_false fun e => heq (by subst e; rfl))
          generalize l[k] = x at *
          generalize m[k] = y at *
          clear heq
          go_wp2
          go_quiet (fail)
          go_wp2
          go_ret
          exact ⟨by rw [Hn.out]; rfl, below_drewN hbw _⟩
      · have Hn := Lib.hid (show decide (l = m) = true from decide_eq_true (by
          have h := Htake.out
          rw [List.take_of_length_le (by omega), List.take_of_length_le (by have := Hlen.out; omega)] at h
          exact h))
        clear hu hv
        go_wp2
        go_ret
        exact ⟨by rw [Hn.out]; rfl, hbw⟩
  · have hne : ((l.length : Int) != (m.length : Int)) = true := by simp; omega
    have Hn := Lib.hid (show decide (l = m) = false from decide_eq_false fun e => hlen (by rw [e]))
    clear hlen hu hv
    go_enter Tryz.func91, Tryz.ntmps91
    go_wp2
    go_ret
    exact ⟨by rw [Hn.out]; rfl, Below.refl _ _⟩


set_option maxRecDepth 100000 in
set_option maxHeartbeats 1000000 in
theorem whole_bools (lo : Nat) (u v : Value) (l : List Bool) (w : World) (hl : l.length ≤ 140737488355000) (hu : LentB w lo u l) (hv : BooSeg w v l) :
    Calls Tryz.prog 24 #[u, v] w fun e w' => e = .returned (.bool true) ∧ Below w.heap.size w w' := by
  have hcall : Hid (Calls Tryz.prog 91 #[u, v] w fun e w' => e = .returned (.bool true) ∧ Below w.heap.size w w') := (same_bools u v l l w (by omega) (by omega) hu.seg hv).mono fun e w' ⟨x1, x2⟩ => ⟨by rw [x1]; simp, x2⟩
  obtain ⟨g, -, rfl, hat⟩ := hu
  have c1 := (hat.cell l.length).trans (lentBoos_mark l).1
  have c2 := (hat.cell (l.length + 1)).trans (lentBoos_mark l).2
  obtain ⟨b, d, rfl⟩ := hv.shape
  clear hv hat
  go_enter Tryz.func24, Tryz.ntmps24
  go_wp2_with (go_at_call 91; refine hcall.out.mono ?_; rintro e w' ⟨rfl, hb1⟩)
  go_ret
  exact ⟨rfl, hb1⟩

end Go.Proofs.YtpegbgomnpinfaaGreat
