/- Several texts in one: PlyE, PlyF, WrkA. -/
import Derived.Test.YtpegbgomnpinfaaGreatMrg8
import Derived.Test.YtpegbgomnpinfaaGreatPlwG
import Derived.Test.YtpegbgomnpinfaaGreatPlwF
import Derived.Test.YtpegbgomnpinfaaGreatMrg3
import Derived.Test.YtpegbgomnpinfaaGreatPlnI
/- Lists of bits: as an argument brings them; lent; whole. -/
set_option linter.unusedVariables false
namespace Go.Proofs.YtpegbgomnpinfaaGreat
open Go.RowKit

/-- Bits, as they stand. -/
def BooSeg (w : World) (v : Value) (l : List Bool) : Prop :=
  ∃ a cap, v = .slice a l.length cap ∧ ((a = none → l.length = 0 ∧ cap = 0) ∧ l.length ≤ cap) ∧
    (l = [] ∨ ∃ b off, a = some ⟨b, off, none⟩ ∧ b < w.heap.size ∧ ∀ j (h : j < l.length), w.cell? ⟨b, off + j, none⟩ = some (.bool l[j]))
theorem BooSeg.below {w w' : World} {v : Value} {l : List Bool} (h : BooSeg w v l) (hb : Below w.heap.size w w') : BooSeg w' v l := by
  obtain ⟨a, cap, hv, hn, h⟩ := h
  refine ⟨a, cap, hv, hn, ?_⟩
  rcases h with h | ⟨b, off, ha, hlt, hc⟩
  · exact .inl h
  · exact .inr ⟨b, off, ha, Nat.lt_of_lt_of_le hlt hb.size, fun j hj => (hb.cell (p := ⟨b, off + j, none⟩) hlt).trans (hc j hj)⟩
theorem BooSeg.shape {w : World} {v : Value} {l : List Bool} (h : BooSeg w v l) : ∃ a cap, v = .slice a l.length cap := by
  obtain ⟨a, cap, hv, _⟩ := h
  exact ⟨a, cap, hv⟩
theorem BooSeg.full {w : World} {v : Value} {l : List Bool} (h : BooSeg w v l) (hl : 0 < l.length) :
    ∃ b off cap, v = .slice (some ⟨b, off, none⟩) l.length cap ∧ b < w.heap.size ∧ ∀ j (h : j < l.length), w.cell? ⟨b, off + j, none⟩ = some (.bool l[j]) := by
  obtain ⟨a, cap, hv, _, h⟩ := h
  rcases h with rfl | ⟨b, off, rfl, hb, hc⟩
  · simp at hl
  · exact ⟨b, off, cap, hv, hb, hc⟩
theorem BooSeg.cells {w : World} {a : Option Addr} {n cap : Nat} {l : List Bool} (h : BooSeg w (.slice a n cap) l) :
    n = l.length ∧ (a = none → l.length = 0 ∧ cap = 0) ∧ ∀ ad, a = some ad → ∀ j u, (l.map Value.bool)[j]? = some u → w.cell? (ad.add j) = some u := by
  obtain ⟨a', cap', hv, hn, h⟩ := h
  simp only [Value.slice.injEq] at hv
  obtain ⟨rfl, rfl, rfl⟩ := hv
  refine ⟨rfl, hn.1, ?_⟩
  intro ad had j u hu
  rcases h with rfl | ⟨b, off, ha, _, hc⟩
  · simp at hu
  · rw [ha] at had
    obtain rfl := Option.some.inj had
    have hj : j < l.length := by
      have := (List.getElem?_eq_some_iff.1 hu).1
      simpa using this
    rw [Addr.add_lit, hc j hj]
    simp [hj] at hu
    rw [hu]
/-- .. as plan reads them. -/
theorem BooSeg.bseg {w : World} {v : Value} {l : List Bool} (h : BooSeg w v l) : BSeg w v (fun j => l.getD j false) l.length := by
  obtain ⟨a, cap, hv, _, h⟩ := h
  refine ⟨a, cap, hv, ?_⟩
  rcases h with rfl | ⟨b, off, ha, hlt, hc⟩
  · exact .inl rfl
  · refine .inr ⟨b, off, ha, hlt, fun j hj => (hc j hj).trans ?_⟩
    show _ = some (Value.bool (l.getD j false))
    rw [List.getD_eq_getElem?_getD, List.getElem?_eq_getElem hj]
    rfl
theorem boo_ne (x y : Bool) : (!(x == y)) = !decide (x = y) := by cases x <;> cases y <;> rfl

def lentBoos (l : List Bool) : Array Value := (l.map Value.bool ++ [Value.bool true, Value.bool false]).toArray
/-- Such a slice, lent. -/
def LentB (w : World) (lo : Nat) (v : Value) (l : List Bool) : Prop := ∃ g, lo ≤ g ∧ v = .slice (some ⟨g, 0, none⟩) l.length (l.length + 2) ∧ At w g (lentBoos l) 4
theorem LentB.seg {w : World} {lo : Nat} {v : Value} {l : List Bool} (h : LentB w lo v l) : BooSeg w v l := by
  obtain ⟨g, -, rfl, h⟩ := h
  refine ⟨_, _, rfl, ⟨fun h => by simp at h, by omega⟩, .inr ⟨g, 0, rfl, h.lt, fun j hj => ?_⟩⟩
  rw [h.cell (0 + j), Nat.zero_add]
  simp [lentBoos, List.getElem?_append, hj]
theorem LentB.below {w w' : World} {lo : Nat} {v : Value} {l : List Bool} (h : LentB w lo v l) (hb : Below w.heap.size w w') : LentB w' lo v l := by
  obtain ⟨g, hg, rfl, h⟩ := h
  exact ⟨g, hg, rfl, h.below hb h.lt⟩
theorem lentBoos_mark (l : List Bool) : (lentBoos l)[l.length]? = some (.bool true) ∧ (lentBoos l)[l.length + 1]? = some (.bool false) := by
  constructor <;> simp [lentBoos]
theorem boos_one (l : List Bool) : ∀ u ∈ l.map Value.bool, u.oneCell' = true := by
  intro u hu
  obtain ⟨x, -, rfl⟩ := List.mem_map.1 hu
  rfl

set_option maxRecDepth 100000 in
set_option maxHeartbeats 1000000 in
theorem lent_bools (v : Value) (l : List Bool) (w : World) (hl : l.length ≤ 140737488355000) (hv : BooSeg w v l) :
    Calls Tryz.prog 21 #[v] w fun e w' => e = .returned (.slice (some ⟨w.heap.size, 0, none⟩) l.length (l.length + 2)) ∧ At w' w.heap.size (lentBoos l) 4 ∧ Below w.heap.size w w' := by
  obtain ⟨ao, cap, rfl, hv'⟩ := id hv
  clear hv'
  go_enter Tryz.func21, Tryz.ntmps21
  go_wp2_with (first
    | (refine wpList_make_room rfl _ _ 68 4 1 1 rfl slice_bools _ _ _ (l.length + 2) rfl rfl (by omega) (by omega) (by unfold maxLen; omega) ?_; intro w1 hown1 hb1 hlt1; have HC := Lib.hid (hv.below hb1).cells; clear hv)
    | (refine wpList_append_room rfl _ _ 68 4 1 1 rfl slice_bools w.heap.size w.heap.size 0 (l.length + 2) [] rfl hown1 ao l.length cap (l.map Value.bool) rfl (by rw [List.length_map, Nat.mul_one]) HC.out.2.1 HC.out.2.2 (boos_one l) (by omega) ?_; intro w2 hown2 hb2; rw [Nat.zero_add, List.nil_append] at hown2)
    | (refine wpList_append_room rfl _ _ 68 4 1 1 rfl slice_bools w.heap.size w.heap.size l.length (l.length + 2) (l.map Value.bool) rfl (hown2.alloc _) _ 2 2 [Value.bool true, Value.bool false] rfl rfl (by intro h; cases h) (fun ad h => by cases h; exact cell_two_new _ _ _ _) (by simp; exact ⟨rfl, rfl⟩) (Nat.le_refl _) ?_; intro w3 hown3 hb3))
  go_ret
  exact ⟨rfl, at_of_owns hown3, ((hb1.trans hb2).alloc (Nat.le_trans hb1.size hb2.size) _).trans hb3⟩

set_option maxRecDepth 100000 in
set_option maxHeartbeats 1000000 in
theorem same_bools (u v : Value) (l m : List Bool) (w : World) (hl : l.length ≤ 9223372036854775807) (hm : m.length ≤ 9223372036854775807) (hu : BooSeg w u l) (hv : BooSeg w v m) :
    Calls Tryz.prog 91 #[u, v] w fun e w' => e = .returned (.bool (decide (l = m))) ∧ Below w.heap.size w w' := by
  obtain ⟨a, c, rfl⟩ := hu.shape
  obtain ⟨b, d, rfl⟩ := hv.shape
  by_cases hlen : l.length = m.length
  · have hne : ((l.length : Int) != (m.length : Int)) = false := by simp; omega
    go_enter Tryz.func91, Tryz.ntmps91
    go_wp2_with fail
    go_loopw [5] (fun i wr => ∃ k : Nat, k ≤ l.length ∧ i = .int .i64 k ∧ l.take k = m.take k ∧ Below w.heap.size w wr) (fun i _ => l.length - (intOf i).toNat)
    case atStart => exact ⟨0, Nat.zero_le _, rfl, rfl, Below.refl _ _⟩
    case round =>
      obtain ⟨k, hk, rfl, htake, hbw⟩ := hrel
      have Hlen := Lib.hid hlen
      have Htake := Lib.hid htake
      clear htake hlen
      by_cases hlt : k < l.length
      · have hlt' : k < m.length := by have := Hlen.out; omega
        obtain ⟨b1, o1, c1, e1, hb1, h1⟩ := BooSeg.full (hu.below hbw) (by omega)
        obtain ⟨b2, o2, c2, e2, hb2, h2⟩ := BooSeg.full (hv.below hbw) (by omega)
        simp only [Value.slice.injEq] at e1 e2
        obtain ⟨rfl, _, rfl⟩ := e1
        obtain ⟨rfl, _, rfl⟩ := e2
        have c1 := h1 k hlt
        have c2 := h2 k hlt'
        have hx := boo_ne l[k] m[k]
        clear h1 h2 hu hv
        by_cases heq : l[k] = m[k]
        · rw [decide_eq_true heq, Bool.not_true] at hx
          have Hn := Lib.hid (take_eq_succ Htake.out hlt hlt' heq)
          generalize l[k] = x at *
          generalize m[k] = y at *
          clear heq
          go_wp2
          go_quiet (fail)
          go_wp2
          go_roundw
          case rel => exact ⟨k + 1, by omega, by go_num, Hn.out, below_drewN hbw _⟩
          case measure => simp [intOf]; omega
        · rw [decide_eq_false heq, Bool.not_false] at hx
          have Hn := Lib.hid (show decide (l = m) = false from decide_eq_false fun e => heq (by subst e; rfl))
          generalize l[k] = x at *
          generalize m[k] = y at *
          clear heq
          go_wp2
          go_quiet (fail)
          go_wp2
          go_ret
          exact ⟨by rw [Hn.out]; rfl, below_drewN hbw _⟩
      · have Hn := Lib.hid (show decide (l = m) = true from decide_eq_true (by
          have h := Htake.out
          rw [List.take_of_length_le (by omega), List.take_of_length_le (by have := Hlen.out; omega)] at h
          exact h))
        clear hu hv
        go_wp2
        go_ret
        exact ⟨by rw [Hn.out]; rfl, hbw⟩
  · have hne : ((l.length : Int) != (m.length : Int)) = true := by simp; omega
    have Hn := Lib.hid (show decide (l = m) = false from decide_eq_false fun e => hlen (by rw [e]))
    clear hlen hu hv
    go_enter Tryz.func91, Tryz.ntmps91
    go_wp2
    go_ret
    exact ⟨by rw [Hn.out]; rfl, Below.refl _ _⟩


set_option maxRecDepth 100000 in
set_option maxHeartbeats 1000000 in
theorem whole_bools (lo : Nat) (u v : Value) (l : List Bool) (w : World) (hl : l.length ≤ 140737488355000) (hu : LentB w lo u l) (hv : BooSeg w v l) :
    Calls Tryz.prog 24 #[u, v] w fun e w' => e = .returned (.bool true) ∧ Below w.heap.size w w' := by
  have hcall : Hid (Calls Tryz.prog 91 #[u, v] w fun e w' => e = .returned (.bool true) ∧ Below w.heap.size w w') := (same_bools u v l l w (by omega) (by omega) hu.seg hv).mono fun e w' ⟨x1, x2⟩ => ⟨by rw [x1]; simp, x2⟩
  obtain ⟨g, -, rfl, hat⟩ := hu
  have c1 := (hat.cell l.length).trans (lentBoos_mark l).1
  have c2 := (hat.cell (l.length + 1)).trans (lentBoos_mark l).2
  obtain ⟨b, d, rfl⟩ := hv.shape
  clear hv hat
  go_enter Tryz.func24, Tryz.ntmps24
  go_wp2_with (go_at_call 91; refine hcall.out.mono ?_; rintro e w' ⟨rfl, hb1⟩)
  go_ret
  exact ⟨rfl, hb1⟩

end Go.Proofs.YtpegbgomnpinfaaGreat

/- Two plans that are the same. -/
set_option linter.unusedVariables false
namespace Go.Proofs.YtpegbgomnpinfaaGreat
open Go.RowKit

set_option maxRecDepth 100000 in
set_option maxHeartbeats 1000000 in
theorem same_plan (r md par : Int) (vq vr vq2 vr2 : Value) (ps : List Pat) (rl : List Nat) (w : World) (hq : PSeg w vq ps) (hq2 : PSeg w vq2 ps) (hr : ISeg w vr rl) (hr2 : ISeg w vr2 rl) (hrl : rl.length ≤ 1000000) :
    Calls Tryz.prog 29 #[.agg #[.int .i64 r, .int .u8 md, .int .i64 par, vq, vr], .agg #[.int .i64 r, .int .u8 md, .int .i64 par, vq2, vr2]] w fun e w' => e = .returned (.bool true) ∧ Below w.heap.size w w' := by
  have HP : Hid (∀ W, Below w.heap.size w W → Calls Tryz.prog 43 #[vq, vq2] W _) := fun W hW => same_pats vq vq2 ps W (hq.below hW) (hq2.below hW)
  have HI : Hid (∀ W, Below w.heap.size w W → Calls Tryz.prog 64 #[vr, vr2] W fun e w' => e = .returned (.bool true) ∧ Below W.heap.size W w') := fun W hW => (same_ints vr vr2 rl rl W hrl hrl (hr.below hW) (hr2.below hW)).mono fun e w' ⟨x1, x2⟩ => ⟨by rw [x1]; simp, x2⟩
  obtain ⟨a, c, rfl⟩ := hq.shape
  obtain ⟨a2, c2, rfl⟩ := hq2.shape
  obtain ⟨a3, c3, rfl⟩ := hr.shape
  obtain ⟨a4, c4, rfl⟩ := hr2.shape
  have HB0 : Hid (Below w.heap.size w ((w.alloc (.cells #[.int .i64 r, .int .u8 md, .int .i64 par, .slice a ps.length c, .slice a3 rl.length c3] 75)).alloc (.cells #[.int .i64 r, .int .u8 md, .int .i64 par, .slice a2 ps.length c2, .slice a4 rl.length c4] 75))) := ((Below.refl _ _).alloc (Nat.le_refl _) _).alloc (by rw [size_alloc]; omega) _
  have HA2 : Hid (At ((w.alloc (.cells #[.int .i64 r, .int .u8 md, .int .i64 par, .slice a ps.length c, .slice a3 rl.length c3] 75)).alloc (.cells #[.int .i64 r, .int .u8 md, .int .i64 par, .slice a2 ps.length c2, .slice a4 rl.length c4] 75)) w.heap.size #[.int .i64 r, .int .u8 md, .int .i64 par, .slice a ps.length c, .slice a3 rl.length c3] 75) := (At.new w _ _).alloc _
  have HA3 : Hid (At ((w.alloc (.cells #[.int .i64 r, .int .u8 md, .int .i64 par, .slice a ps.length c, .slice a3 rl.length c3] 75)).alloc (.cells #[.int .i64 r, .int .u8 md, .int .i64 par, .slice a2 ps.length c2, .slice a4 rl.length c4] 75)) (w.heap.size + 1) #[.int .i64 r, .int .u8 md, .int .i64 par, .slice a2 ps.length c2, .slice a4 rl.length c4] 75) := by
    have h := At.new (w.alloc (.cells #[.int .i64 r, .int .u8 md, .int .i64 par, .slice a ps.length c, .slice a3 rl.length c3] 75)) #[.int .i64 r, .int .u8 md, .int .i64 par, .slice a2 ps.length c2, .slice a4 rl.length c4] 75
    rw [size_alloc] at h
    exact h
  clear hq hq2 hr hr2
  go_enter Tryz.func29, Tryz.ntmps29
  go_wp2_with (first
    | (go_at_call 43; (with_reducible refine (HP.out _ HB0.out).mono ?_); rintro e w2 ⟨rfl, hb2⟩; have HB2 := Lib.hid (below_then HB0.out hb2); have hc2 := (HA2.out.below hb2 HA2.out.lt).cell 4; have hc3 := (HA3.out.below hb2 HA3.out.lt).cell 4; clear hb2)
    | (go_at_call 64; (with_reducible refine (HI.out _ HB2.out).mono ?_); rintro e w3 ⟨rfl, hb3⟩; have HB3 := Lib.hid (below_then HB2.out hb3); clear hb3))
  go_ret
  exact ⟨rfl, HB3.out⟩

end Go.Proofs.YtpegbgomnpinfaaGreat

/- Whole numbers: as an argument brings them; lent; whole; spoilt; the same. -/
set_option linter.unusedVariables false
namespace Go.Proofs.YtpegbgomnpinfaaGreat
open Go.RowKit

/-- Whole numbers, as they stand. -/
def ZSeg (w : World) (v : Value) (l : List Int) : Prop :=
  ∃ a cap, v = .slice a l.length cap ∧ ((a = none → l.length = 0 ∧ cap = 0) ∧ l.length ≤ cap) ∧
    (l = [] ∨ ∃ b off, a = some ⟨b, off, none⟩ ∧ b < w.heap.size ∧ ∀ j (h : j < l.length), w.cell? ⟨b, off + j, none⟩ = some (.int .i64 l[j]))
theorem ZSeg.below {w w' : World} {v : Value} {l : List Int} (h : ZSeg w v l) (hb : Below w.heap.size w w') : ZSeg w' v l := by
  obtain ⟨a, cap, hv, hn, h⟩ := h
  refine ⟨a, cap, hv, hn, ?_⟩
  rcases h with h | ⟨b, off, ha, hlt, hc⟩
  · exact .inl h
  · exact .inr ⟨b, off, ha, Nat.lt_of_lt_of_le hlt hb.size, fun j hj => (hb.cell (p := ⟨b, off + j, none⟩) hlt).trans (hc j hj)⟩
theorem ZSeg.shape {w : World} {v : Value} {l : List Int} (h : ZSeg w v l) : ∃ a cap, v = .slice a l.length cap := by
  obtain ⟨a, cap, hv, _⟩ := h
  exact ⟨a, cap, hv⟩
theorem ZSeg.full {w : World} {v : Value} {l : List Int} (h : ZSeg w v l) (hl : 0 < l.length) :
    ∃ b off cap, v = .slice (some ⟨b, off, none⟩) l.length cap ∧ b < w.heap.size ∧ ∀ j (h : j < l.length), w.cell? ⟨b, off + j, none⟩ = some (.int .i64 l[j]) := by
  obtain ⟨a, cap, hv, _, h⟩ := h
  rcases h with rfl | ⟨b, off, rfl, hb, hc⟩
  · simp at hl
  · exact ⟨b, off, cap, hv, hb, hc⟩
theorem ZSeg.cells {w : World} {a : Option Addr} {n cap : Nat} {l : List Int} (h : ZSeg w (.slice a n cap) l) :
    n = l.length ∧ (a = none → l.length = 0 ∧ cap = 0) ∧ ∀ ad, a = some ad → ∀ j u, (l.map (Value.int .i64))[j]? = some u → w.cell? (ad.add j) = some u := by
  obtain ⟨a', cap', hv, hn, h⟩ := h
  simp only [Value.slice.injEq] at hv
  obtain ⟨rfl, rfl, rfl⟩ := hv
  refine ⟨rfl, hn.1, ?_⟩
  intro ad had j u hu
  rcases h with rfl | ⟨b, off, ha, _, hc⟩
  · simp at hu
  · rw [ha] at had
    obtain rfl := Option.some.inj had
    have hj : j < l.length := by
      have := (List.getElem?_eq_some_iff.1 hu).1
      simpa using this
    rw [Addr.add_lit, hc j hj]
    simp [hj] at hu
    rw [hu]
def lentInts (l : List Int) : Array Value := (l.map (Value.int .i64) ++ [Value.int .i64 (-771), Value.int .i64 (-772)]).toArray
/-- Such a slice, lent. -/
def LentZ (w : World) (lo : Nat) (v : Value) (l : List Int) : Prop := ∃ g, lo ≤ g ∧ v = .slice (some ⟨g, 0, none⟩) l.length (l.length + 2) ∧ At w g (lentInts l) 3
theorem LentZ.seg {w : World} {lo : Nat} {v : Value} {l : List Int} (h : LentZ w lo v l) : ZSeg w v l := by
  obtain ⟨g, -, rfl, h⟩ := h
  refine ⟨_, _, rfl, ⟨fun h => by simp at h, by omega⟩, .inr ⟨g, 0, rfl, h.lt, fun j hj => ?_⟩⟩
  rw [h.cell (0 + j), Nat.zero_add]
  simp [lentInts, List.getElem?_append, hj]
theorem LentZ.below {w w' : World} {lo : Nat} {v : Value} {l : List Int} (h : LentZ w lo v l) (hb : Below w.heap.size w w') : LentZ w' lo v l := by
  obtain ⟨g, hg, rfl, h⟩ := h
  exact ⟨g, hg, rfl, h.below hb h.lt⟩
theorem lentInts_mark (l : List Int) : (lentInts l)[l.length]? = some (.int .i64 (-771)) ∧ (lentInts l)[l.length + 1]? = some (.int .i64 (-772)) := by
  constructor <;> simp [lentInts]
theorem zs_one (l : List Int) : ∀ u ∈ l.map (Value.int .i64), u.oneCell' = true := by
  intro u hu
  obtain ⟨x, -, rfl⟩ := List.mem_map.1 hu
  rfl

set_option maxRecDepth 100000 in
set_option maxHeartbeats 1000000 in
theorem lent_zs (v : Value) (l : List Int) (w : World) (hl : l.length ≤ 1000000) (hv : ZSeg w v l) :
    Calls Tryz.prog 100 #[v] w fun e w' => e = .returned (.slice (some ⟨w.heap.size, 0, none⟩) l.length (l.length + 2)) ∧ At w' w.heap.size (lentInts l) 3 ∧ Below w.heap.size w w' := by
  obtain ⟨ao, cap, rfl, hv'⟩ := id hv
  clear hv'
  go_enter Tryz.func100, Tryz.ntmps100
  go_wp2_with (first
    | (refine wpList_make_room rfl _ _ 27 3 1 8 rfl slice_members _ _ _ (l.length + 2) rfl rfl (by omega) (by omega) (by unfold maxLen; omega) ?_; intro w1 hown1 hb1 hlt1; have HC := Lib.hid (hv.below hb1).cells; clear hv)
    | (refine wpList_append_room rfl _ _ 27 3 1 8 rfl slice_members w.heap.size w.heap.size 0 (l.length + 2) [] rfl hown1 ao l.length cap (l.map (Value.int .i64)) rfl (by rw [List.length_map, Nat.mul_one]) HC.out.2.1 HC.out.2.2 (zs_one l) (by omega) ?_; intro w2 hown2 hb2; rw [Nat.zero_add, List.nil_append] at hown2)
    | (refine wpList_append_room rfl _ _ 27 3 1 8 rfl slice_members w.heap.size w.heap.size l.length (l.length + 2) (l.map (Value.int .i64)) rfl (hown2.alloc _) _ 2 2 [Value.int .i64 (-771), Value.int .i64 (-772)] rfl rfl (by intro h; cases h) (fun ad h => by cases h; exact cell_two_new _ _ _ _) (by simp; exact ⟨rfl, rfl⟩) (Nat.le_refl _) ?_; intro w3 hown3 hb3))
  go_ret
  exact ⟨rfl, at_of_owns hown3, ((hb1.trans hb2).alloc (Nat.le_trans hb1.size hb2.size) _).trans hb3⟩

set_option maxRecDepth 100000 in
set_option maxHeartbeats 1000000 in
theorem same_zs (u v : Value) (l m : List Int) (w : World) (hl : l.length ≤ 9223372036854775807) (hm : m.length ≤ 9223372036854775807) (hu : ZSeg w u l) (hv : ZSeg w v m) :
    Calls Tryz.prog 64 #[u, v] w fun e w' => e = .returned (.bool (decide (l = m))) ∧ Below w.heap.size w w' := by
  obtain ⟨a, c, rfl⟩ := hu.shape
  obtain ⟨b, d, rfl⟩ := hv.shape
  by_cases hlen : l.length = m.length
  · have hne : ((l.length : Int) != (m.length : Int)) = false := by simp; omega
    go_enter Tryz.func64, Tryz.ntmps64
    go_wp2_with fail
    go_loopw [5] (fun i wr => ∃ k : Nat, k ≤ l.length ∧ i = .int .i64 k ∧ l.take k = m.take k ∧ Below w.heap.size w wr) (fun i _ => l.length - (intOf i).toNat)
    case atStart => exact ⟨0, Nat.zero_le _, rfl, rfl, Below.refl _ _⟩
    case round =>
      obtain ⟨k, hk, rfl, htake, hbw⟩ := hrel
      have Hlen := Lib.hid hlen
      have Htake := Lib.hid htake
      clear htake hlen
      by_cases hlt : k < l.length
      · have hlt' : k < m.length := by have := Hlen.out; omega
        obtain ⟨b1, o1, c1, e1, hb1, h1⟩ := ZSeg.full (hu.below hbw) (by omega)
        obtain ⟨b2, o2, c2, e2, hb2, h2⟩ := ZSeg.full (hv.below hbw) (by omega)
        simp only [Value.slice.injEq] at e1 e2
        obtain ⟨rfl, _, rfl⟩ := e1
        obtain ⟨rfl, _, rfl⟩ := e2
        have c1 := h1 k hlt
        have c2 := h2 k hlt'
        clear h1 h2 hu hv
        by_cases heq : l[k] = m[k]
        · have hx : ((l[k] : Int) != m[k]) = false := by rw [heq]; simp
          have Hn := Lib.hid (take_eq_succ Htake.out hlt hlt' heq)
          generalize l[k] = x at *
          generalize m[k] = y at *
          clear heq
          go_wp2
          go_quiet (fail)
          go_wp2
          go_roundw
          case rel => exact ⟨k + 1, by omega, by go_num, Hn.out, below_drewN hbw _⟩
          case measure => simp [intOf]; omega
        · have hx : ((l[k] : Int) != m[k]) = true := by simp only [bne_iff_ne, ne_eq]; exact heq
          have Hn := Lib.hid (show decide (l = m) = false from decide_eq_false fun e => heq (by subst e; rfl))
          generalize l[k] = x at *
          generalize m[k] = y at *
          clear heq
          go_wp2
          go_quiet (fail)
          go_wp2
          go_ret
          exact ⟨by rw [Hn.out]; rfl, below_drewN hbw _⟩
      · have Hn := Lib.hid (show decide (l = m) = true from decide_eq_true (by
          have h := Htake.out
          rw [List.take_of_length_le (by omega), List.take_of_length_le (by have := Hlen.out; omega)] at h
          exact h))
        clear hu hv
        go_wp2
        go_ret
        exact ⟨by rw [Hn.out]; rfl, hbw⟩
  · have hne : ((l.length : Int) != (m.length : Int)) = true := by simp; omega
    have Hn := Lib.hid (show decide (l = m) = false from decide_eq_false fun e => hlen (by rw [e]))
    clear hlen hu hv
    go_enter Tryz.func64, Tryz.ntmps64
    go_wp2
    go_ret
    exact ⟨by rw [Hn.out]; rfl, Below.refl _ _⟩


set_option maxRecDepth 100000 in
set_option maxHeartbeats 1000000 in
theorem whole_zs (lo : Nat) (u v : Value) (l : List Int) (w : World) (hl : l.length ≤ 1000000) (hu : LentZ w lo u l) (hv : ZSeg w v l) :
    Calls Tryz.prog 109 #[u, v] w fun e w' => e = .returned (.bool true) ∧ Below w.heap.size w w' := by
  have hcall : Hid (Calls Tryz.prog 64 #[u, v] w fun e w' => e = .returned (.bool true) ∧ Below w.heap.size w w') := (same_zs u v l l w (by omega) (by omega) hu.seg hv).mono fun e w' ⟨x1, x2⟩ => ⟨by rw [x1]; simp, x2⟩
  obtain ⟨g, -, rfl, hat⟩ := hu
  have c1 := (hat.cell l.length).trans (lentInts_mark l).1
  have c2 := (hat.cell (l.length + 1)).trans (lentInts_mark l).2
  obtain ⟨b, d, rfl⟩ := hv.shape
  clear hv hat
  go_enter Tryz.func109, Tryz.ntmps109
  go_wp2_with (go_at_call 64; refine hcall.out.mono ?_; rintro e w' ⟨rfl, hb1⟩)
  go_ret
  exact ⟨rfl, hb1⟩

theorem ZSeg.iseg {w : World} {v : Value} {l : List Nat} (h : ZSeg w v (l.map fun x : Nat => (x : Int))) : ISeg w v l := by
  obtain ⟨a, c, hv, -, h⟩ := h
  rw [List.length_map] at hv
  refine ⟨a, c, hv, ?_⟩
  rcases h with h | ⟨b, o, ha, hlt, hc⟩
  · left; simpa using h
  · refine .inr ⟨b, o, ha, hlt, fun j hj => ?_⟩
    have := hc j (by rw [List.length_map]; exact hj)
    rwa [List.getElem_map] at this
theorem zseg_of_members {w : World} {B : Nat} {v : Value} {l : List Nat} (h : w.ownsRow B 3 1 v l.length (mcells l)) : ZSeg w v (l.map fun x : Nat => (x : Int)) := by
  rcases h.2 with ⟨rfl, h0⟩ | ⟨g, cap, cur, rfl, hb, hg, hc, hm, hs, ht⟩
  · have hl : l = [] := List.eq_nil_of_length_eq_zero (by omega)
    subst hl
    exact ⟨none, 0, rfl, ⟨fun _ => ⟨rfl, rfl⟩, Nat.le_refl _⟩, .inl rfl⟩
  · refine ⟨_, cap, (by rw [List.length_map]), ⟨fun h => (by cases h), (by rw [List.length_map]; exact hc)⟩, ?_⟩
    by_cases hl : l.length = 0
    · left
      rw [List.eq_nil_of_length_eq_zero hl]; rfl
    · obtain ⟨g', cap', hv, hB, hg', hcell, -⟩ := ownsRow_cell h (by omega)
      simp only [Value.slice.injEq, Option.some.injEq, Addr.mk.injEq] at hv
      obtain ⟨⟨rfl, -, -⟩, -, rfl⟩ := hv
      refine .inr ⟨g, 0, rfl, hg', fun j hj => ?_⟩
      rw [List.length_map] at hj
      rw [Nat.zero_add, hcell j hj, mcells_at l j hj, List.getElem_map]
theorem ZSeg.nil (w : World) : ZSeg w (.slice none 0 0) [] := ⟨none, 0, rfl, ⟨fun _ => ⟨rfl, rfl⟩, Nat.le_refl _⟩, .inl rfl⟩

set_option maxRecDepth 100000 in
set_option maxHeartbeats 1000000 in
theorem spoil_zs (g n c : Nat) (cs : Array Value) (w : World) (hc : c ≤ 140737488355328) (hn : n ≤ c) (hat : At w g cs 3) (hs : cs.size = c) :
    Calls Tryz.prog 110 #[.slice (some ⟨g, 0, none⟩) n c] w fun e w' => e = .returned (.tuple #[]) ∧ Chg (fun k => k = g) w w' ∧ ∃ cs', At w' g cs' 3 ∧ cs'.size = c := by
  have HA := Lib.hid hat
  clear hat
  go_enter Tryz.func110, Tryz.ntmps110
  go_wp2
  go_loopw [3] (fun q wx => ∃ k : Nat, k ≤ c ∧ q = .int .i64 k ∧ Chg (fun z => z = g) w wx ∧ ∃ cs', At wx g cs' 3 ∧ cs'.size = c) (fun q _ => c - (intOf q).toNat)
  case atStart => exact ⟨0, by omega, rfl, Chg.refl _ _, cs, HA.out, hs⟩
  case round =>
    obtain ⟨k, hk, rfl, hch, cs', hat, hs'⟩ := hrel
    have HC := Lib.hid hch
    have HA' := Lib.hid hat
    have HS' := Lib.hid hs'
    clear HA hs hch hs'
    by_cases hkc : k < c
    · have K1 : Hid (k + 1 ≤ c) := hkc
      have f0 := hat.free k
      obtain ⟨u, d0⟩ : ∃ u, wr.cell? ⟨g, k, none⟩ = some u := ⟨_, (hat.cell k).trans (Array.getElem?_eq_getElem (by rw [HS'.out]; exact hkc))⟩
      clear hat
      go_wp2
      go_roundw
      case measure => simp [intOf]; omega
      exact ⟨k + 1, K1.out, by go_num, HC.out.trans (Chg.setCell (S := fun z => z = g) (Chg.refl _ _) ⟨g, k, none⟩ (.inl rfl) _), _, HA'.out.set k _, by rw [Array.size_setIfInBounds]; exact HS'.out⟩
    · clear hat
      go_wp2
      go_end0
      exact ⟨rfl, HC.out, cs', HA'.out, HS'.out⟩

set_option maxRecDepth 100000 in
set_option maxHeartbeats 1000000 in
theorem equal_zs (u v : Value) (l m : List Int) (w : World) (hl : l.length ≤ 9223372036854775807) (hm : m.length ≤ 9223372036854775807) (hu : ZSeg w u l) (hv : ZSeg w v m) :
    Calls Tryz.prog 150 #[u, v] w fun e w' => e = .returned (.bool (decide (l = m))) ∧ Below w.heap.size w w' := by
  obtain ⟨a, c, rfl⟩ := hu.shape
  obtain ⟨b, d, rfl⟩ := hv.shape
  by_cases hlen : l.length = m.length
  · have hne : ((l.length : Int) != (m.length : Int)) = false := by simp; omega
    have Hlen := Lib.hid hlen
    clear hlen
    go_enter Tryz.func150, Tryz.ntmps150
    go_wp2_with fail
    go_loopw [13] (fun i wr => ∃ k : Nat, k ≤ l.length ∧ i = .int .i64 k ∧ l.take k = m.take k ∧ Below w.heap.size w wr) (fun i _ => l.length - (intOf i).toNat)
    case atStart => exact ⟨0, Nat.zero_le _, rfl, rfl, Below.refl _ _⟩
    case round =>
      obtain ⟨k, hk, rfl, htake, hbw⟩ := hrel
      have Htake := Lib.hid htake
      clear htake
      by_cases hlt : k < l.length
      · have hlt' : k < m.length := by have := Hlen.out; omega
        obtain ⟨b1, o1, c1, e1, hb1, h1⟩ := ZSeg.full (hu.below hbw) (by omega)
        obtain ⟨b2, o2, c2, e2, hb2, h2⟩ := ZSeg.full (hv.below hbw) (by omega)
        simp only [Value.slice.injEq] at e1 e2
        obtain ⟨rfl, _, rfl⟩ := e1
        obtain ⟨rfl, _, rfl⟩ := e2
        have c1 := h1 k hlt
        have c2 := h2 k hlt'
        clear h1 h2 hu hv
        by_cases heq : l[k] = m[k]
        · have hx : ((l[k] : Int) != m[k]) = false := by rw [heq]; simp
          have Hn := Lib.hid (take_eq_succ Htake.out hlt hlt' heq)
          generalize l[k] = x at *
          generalize m[k] = y at *
          clear heq
          go_wp2
          go_quiet (fail)
          go_wp2
          go_roundw
          case rel => exact ⟨k + 1, by omega, by go_num, Hn.out, below_drewN hbw _⟩
          case measure => simp [intOf]; omega
        · have hx : ((l[k] : Int) != m[k]) = true := by simp only [bne_iff_ne, ne_eq]; exact heq
          have Hn := Lib.hid (show decide (l = m) = false from decide_eq_false fun e => heq (by subst e; rfl))
          generalize l[k] = x at *
          generalize m[k] = y at *
          clear heq
          go_wp2
          go_quiet (fail)
          go_wp2
          go_ret
          exact ⟨by rw [Hn.out]; rfl, below_drewN hbw _⟩
      · have Hn := Lib.hid (show decide (l = m) = true from decide_eq_true (by
          have h := Htake.out
          rw [List.take_of_length_le (by omega), List.take_of_length_le (by have := Hlen.out; omega)] at h
          exact h))
        clear hu hv Htake
        have hkl : k = l.length := by omega
        subst hkl
        go_wp2
        go_ret
        exact ⟨by rw [Hn.out]; rfl, hbw⟩
  · have hne : ((l.length : Int) != (m.length : Int)) = true := by simp; omega
    have Hn := Lib.hid (show decide (l = m) = false from decide_eq_false fun e => hlen (by rw [e]))
    clear hlen hu hv
    go_enter Tryz.func150, Tryz.ntmps150
    go_wp2
    go_ret
    exact ⟨by rw [Hn.out]; rfl, Below.refl _ _⟩

set_option maxRecDepth 100000 in
set_option maxHeartbeats 1000000 in
theorem same_planZ (r md par : Int) (vq vr vq2 vr2 : Value) (ps : List Pat) (rl : List Int) (w : World) (hq : PSeg w vq ps) (hq2 : PSeg w vq2 ps) (hr : ZSeg w vr rl) (hr2 : ZSeg w vr2 rl) (hrl : rl.length ≤ 1000000) :
    Calls Tryz.prog 29 #[.agg #[.int .i64 r, .int .u8 md, .int .i64 par, vq, vr], .agg #[.int .i64 r, .int .u8 md, .int .i64 par, vq2, vr2]] w fun e w' => e = .returned (.bool true) ∧ Below w.heap.size w w' := by
  have HP : Hid (∀ W, Below w.heap.size w W → Calls Tryz.prog 43 #[vq, vq2] W _) := fun W hW => same_pats vq vq2 ps W (hq.below hW) (hq2.below hW)
  have HI : Hid (∀ W, Below w.heap.size w W → Calls Tryz.prog 64 #[vr, vr2] W fun e w' => e = .returned (.bool true) ∧ Below W.heap.size W w') := fun W hW => (same_zs vr vr2 rl rl W (by omega) (by omega) (hr.below hW) (hr2.below hW)).mono fun e w' ⟨x1, x2⟩ => ⟨by rw [x1]; simp, x2⟩
  obtain ⟨a, c, rfl⟩ := hq.shape
  obtain ⟨a2, c2, rfl⟩ := hq2.shape
  obtain ⟨a3, c3, rfl⟩ := hr.shape
  obtain ⟨a4, c4, rfl⟩ := hr2.shape
  have HB0 : Hid (Below w.heap.size w ((w.alloc (.cells #[.int .i64 r, .int .u8 md, .int .i64 par, .slice a ps.length c, .slice a3 rl.length c3] 75)).alloc (.cells #[.int .i64 r, .int .u8 md, .int .i64 par, .slice a2 ps.length c2, .slice a4 rl.length c4] 75))) := ((Below.refl _ _).alloc (Nat.le_refl _) _).alloc (by rw [size_alloc]; omega) _
  have HA2 : Hid (At ((w.alloc (.cells #[.int .i64 r, .int .u8 md, .int .i64 par, .slice a ps.length c, .slice a3 rl.length c3] 75)).alloc (.cells #[.int .i64 r, .int .u8 md, .int .i64 par, .slice a2 ps.length c2, .slice a4 rl.length c4] 75)) w.heap.size #[.int .i64 r, .int .u8 md, .int .i64 par, .slice a ps.length c, .slice a3 rl.length c3] 75) := (At.new w _ _).alloc _
  have HA3 : Hid (At ((w.alloc (.cells #[.int .i64 r, .int .u8 md, .int .i64 par, .slice a ps.length c, .slice a3 rl.length c3] 75)).alloc (.cells #[.int .i64 r, .int .u8 md, .int .i64 par, .slice a2 ps.length c2, .slice a4 rl.length c4] 75)) (w.heap.size + 1) #[.int .i64 r, .int .u8 md, .int .i64 par, .slice a2 ps.length c2, .slice a4 rl.length c4] 75) := by
    have h := At.new (w.alloc (.cells #[.int .i64 r, .int .u8 md, .int .i64 par, .slice a ps.length c, .slice a3 rl.length c3] 75)) #[.int .i64 r, .int .u8 md, .int .i64 par, .slice a2 ps.length c2, .slice a4 rl.length c4] 75
    rw [size_alloc] at h
    exact h
  clear hq hq2 hr hr2
  go_enter Tryz.func29, Tryz.ntmps29
  go_wp2_with (first
    | (go_at_call 43; (with_reducible refine (HP.out _ HB0.out).mono ?_); rintro e w2 ⟨rfl, hb2⟩; have HB2 := Lib.hid (below_then HB0.out hb2); have hc2 := (HA2.out.below hb2 HA2.out.lt).cell 4; have hc3 := (HA3.out.below hb2 HA3.out.lt).cell 4; clear hb2)
    | (go_at_call 64; (with_reducible refine (HI.out _ HB2.out).mono ?_); rintro e w3 ⟨rfl, hb3⟩; have HB3 := Lib.hid (below_then HB2.out hb3); clear hb3))
  go_ret
  exact ⟨rfl, HB3.out⟩

end Go.Proofs.YtpegbgomnpinfaaGreat
