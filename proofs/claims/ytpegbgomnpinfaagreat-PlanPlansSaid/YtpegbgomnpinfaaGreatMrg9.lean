/- Several texts in one: PlzA, PlnL. -/
import Derived.Test.YtpegbgomnpinfaaGreatPlnO
import Derived.Test.YtpegbgomnpinfaaGreatMrg5
import Derived.Test.YtpegbgomnpinfaaGreatDiskB
import Derived.Test.YtpegbgomnpinfaaGreatMrg6
/- What is lent: bytes, with marks behind; whole; spoilt. -/
set_option linter.unusedVariables false
namespace Go.Proofs.YtpegbgomnpinfaaGreat
open Go.RowKit

def lentCells (l : List UInt8) : Array Value := (ucells l ++ [Value.int .u8 91, Value.int .u8 92]).toArray

/-- Such a slice, lent, in a block from lo on: its two marks stand behind. -/
def Lent (w : World) (lo : Nat) (v : Value) (l : List UInt8) : Prop := ∃ g, lo ≤ g ∧ v = .slice (some ⟨g, 0, none⟩) l.length (l.length + 2) ∧ At w g (lentCells l) 5

theorem Lent.seg {w : World} {lo : Nat} {v : Value} {l : List UInt8} (h : Lent w lo v l) : Seg w v l := by
  obtain ⟨g, -, rfl, h⟩ := h
  refine ⟨_, _, rfl, ⟨fun h => by simp at h, by omega⟩, .inr ⟨g, 0, rfl, h.lt, fun j hj => ?_⟩⟩
  rw [h.cell (0 + j), Nat.zero_add]
  simp [lentCells, ucells, List.getElem?_append, hj]
theorem Lent.below {w w' : World} {lo : Nat} {v : Value} {l : List UInt8} (h : Lent w lo v l) (hb : Below w.heap.size w w') : Lent w' lo v l := by
  obtain ⟨g, hg, rfl, h⟩ := h
  exact ⟨g, hg, rfl, h.below hb h.lt⟩
theorem Lent.mod {S : Nat → Prop} {w w' : World} {lo : Nat} {v : Value} {l : List UInt8} (h : Lent w lo v l) (hc : Chg S w w') (hS : ∀ g, v.ownBlock = some g → ¬ S g) : Lent w' lo v l := by
  obtain ⟨g, hg, rfl, h⟩ := h
  exact ⟨g, hg, rfl, h.mod hc (hS g rfl)⟩
theorem Lent.lower {w : World} {lo lo' : Nat} {v : Value} {l : List UInt8} (h : Lent w lo v l) (hl : lo' ≤ lo) : Lent w lo' v l := by
  obtain ⟨g, hg, rfl, h⟩ := h
  exact ⟨g, Nat.le_trans hl hg, rfl, h⟩
theorem Lent.block {w : World} {lo : Nat} {v : Value} {l : List UInt8} (h : Lent w lo v l) {g : Nat} (hv : v.ownBlock = some g) : ∃ cs, At w g cs 5 := by
  obtain ⟨g', hg, rfl, h⟩ := h
  obtain rfl : g' = g := by simpa [Value.ownBlock] using hv
  exact ⟨_, h⟩
theorem lentCells_mark (l : List UInt8) : (lentCells l)[l.length]? = some (.int .u8 91) ∧ (lentCells l)[l.length + 1]? = some (.int .u8 92) := by
  constructor <;> simp [lentCells, ucells]
theorem lentCells_size (l : List UInt8) : (lentCells l).size = l.length + 2 := by simp [lentCells, ucells]

set_option maxRecDepth 100000 in
set_option maxHeartbeats 1000000 in
theorem lent_bytes (v : Value) (l : List UInt8) (w : World) (hl : l.length ≤ 140737488355000) (hv : Seg w v l) :
    Calls Tryz.prog 83 #[v] w fun e w' => e = .returned (.slice (some ⟨w.heap.size, 0, none⟩) l.length (l.length + 2)) ∧ At w' w.heap.size (lentCells l) 5 ∧ Below w.heap.size w w' := by
  obtain ⟨ao, cap, rfl, hv'⟩ := id hv
  clear hv'
  go_enter Tryz.func83, Tryz.ntmps83
  go_wp2_with (first
    | (refine wpList_make_room rfl _ _ 53 5 1 1 rfl slice_bytes _ _ _ (l.length + 2) rfl rfl (by omega) (by omega) (by unfold maxLen; omega) ?_; intro w1 hown1 hb1 hlt1; have HC := Lib.hid (hv.below hb1).cells; clear hv)
    | (refine wpList_append_room rfl _ _ 53 5 1 1 rfl slice_bytes w.heap.size w.heap.size 0 (l.length + 2) [] rfl hown1 ao l.length cap (ucells l) rfl (by rw [ucells_length, Nat.mul_one]) HC.out.2.1 HC.out.2.2 (ucells_one l) (by omega) ?_; intro w2 hown2 hb2; rw [Nat.zero_add, List.nil_append] at hown2)
    | (refine wpList_append_room rfl _ _ 53 5 1 1 rfl slice_bytes w.heap.size w.heap.size l.length (l.length + 2) (ucells l) rfl (hown2.alloc _) _ 2 2 [Value.int .u8 91, Value.int .u8 92] rfl rfl (by intro h; cases h) (fun ad h => by cases h; exact cell_two_new _ _ _ _) (by simp; exact ⟨rfl, rfl⟩) (Nat.le_refl _) ?_; intro w3 hown3 hb3))
  go_ret
  exact ⟨rfl, at_of_owns hown3, ((hb1.trans hb2).alloc (Nat.le_trans hb1.size hb2.size) _).trans hb3⟩

set_option maxRecDepth 100000 in
set_option maxHeartbeats 1000000 in
theorem whole_bytes (lo : Nat) (u v : Value) (l : List UInt8) (w : World) (hl : l.length ≤ 140737488355000) (hu : Lent w lo u l) (hv : Seg w v l) :
    Calls Tryz.prog 90 #[u, v] w fun e w' => e = .returned (.bool true) ∧ Below w.heap.size w w' := by
  have hcall : Hid (Calls Tryz.prog 17 #[u, v] w fun e w' => e = .returned (.bool true) ∧ Below w.heap.size w w') := (same_any u v l l w (by omega) (by omega) hu.seg hv).mono fun e w' ⟨x1, x2⟩ => ⟨by rw [x1]; simp, x2⟩
  obtain ⟨g, -, rfl, hat⟩ := hu
  have c1 := (hat.cell l.length).trans (lentCells_mark l).1
  have c2 := (hat.cell (l.length + 1)).trans (lentCells_mark l).2
  obtain ⟨b, d, rfl⟩ := hv.shape
  clear hv hat
  go_enter Tryz.func90, Tryz.ntmps90
  go_wp2_with (go_at_call 17; refine hcall.out.mono ?_; rintro e w' ⟨rfl, hb1⟩)
  go_ret
  exact ⟨rfl, hb1⟩

set_option maxRecDepth 100000 in
set_option maxHeartbeats 1000000 in
theorem spoil_bytes (g n c : Nat) (cs : Array Value) (w : World) (hc : c ≤ 140737488355328) (hn : n ≤ c) (hat : At w g cs 5) (hs : cs.size = c) :
    Calls Tryz.prog 92 #[.slice (some ⟨g, 0, none⟩) n c] w fun e w' => e = .returned (.tuple #[]) ∧ Chg (fun k => k = g) w w' ∧ ∃ cs', At w' g cs' 5 ∧ cs'.size = c := by
  have HA := Lib.hid hat
  clear hat
  go_enter Tryz.func92, Tryz.ntmps92
  go_wp2
  go_loopw [3] (fun q wx => ∃ k : Nat, k ≤ c ∧ q = .int .i64 k ∧ Chg (fun z => z = g) w wx ∧ ∃ cs', At wx g cs' 5 ∧ cs'.size = c) (fun q _ => c - (intOf q).toNat)
  case atStart => exact ⟨0, by omega, rfl, Chg.refl _ _, cs, HA.out, hs⟩
  case round =>
    obtain ⟨k, hk, rfl, hch, cs', hat, hs'⟩ := hrel
    have HC := Lib.hid hch
    have HA' := Lib.hid hat
    have HS' := Lib.hid hs'
    clear HA hs hch hs'
    by_cases hkc : k < c
    · have K1 : Hid (k + 1 ≤ c) := hkc
      have f0 := hat.free k
      obtain ⟨u, d0⟩ : ∃ u, wr.cell? ⟨g, k, none⟩ = some u := ⟨_, (hat.cell k).trans (Array.getElem?_eq_getElem (by rw [HS'.out]; exact hkc))⟩
      clear hat
      go_wp2
      go_roundw
      case measure => simp [intOf]; omega
      exact ⟨k + 1, K1.out, by go_num, HC.out.trans (Chg.setCell (S := fun z => z = g) (Chg.refl _ _) ⟨g, k, none⟩ (.inl rfl) _), _, HA'.out.set k _, by rw [Array.size_setIfInBounds]; exact HS'.out⟩
    · clear hat
      go_wp2
      go_end0
      exact ⟨rfl, HC.out, cs', HA'.out, HS'.out⟩

end Go.Proofs.YtpegbgomnpinfaaGreat

/- plan.Solve: a member's sector of a row, out of all others. -/
set_option linter.unusedVariables false
namespace Go.Proofs.YtpegbgomnpinfaaGreat
open Go.RowKit

/-- The exclusive or of the first n of the texts F, but for the k-th. -/
def xorBut (F : Nat → List UInt8) (k : Nat) : Nat → Nat → UInt8
  | 0, _ => 0
  | n + 1, i => if n = k then xorBut F k n i else xorBut F k n i ^^^ (F n).getD i 0

theorem xorBut_skip (F : Nat → List UInt8) (k : Nat) : xorBut F k (k + 1) = xorBut F k k := by
  funext i
  show (if k = k then _ else _) = _
  rw [if_pos rfl]
theorem xorBut_add (F : Nat → List UInt8) {k n : Nat} (h : n ≠ k) : xorBut F k (n + 1) = fun i => xorBut F k n i ^^^ (F n).getD i 0 := by
  funext i
  show (if n = k then _ else _) = _
  rw [if_neg h]

set_option maxRecDepth 100000 in
set_option maxHeartbeats 4000000 in
theorem plan_Solve (M C S r kk : Nat) (vrd : Value) (ls : List (List UInt8)) (w : World) (hg : geoIs M C S = true) (hr : r < S * C) (hk : kk < M) (hls : Segs w vrd ls) (hlm : ls.length = M) (hl : ∀ m, m < M → m ≠ kk → (ls.getD m []).length = 128) :
    Calls Tryz.prog 34 #[geo M C S, .int .i64 r, .int .i64 kk, vrd] w fun e w' => ∃ v, e = .returned (.tuple #[v, .int .u16 0]) ∧ w'.ownsRow w.heap.size 5 1 v 128 (ucells (sumL (xorBut (fun m => ls.getD m []) kk M) 128)) ∧ Below w.heap.size w w' := by
  obtain ⟨h1, h2, h3, h4, h5, h6⟩ := (geoIs_iff M C S).1 hg
  have hat := Lib.hid (fun W => geom_at_ok M C S kk r W hg hk hr)
  have hnew := Lib.hid (fun W => xor_new 128 W (by omega))
  simp only [show ((128 : Nat) : Int) = 128 from rfl] at hnew
  have HLS := Lib.hid hls
  have HL := Lib.hid hl
  obtain ⟨sa, sc, hvs⟩ := hls.shape
  rw [hlm] at hvs
  subst hvs
  have hne : ((M : Int) != (M : Int)) = false := by simp
  have hb0 : Below w.heap.size w (w.alloc (.cells #[.int .i64 M, .int .i64 C, .int .i64 S] 23)) := (Below.refl _ _).alloc (Nat.le_refl _) _
  have HG0 : Hid (At (w.alloc (.cells #[.int .i64 M, .int .i64 C, .int .i64 S] 23)) w.heap.size #[.int .i64 M, .int .i64 C, .int .i64 S] 23) := At.new _ _ _
  clear hls hl
  unfold geo at *
  go_enter Tryz.func34, Tryz.ntmps34
  go_wp2_with (first
    | (go_at_call 108; (with_reducible refine (hat.out _).mono ?_); rintro e w1 ⟨⟨zb, zp, rfl⟩, hb1⟩; have hg1 := HG0.out.below hb1 HG0.out.lt; have c0 := hg1.cell 0; have HB1 := Lib.hid (below_then hb0 hb1); clear hg1 hb1)
    | (go_at_call 103; (with_reducible refine (hnew.out _).mono ?_); rintro e w7 ⟨g, gb, rfl, hsum, hg1, hg2, hb7⟩; have HS7 := Lib.hid hsum; have HB7 := Lib.hid hb7; clear hsum hb7 c0))
  have HSS := Lib.hid (HLS.out.below HB1.out)
  have hlm' := Lib.hid hlm
  clear HLS hne hat hnew HG0 hb0
  go_loopw [39] (fun t wr => ∃ (k : Nat) (many : Int), k ≤ M ∧ t = .int .i64 k ∧ 0 ≤ many ∧ many ≤ k ∧ SumAt wr g gb 128 (xorBut (fun m => ls.getD m []) kk k) many ∧ Below w1.heap.size w1 wr) (fun t _ => M - (intOf t).toNat)
  case atStart => exact ⟨0, 0, by omega, rfl, by omega, by omega, HS7.out, HB7.out⟩
  case round =>
    obtain ⟨k, many, hk', rfl, hm0, hm1, hs, hbw⟩ := hrel
    have HS := Lib.hid hs
    have HBW := Lib.hid hbw
    clear hs HS7 HB7
    by_cases hkn : k < M
    · have K1 : Hid (k + 1 ≤ M) := hkn
      obtain ⟨sb, so, sc', hve, hslt, hsx⟩ := Segs.full (HSS.out.below hbw) (by omega)
      rw [hlm] at hve
      simp only [Value.slice.injEq, true_and] at hve
      obtain ⟨rfl, rfl⟩ := hve
      obtain ⟨u, d0, hu⟩ := hsx k (by omega)
      have hgl : ls.getD k [] = ls[k]'(by omega) := by rw [List.getD_eq_getElem?_getD, List.getElem?_eq_getElem (by omega)]; rfl
      rw [← hgl] at hu
      obtain ⟨ua, uc, rfl⟩ := hu.shape
      by_cases hkk : k = kk
      · subst hkk
        have hq : ((k : Int) != (k : Int)) = false := by simp
        have hx := Lib.hid (xorBut_skip (fun m => ls.getD m []) k)
        clear hsx hu hgl
        generalize (ls.getD k []).length = un at *
        as_aux_lemma =>
          go_wp2
          refine ⟨⟨k + 1, many, K1.out, by go_num, hm0, by omega, ?_, HBW.out⟩, by simp [intOf]; omega⟩
          rw [hx.out]
          exact HS.out
      · have hq : ((k : Int) != (kk : Int)) = true := by simp; omega
        have hx := Lib.hid (xorBut_add (fun m => ls.getD m []) hkk)
        have hl128 := HL.out k hkn hkk
        obtain ⟨b6, o6, c6, hv6, hb6⟩ : ∃ b6 o6 c6, (Value.slice ua (ls.getD k []).length uc) = .slice (some ⟨b6, o6, none⟩) (ls.getD k []).length c6 ∧ b6 < w1.heap.size := by
          obtain ⟨sb', so', sc'', hve', hslt', hsx'⟩ := Segs.full HSS.out (by omega)
          simp only [Value.slice.injEq, Option.some.injEq, Addr.mk.injEq, and_true] at hve'
          obtain ⟨⟨rfl, rfl⟩, -, rfl⟩ := hve'
          obtain ⟨u', e1, e2⟩ := hsx' k (by omega)
          have e3 := (hbw.cell (p := ⟨sb, so + k, none⟩) hslt').trans e1
          rw [d0] at e3
          simp only [Option.some.injEq] at e3
          rw [← e3, ← hgl] at e2
          obtain ⟨b6, o6, c6, h1, h2, -⟩ := Seg.full e2 (by omega)
          exact ⟨b6, o6, c6, h1, h2⟩
        simp only [Value.slice.injEq, true_and] at hv6
        obtain ⟨rfl, rfl⟩ := hv6
        have hAdd := Lib.hid (xor_add g gb 128 _ many (.slice (some ⟨b6, o6, none⟩) (ls.getD k []).length uc) (ls.getD k []) wr HS.out (by omega) hu hl128 (fun a q c hv => by simp only [Value.slice.injEq, Option.some.injEq] at hv; rw [← hv.1]; show b6 ≠ gb; omega) (by omega) (by omega))
        rw [hl128] at d0 hAdd
        clear hsx hu hgl
        as_aux_lemma =>
          go_wp2_with (go_at_call 104; (with_reducible refine hAdd.out.mono ?_); rintro e w8 ⟨rfl, hs8, hc8⟩)
          refine ⟨⟨k + 1, many + 1, K1.out, by go_num, by omega, by omega, ?_, Chg.own HBW.out hc8 (fun q hq => by rcases hq with rfl | rfl <;> assumption)⟩, by simp [intOf]; omega⟩
          rw [hx.out]
          exact hs8
    · obtain rfl : k = M := by omega
      have hxv := Lib.hid (xor_value g gb 128 _ _ wr HS.out (by omega))
      go_wp2_with (go_at_call 105; (with_reducible refine hxv.out.mono ?_); rintro e w9 ⟨v, rfl, hv, hb9⟩)
      go_ret2
      have hbb := below_then HB1.out HBW.out
      exact ⟨v, rfl, rebase_row hv hbb.size, below_then hbb hb9⟩

end Go.Proofs.YtpegbgomnpinfaaGreat
