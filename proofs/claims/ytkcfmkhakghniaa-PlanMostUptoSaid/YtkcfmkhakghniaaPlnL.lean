/- plan.Solve: a member's sector of a row, out of all others. -/
import Derived.Test.YtkcfmkhakghniaaPlnB
set_option linter.unusedVariables false
namespace Go.Proofs.Ytkcfmkhakghniaa
open Go.RowKit

/-- The exclusive or of the first n of the texts F, but for the k-th. -/
def xorBut (F : Nat → List UInt8) (k : Nat) : Nat → Nat → UInt8
  | 0, _ => 0
  | n + 1, i => if n = k then xorBut F k n i else xorBut F k n i ^^^ (F n).getD i 0

theorem xorBut_skip (F : Nat → List UInt8) (k : Nat) : xorBut F k (k + 1) = xorBut F k k := by
  funext i
  show (if k = k then _ else _) = _
  rw [if_pos rfl]
theorem xorBut_add (F : Nat → List UInt8) {k n : Nat} (h : n ≠ k) : xorBut F k (n + 1) = fun i => xorBut F k n i ^^^ (F n).getD i 0 := by
  funext i
  show (if n = k then _ else _) = _
  rw [if_neg h]

set_option maxRecDepth 100000 in
set_option maxHeartbeats 4000000 in
theorem plan_Solve (M C S r kk : Nat) (vrd : Value) (ls : List (List UInt8)) (w : World) (hg : geoIs M C S = true) (hr : r < S * C) (hk : kk < M) (hls : Segs w vrd ls) (hlm : ls.length = M) (hl : ∀ m, m < M → m ≠ kk → (ls.getD m []).length = 128) :
    Calls Try.prog 35 #[geo M C S, .int .i64 r, .int .i64 kk, vrd] w fun e w' => ∃ v, e = .returned (.tuple #[v, .int .u16 0]) ∧ w'.ownsRow w.heap.size 5 1 v 128 (ucells (sumL (xorBut (fun m => ls.getD m []) kk M) 128)) ∧ Below w.heap.size w w' := by
  obtain ⟨h1, h2, h3, h4, h5, h6⟩ := (geoIs_iff M C S).1 hg
  have hat := Lib.hid (fun W => geom_at_ok M C S kk r W hg hk hr)
  have hnew := Lib.hid (fun W => xor_new 128 W (by omega))
  simp only [show ((128 : Nat) : Int) = 128 from rfl] at hnew
  have HLS := Lib.hid hls
  have HL := Lib.hid hl
  obtain ⟨sa, sc, hvs⟩ := hls.shape
  rw [hlm] at hvs
  subst hvs
  have hne : ((M : Int) != (M : Int)) = false := by simp
  have hb0 : Below w.heap.size w (w.alloc (.cells #[.int .i64 M, .int .i64 C, .int .i64 S] 23)) := (Below.refl _ _).alloc (Nat.le_refl _) _
  have HG0 : Hid (At (w.alloc (.cells #[.int .i64 M, .int .i64 C, .int .i64 S] 23)) w.heap.size #[.int .i64 M, .int .i64 C, .int .i64 S] 23) := At.new _ _ _
  clear hls hl
  unfold geo at *
  go_enter Try.func35, Try.ntmps35
  go_wp2_with (first
    | (go_at_call 73; (with_reducible refine (hat.out _).mono ?_); rintro e w1 ⟨⟨zb, zp, rfl⟩, hb1⟩; have hg1 := HG0.out.below hb1 HG0.out.lt; have c0 := hg1.cell 0; have HB1 := Lib.hid (below_then hb0 hb1); clear hg1 hb1)
    | (go_at_call 69; (with_reducible refine (hnew.out _).mono ?_); rintro e w7 ⟨g, gb, rfl, hsum, hg1, hg2, hb7⟩; have HS7 := Lib.hid hsum; have HB7 := Lib.hid hb7; clear hsum hb7 c0))
  have HSS := Lib.hid (HLS.out.below HB1.out)
  have hlm' := Lib.hid hlm
  clear HLS hne hat hnew HG0 hb0
  go_loopw [39] (fun t wr => ∃ (k : Nat) (many : Int), k ≤ M ∧ t = .int .i64 k ∧ 0 ≤ many ∧ many ≤ k ∧ SumAt wr g gb 128 (xorBut (fun m => ls.getD m []) kk k) many ∧ Below w1.heap.size w1 wr) (fun t _ => M - (intOf t).toNat)
  case atStart => exact ⟨0, 0, by omega, rfl, by omega, by omega, HS7.out, HB7.out⟩
  case round =>
    obtain ⟨k, many, hk', rfl, hm0, hm1, hs, hbw⟩ := hrel
    have HS := Lib.hid hs
    have HBW := Lib.hid hbw
    clear hs HS7 HB7
    by_cases hkn : k < M
    · have K1 : Hid (k + 1 ≤ M) := hkn
      obtain ⟨sb, so, sc', hve, hslt, hsx⟩ := Segs.full (HSS.out.below hbw) (by omega)
      rw [hlm] at hve
      simp only [Value.slice.injEq, true_and] at hve
      obtain ⟨rfl, rfl⟩ := hve
      obtain ⟨u, d0, hu⟩ := hsx k (by omega)
      have hgl : ls.getD k [] = ls[k]'(by omega) := by rw [List.getD_eq_getElem?_getD, List.getElem?_eq_getElem (by omega)]; rfl
      rw [← hgl] at hu
      obtain ⟨ua, uc, rfl⟩ := hu.shape
      by_cases hkk : k = kk
      · subst hkk
        have hq : ((k : Int) != (k : Int)) = false := by simp
        have hx := Lib.hid (xorBut_skip (fun m => ls.getD m []) k)
        clear hsx hu hgl
        generalize (ls.getD k []).length = un at *
        as_aux_lemma =>
          go_wp2
          refine ⟨⟨k + 1, many, K1.out, by go_num, hm0, by omega, ?_, HBW.out⟩, by simp [intOf]; omega⟩
          rw [hx.out]
          exact HS.out
      · have hq : ((k : Int) != (kk : Int)) = true := by simp; omega
        have hx := Lib.hid (xorBut_add (fun m => ls.getD m []) hkk)
        have hl128 := HL.out k hkn hkk
        obtain ⟨b6, o6, c6, hv6, hb6⟩ : ∃ b6 o6 c6, (Value.slice ua (ls.getD k []).length uc) = .slice (some ⟨b6, o6, none⟩) (ls.getD k []).length c6 ∧ b6 < w1.heap.size := by
          obtain ⟨sb', so', sc'', hve', hslt', hsx'⟩ := Segs.full HSS.out (by omega)
          simp only [Value.slice.injEq, Option.some.injEq, Addr.mk.injEq, and_true] at hve'
          obtain ⟨⟨rfl, rfl⟩, -, rfl⟩ := hve'
          obtain ⟨u', e1, e2⟩ := hsx' k (by omega)
          have e3 := (hbw.cell (p := ⟨sb, so + k, none⟩) hslt').trans e1
          rw [d0] at e3
          simp only [Option.some.injEq] at e3
          rw [← e3, ← hgl] at e2
          obtain ⟨b6, o6, c6, h1, h2, -⟩ := Seg.full e2 (by omega)
          exact ⟨b6, o6, c6, h1, h2⟩
        simp only [Value.slice.injEq, true_and] at hv6
        obtain ⟨rfl, rfl⟩ := hv6
        have hAdd := Lib.hid (xor_add g gb 128 _ many (.slice (some ⟨b6, o6, none⟩) (ls.getD k []).length uc) (ls.getD k []) wr HS.out (by omega) hu hl128 (fun a q c hv => by simp only [Value.slice.injEq, Option.some.injEq] at hv; rw [← hv.1]; show b6 ≠ gb; omega) (by omega) (by omega))
        rw [hl128] at d0 hAdd
        clear hsx hu hgl
        as_aux_lemma =>
          go_wp2_with (go_at_call 70; (with_reducible refine hAdd.out.mono ?_); rintro e w8 ⟨rfl, hs8, hc8⟩)
          refine ⟨⟨k + 1, many + 1, K1.out, by go_num, by omega, by omega, ?_, Chg.own HBW.out hc8 (fun q hq => by rcases hq with rfl | rfl <;> assumption)⟩, by simp [intOf]; omega⟩
          rw [hx.out]
          exact hs8
    · obtain rfl : k = M := by omega
      have hxv := Lib.hid (xor_value g gb 128 _ _ wr HS.out (by omega))
      go_wp2_with (go_at_call 48; (with_reducible refine hxv.out.mono ?_); rintro e w9 ⟨v, rfl, hv, hb9⟩)
      go_ret2
      have hbb := below_then HB1.out HBW.out
      exact ⟨v, rfl, rebase_row hv hbb.size, below_then hbb hb9⟩

end Go.Proofs.Ytkcfmkhakghniaa
