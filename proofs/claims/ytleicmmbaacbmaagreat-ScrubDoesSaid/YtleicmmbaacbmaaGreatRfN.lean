/- The document's scrub: Mend. -/
import Derived.Test.YtleicmmbaacbmaaGreatRfM
set_option linter.unusedVariables false
namespace Go.Proofs.YtleicmmbaacbmaaGreat
open Go.RowKit

/-- Where the document's Mend stands. -/
structure RMendAt (w : World) (R : Nat → Prop) (b n tb : Nat) (M C S : Int) (s : BaySt) (R' : Nat → Prop) (x y : Int) (wx : World) : Prop where
  bay : RBayAt wx R' b s
  inR : ∀ q, R' q → R q ∨ w.heap.size + n ≤ q
  box : At wx w.heap.size #[.int .i64 M, .int .i64 C, .int .i64 S] 23
  res : At wx (w.heap.size + 1) #[.int .i64 0, .int .u16 0] 72
  tv : At wx tb #[.int .i64 x, .int .u16 y] 72
  tb1 : w.heap.size + 2 ≤ tb
  tb2 : tb < w.heap.size + n
  chg : Chg R w wx
  size : w.heap.size + n ≤ wx.heap.size

theorem RMendAt.below {w wx w2 : World} {R R' : Nat → Prop} {b n tb : Nat} {M C S : Int} {s : BaySt} {x y : Int} (h : RMendAt w R b n tb M C S s R' x y wx) (hb : Below wx.heap.size wx w2) : RMendAt w R b n tb M C S s R' x y w2 :=
  ⟨h.bay.below hb, h.inR, h.box.below hb h.box.lt, h.res.below hb h.res.lt, h.tv.below hb h.tv.lt, h.tb1, h.tb2, h.chg.trans (Chg.ofBelow hb R), Nat.le_trans h.size hb.size⟩
theorem RMendAt.did {w wx w2 : World} {R R' R2 : Nat → Prop} {b n tb : Nat} {M C S : Int} {s s2 : BaySt} {x y : Int} (h : RMendAt w R b n tb M C S s R' x y wx) (hlt : ∀ q, R q → q < w.heap.size) (k1 : RBayAt w2 R2 b s2) (k2 : ∀ q, R2 q → R' q ∨ wx.heap.size ≤ q) (k3 : Chg R' wx w2) : RMendAt w R b n tb M C S s2 R2 x y w2 := by
  have hs := h.size
  have t1 := h.tb1
  have t2 := h.tb2
  have hno : ∀ q, q < w.heap.size + n → w.heap.size ≤ q → ¬ R' q := fun q h1 h2 h3 => by
    rcases h.inR q h3 with e | e
    · have := hlt q e; omega
    · omega
  refine ⟨k1, fun q hq => ?_, h.box.mod k3 (hno _ (by omega) (by omega)), h.res.mod k3 (hno _ (by omega) (by omega)), h.tv.mod k3 (hno _ (by omega) (by omega)), t1, t2, chg_and h.chg k3 (fun q hq e => (h.inR q e).resolve_right (by omega)), Nat.le_trans hs k3.size⟩
  rcases k2 q hq with e | e
  · exact h.inR q e
  · exact .inr (by omega)
/-- .. trouble is put into t. -/
theorem RMendAt.put {w wx : World} {R R' : Nat → Prop} {b n tb : Nat} {M C S : Int} {s : BaySt} {x y : Int} (h : RMendAt w R b n tb M C S s R' x y wx) (hlt : ∀ q, R q → q < w.heap.size) (x' y' : Int) :
    RMendAt w R b n tb M C S s R' x' y' ((wx.setCell ⟨tb, 0, none⟩ (.int .i64 x')).setCell ⟨tb, 1, none⟩ (.int .u16 y')) ∧ Chg (fun q => q = tb) wx ((wx.setCell ⟨tb, 0, none⟩ (.int .i64 x')).setCell ⟨tb, 1, none⟩ (.int .u16 y')) := by
  obtain ⟨-, -, hc⟩ := trouble_set h.tv (.int .i64 x') (.int .u16 y')
  have t1 := h.tb1
  have t2 := h.tb2
  refine ⟨⟨h.bay.keep hc (fun q hq e => ?_), h.inR, h.box.mod hc (by omega), h.res.mod hc (by omega), (h.tv.set 0 (.int .i64 x')).set 1 (.int .u16 y'), t1, t2, chg_and h.chg hc (fun q hq e => by omega), Nat.le_trans h.size hc.size⟩, hc⟩
  subst e
  rcases h.inR q hq with e' | e'
  · have := hlt q e'; omega
  · omega
theorem RMendAt.end {w wx w2 : World} {R R' : Nat → Prop} {b n tb : Nat} {M C S : Int} {s : BaySt} {x y : Int} (h : RMendAt w R b n tb M C S s R' x y wx) (hlt : ∀ q, R q → q < w.heap.size) (hc : Chg (fun q => q = w.heap.size + 1) wx w2) : RBPost w R b s w2 := by
  have t1 := h.tb1
  have t2 := h.tb2
  refine ⟨R', h.bay.keep hc (fun q hq e => ?_), fun q hq => (h.inR q hq).imp id (fun e => by omega), chg_and h.chg hc (fun q hq e => by omega)⟩
  rcases h.inR q hq with e' | e'
  · have := hlt q e'; omega
  · omega

set_option maxRecDepth 100000 in
set_option maxHeartbeats 4000000 in
theorem ref_mend_no {w : World} {R : Nat → Prop} {b : Nat} {st : BaySt} (h : RBayAt w R b st) (m c s row : Int) (cd : Int) (hcd : mayCode st.n m c s 0 row = cd) (h0 : cd ≠ 0) :
    Calls Tryz.prog 27 #[.pointer (some ⟨b, 0, none⟩), geo m c s, .int .i64 row] w fun e w' =>
      e = .returned (.agg #[.int .i64 0, .int .u16 cd]) ∧ Below w.heap.size w w' := by
  have HF : Hid (∀ W, Below w.heap.size w W → Calls Tryz.prog 68 #[.pointer (some ⟨b, 0, none⟩), geo m c s, .int .i64 0, .int .i64 row] W fun e w' => e = .returned (.agg #[.int .i64 0, .int .u16 cd]) ∧ Below W.heap.size W w') := fun W hW => by
    have := ref_first (h.below hW) m c s 0 row
    rw [hcd] at this
    exact this
  have e1 : (w.alloc (ObjG m c s)).heap.size = w.heap.size + 1 := size_alloc _ _
  have e2 : ((w.alloc (ObjG m c s)).alloc (ObjT 0 0)).heap.size = w.heap.size + 2 := by rw [size_alloc, e1]
  have HB0 : Hid (Below w.heap.size w ((w.alloc (ObjG m c s)).alloc (ObjT 0 0))) := ((Below.refl _ _).alloc (Nat.le_refl _) _).alloc (by omega) _
  have HA : Hid (At ((w.alloc (ObjG m c s)).alloc (ObjT 0 0)) w.heap.size #[.int .i64 m, .int .i64 c, .int .i64 s] 23) := (At.new _ _ _).alloc _
  have HR : Hid (At ((w.alloc (ObjG m c s)).alloc (ObjT 0 0)) (w.heap.size + 1) #[.int .i64 0, .int .u16 0] 72) := At.new2 _ _ _ _
  have x0 := HA.out.cell 0
  have x1 := HA.out.cell 1
  have x2 := HA.out.cell 2
  have hne : (cd != 0) = true := by simp [h0]
  clear h hcd
  unfold ObjG ObjT geo at *
  go_enter Tryz.func27, Tryz.ntmps27
  go_wp2_with (first
    | (go_at_call 68; (with_reducible refine (HF.out _ HB0.out).mono ?_); rintro e w1 ⟨rfl, hb1⟩; have hR1 := HR.out.below hb1 HR.out.lt; have hR2 := hR1.alloc (.cells #[.int .i64 0, .int .u16 cd] 72); have hT2 := At.new w1 #[.int .i64 0, .int .u16 cd] 72; have d0 := hR2.cell 0; have d1 := hR2.cell 1; have f0 := hR2.free 0; have f1 := hR2.free 1; have y0 := hT2.cell 0; have y1 := hT2.cell 1; have HB1 : Hid (Below w.heap.size w (w1.alloc (.cells #[.int .i64 0, .int .u16 cd] 72))) := (HB0.out.trans (hb1.mono (by rw [e2]; omega))).alloc (by have := hb1.size; omega) _; have HR2 := Lib.hid hR2; have HLE : Hid (w.heap.size + 2 ≤ w1.heap.size) := by { have := hb1.size; rw [e2] at this; exact this }; clear hb1 hR1 hR2 hT2 x0 x1 x2))
  obtain ⟨r0, r1, hset⟩ := trouble_set HR2.out (.int .i64 0) (.int .u16 cd)
  clear d0 d1 f0 f1 y0 y1
  (try simp only [Exit.inBlock, Exit.then])
  refine bodyPost_ret (v := .agg #[.int .i64 0, .int .u16 cd]) ?_ rfl ⟨rfl, (trouble_below HB1.out (by omega) _ _)⟩
  rw [results_cell rfl]
  go_simp

set_option maxRecDepth 100000 in
set_option maxHeartbeats 8000000 in
theorem ref_mend {w : World} {R : Nat → Prop} {b : Nat} {st : BaySt} (h : RBayAt w R b st) (M C S r : Nat) (hg : geoIs M C S = true) (hn : st.n = M + 1) (hr : r < S * C)
    (hcnt : st.cnt 0 ≤ 999999000000) (hcnt1 : st.cnt 1 ≤ 999999000000) (hcnt2 : st.cnt 2 ≤ 999999000000) (hsm : st.small 999999) :
    Calls Tryz.prog 27 #[.pointer (some ⟨b, 0, none⟩), geo M C S, .int .i64 r] w fun e w' =>
      e = .returned (trVal (st.mend M (parOf M C r) r).1) ∧ RBPost w R b (st.mend M (parOf M C r) r).2 w' := by
  obtain ⟨g1, g2, g3, g4, g5, g6⟩ := (geoIs_iff M C S).1 hg
  have hrr : (r : Int) < (S : Int) * (C : Int) := by exact_mod_cast hr
  have hbd := geo_bounds hg
  have hr4 : r ≤ 4096 := by omega
  have hsm' : st.small 1000000 := fun i hi x hx => Nat.le_succ_of_le (hsm i hi x hx)
  have hcode0 : mayCode st.n M C S 0 r = 0 := by
    unfold mayCode
    rw [if_pos hg, if_pos (by rw [hn]; omega), if_pos ⟨by omega, by omega, by omega, hrr⟩]
  have HLT := Lib.hid h.lt
  have HB := Lib.hid h
  have HF : Hid (∀ W, Below w.heap.size w W → Calls Tryz.prog 68 #[.pointer (some ⟨b, 0, none⟩), geo M C S, .int .i64 0, .int .i64 r] W fun e w' => e = .returned (.agg #[.int .i64 0, .int .u16 0]) ∧ Below W.heap.size W w') := fun W hW => by
    have := ref_first (h.below hW) M C S 0 r
    rw [hcode0] at this
    exact this
  have hpar := Lib.hid (fun W => ref_parity M C S r W hg hr)
  have hpl : parOf M C r < M := parOf_lt (by omega)
  generalize parOf M C r = p at *
  have hrd := hand_reads st (1 + r) p M
  have hwt := write_went (st.hand (1 + r) p M).s p (1 + r) (sumL (st.hand (1 + r) p M).f 128)
  have HSM : Hid (∀ W R', RBayAt W R' b st → Calls Tryz.prog 69 #[.pointer (some ⟨b, 0, none⟩), geo M C S, .int .i64 r, .int .i64 p] W fun e w' => ∃ q, e = .returned (.tuple #[q, trVal (st.hand (1 + r) p M).t]) ∧ lostVal (st.hand (1 + r) p M) q w' W.heap.size ∧ RBPostV W R' b (st.hand (1 + r) p M).s q w') := fun W R' hW => ref_sumV hW M C S r p (by omega) hr4 hcnt
  have hcode := Lib.hid (hand_code st (1 + r) p M)
  have HWC : Hid ((st.hand (1 + r) p M).s.cnt 1 ≤ 1000000000000 ∧ (st.hand (1 + r) p M).s.small 1000000) := ⟨by rw [hrd.c1]; omega, hrd.small _ hsm'⟩
  have HFC : Hid (((st.hand (1 + r) p M).s.write p (1 + r) (sumL (st.hand (1 + r) p M).f 128)).2.cnt 2 ≤ 1000000000000) := by
    have h1 := hwt.rest 2 (by omega)
    have h2 := hrd.c2
    show _ ≤ _
    rw [h1, h2]
    omega
  have HWL := Lib.hid (write_code_lt (st.hand (1 + r) p M).s p (1 + r) (sumL (st.hand (1 + r) p M).f 128))
  have HFL := Lib.hid (flush_code_lt ((st.hand (1 + r) p M).s.write p (1 + r) (sumL (st.hand (1 + r) p M).f 128)).2 p)
  have e1 : (w.alloc (ObjG M C S)).heap.size = w.heap.size + 1 := size_alloc _ _
  have e2 : ((w.alloc (ObjG M C S)).alloc (ObjT 0 0)).heap.size = w.heap.size + 2 := by rw [size_alloc, e1]
  have HB0 : Hid (Below w.heap.size w ((w.alloc (ObjG M C S)).alloc (ObjT 0 0))) := ((Below.refl _ _).alloc (Nat.le_refl _) _).alloc (by omega) _
  have HA : Hid (At ((w.alloc (ObjG M C S)).alloc (ObjT 0 0)) w.heap.size #[.int .i64 M, .int .i64 C, .int .i64 S] 23) := (At.new _ _ _).alloc _
  have HR : Hid (At ((w.alloc (ObjG M C S)).alloc (ObjT 0 0)) (w.heap.size + 1) #[.int .i64 0, .int .u16 0] 72) := At.new2 _ _ _ _
  have HST : Hid (∀ w1, Below ((w.alloc (ObjG M C S)).alloc (ObjT 0 0)).heap.size ((w.alloc (ObjG M C S)).alloc (ObjT 0 0)) w1 → ∃ n, RMendAt w R b n w1.heap.size M C S st R 0 0 (w1.alloc (ObjT 0 0))) := fun w1 hb1 => by
    have hb : Below w.heap.size w (w1.alloc (ObjT 0 0)) := (HB0.out.trans (hb1.mono (by rw [e2]; omega))).alloc (by have := hb1.size; rw [e2] at this; omega) _
    have hs := hb1.size
    rw [e2] at hs
    have hz : (w1.alloc (ObjT 0 0)).heap.size = w1.heap.size + 1 := size_alloc _ _
    exact ⟨w1.heap.size + 1 - w.heap.size, h.below hb, fun q hq => .inl hq, (HA.out.below hb1 HA.out.lt).alloc _, (HR.out.below hb1 HR.out.lt).alloc _, At.new _ _ _, by omega, by omega, Chg.ofBelow hb R, by rw [hz]; omega⟩
  have x0 := HA.out.cell 0
  have x1 := HA.out.cell 1
  have x2 := HA.out.cell 2
  clear h hcnt hcnt1 hcnt2 hsm hsm' hcode0 hbd hrr hrd hwt hg g1 g2 g3 g4 g5 g6
  unfold BaySt.mend
  cases ht : (st.hand (1 + r) p M).t with
  | some t =>
    rw [if_pos (by simp)]
    obtain ⟨k, cd⟩ := t
    obtain ⟨-, hcd0, -⟩ := hcode.out (k, cd) ht
    have hcd2 : ((cd : Int) != 0) = true := by simp; exact hcd0
    have HT := Lib.hid ht
    rw [ht] at HSM
    clear ht hcd0
    unfold trVal ObjG ObjT geo at *
    simp only [Option.getD_some] at *
    generalize st.hand (1 + r) p M = H at *
    go_enter Tryz.func27, Tryz.ntmps27
    go_wp2_with (first
      | (go_at_call 68; (with_reducible refine (HF.out _ HB0.out).mono ?_); rintro e w1 ⟨rfl, hb1⟩; obtain ⟨n, hS1⟩ := HST.out w1 hb1; clear x0 x1 x2; have c0 := hS1.box.cell 0; have c1 := hS1.box.cell 1; have c2 := hS1.box.cell 2; have y1 := hS1.tv.cell 1; have HS1 := Lib.hid hS1; clear hS1 hb1)
      | (go_at_call 70; (with_reducible refine (hpar.out _).mono ?_); rintro e w2 ⟨rfl, hb2⟩; have hS2 := HS1.out.below hb2; clear c0 c1 c2 y1 hb2; have c0 := hS2.box.cell 0; have c1 := hS2.box.cell 1; have c2 := hS2.box.cell 2; have HS2 := Lib.hid hS2; clear hS2)
      | (go_at_call 69; (with_reducible refine (HSM.out _ _ HS2.out.bay).mono ?_); rintro e w3 ⟨q, rfl, hv, R3, k1, k2, k3, k4⟩; have hS3 := HS2.out.did HLT.out k1 k2 k3; clear c0 c1 c2; have t0 := hS3.tv.cell 0; have t1 := hS3.tv.cell 1; have t0f := hS3.tv.free 0; have t1f := hS3.tv.free 1; obtain ⟨hS4, hC4⟩ := hS3.put HLT.out (k) (cd); obtain rfl := hv.2 (by rw [HT.out]; simp); have HS4 := Lib.hid hS4; have d0 := hS4.res.cell 0; have d1 := hS4.res.cell 1; have f0 := hS4.res.free 0; have f1 := hS4.res.free 1; clear hS3 hS4 hC4 hv k1 k2 k3 k4))
    obtain ⟨r0, r1, hset⟩ := trouble_set HS4.out.res (.int .i64 (k)) (.int .u16 (cd))
    clear d0 d1 f0 f1
    (try simp only [Exit.inBlock, Exit.then])
    refine bodyPost_ret (v := .agg #[.int .i64 (k), .int .u16 (cd)]) ?_ rfl ⟨rfl, HS4.out.end HLT.out hset⟩
    rw [results_cell rfl]
    go_simp
  | none =>
    rw [if_neg (by simp)]
    have HT := Lib.hid ht
    rw [ht] at HSM
    clear ht hcode
    generalize st.hand (1 + r) p M = H at *
    have HSG : Hid (∀ W v B, W.ownsRow B 5 1 v 128 (ucells (sumL H.f 128)) → Seg W v (sumL H.f 128) ∧ True) := fun W v B ho => ⟨seg_of_owns (by rw [sumL_length]; exact ho), trivial⟩
    have HWR : Hid (∀ W R' v, RBayAt W R' b H.s → Seg W v (sumL H.f 128) → (∀ a nn cc, v = .slice (some a) nn cc → ¬ R' a.block) → Calls Tryz.prog 29 #[.pointer (some ⟨b, 0, none⟩), .int .i64 p, .int .i64 (1 + (r : Int)), v] W fun e w' => e = .returned (.int .u16 (((H.s.write p (1 + r) (sumL H.f 128)).1 : Nat) : Int)) ∧ RBPost W R' b (H.s.write p (1 + r) (sumL H.f 128)).2 w') := fun W R' v hW hv hvR => rbay_write hW p (1 + r) v _ HWC.out.1 HWC.out.2 hv (fun _ => hvR)
    have HFR : Hid (∀ W R', RBayAt W R' b (H.s.write p (1 + r) (sumL H.f 128)).2 → Calls Tryz.prog 71 #[.pointer (some ⟨b, 0, none⟩), .int .i64 p] W fun e w' => e = .returned (.int .u16 ((((H.s.write p (1 + r) (sumL H.f 128)).2.flush p).1 : Nat) : Int)) ∧ RBPost W R' b ((H.s.write p (1 + r) (sumL H.f 128)).2.flush p).2 w') := fun W R' hW => rbay_flush hW p HFC.out
    generalize hA : H.s.write p (1 + r) (sumL H.f 128) = A at *
    obtain ⟨cw, sw⟩ := A
    show Calls _ _ _ _ fun e w' => e = .returned (trVal (if cw ≠ 0 then (some (p, cw), sw) else if (sw.flush p).1 ≠ 0 then (some (p, (sw.flush p).1), (sw.flush p).2) else (none, (sw.flush p).2)).1) ∧ RBPost w R b (if cw ≠ 0 then (some (p, cw), sw) else if (sw.flush p).1 ≠ 0 then (some (p, (sw.flush p).1), (sw.flush p).2) else (none, (sw.flush p).2)).2 w'
    by_cases hcw : cw = 0
    · rw [if_neg (by simpa using hcw)]
      subst hcw
      generalize hB : sw.flush p = Bf at *
      obtain ⟨cf, sf⟩ := Bf
      by_cases hcf : cf = 0
      · subst hcf
        rw [if_neg (by simp)]
        unfold trVal ObjG ObjT geo at *
        simp only [Option.getD_none] at *
        go_enter Tryz.func27, Tryz.ntmps27
        go_wp2_with (first
          | (go_at_call 68; (with_reducible refine (HF.out _ HB0.out).mono ?_); rintro e w1 ⟨rfl, hb1⟩; obtain ⟨n, hS1⟩ := HST.out w1 hb1; clear x0 x1 x2; have c0 := hS1.box.cell 0; have c1 := hS1.box.cell 1; have c2 := hS1.box.cell 2; have y1 := hS1.tv.cell 1; have HS1 := Lib.hid hS1; clear hS1 hb1)
          | (go_at_call 70; (with_reducible refine (hpar.out _).mono ?_); rintro e w2 ⟨rfl, hb2⟩; have hS2 := HS1.out.below hb2; clear c0 c1 c2 y1 hb2; have c0 := hS2.box.cell 0; have c1 := hS2.box.cell 1; have c2 := hS2.box.cell 2; have HS2 := Lib.hid hS2; clear hS2)
          | (go_at_call 69; (with_reducible refine (HSM.out _ _ HS2.out.bay).mono ?_); rintro e w3 ⟨q, rfl, hv, R3, k1, k2, k3, k4⟩; have hS3 := HS2.out.did HLT.out k1 k2 k3; clear c0 c1 c2; have t0 := hS3.tv.cell 0; have t1 := hS3.tv.cell 1; have t0f := hS3.tv.free 0; have t1f := hS3.tv.free 1; obtain ⟨hS4, hC4⟩ := hS3.put HLT.out (0) (0); have hq := hv.1 HT.out; have hq4 := ownsRow_chg hq hC4 (fun g hg e => by { have := (hq.lt g hg).1; have := HS2.out.size; have := hS3.tb2; omega }); obtain ⟨sg1, sg2⟩ := HSG.out _ _ _ hq4; have HSG1 := Lib.hid sg1; have HK4 : Hid (∀ a nn cc, q = .slice (some a) nn cc → ¬ R3 a.block) := fun a nn cc e => (k4 a.block (by { rcases hq4.2 with ⟨e0, -⟩ | ⟨g, cap, cur, e0, -⟩; (rw [e0] at e; cases e); (rw [e0] at e ⊢; simp only [Value.slice.injEq, Option.some.injEq] at e; rw [← e.1]; rfl) })); obtain ⟨qa, qc, rfl⟩ := sg1.shape; clear hq hq4 sg1 sg2; have HS4 := Lib.hid hS4; have d0 := hS4.res.cell 0; have d1 := hS4.res.cell 1; have f0 := hS4.res.free 0; have f1 := hS4.res.free 1; clear hS3 hS4 hC4 hv k1 k2 k3 k4)
          | (go_at_call 29; (with_reducible refine (HWR.out _ _ _ HS4.out.bay HSG1.out HK4.out).mono ?_); rintro e w5 ⟨rfl, R5, k1, k2, k3⟩; have hS5 := HS4.out.did HLT.out k1 k2 k3; clear d0 d1 f0 f1; have d0 := hS5.res.cell 0; have d1 := hS5.res.cell 1; have f0 := hS5.res.free 0; have f1 := hS5.res.free 1; have HS5 := Lib.hid hS5; clear hS5 k1 k2 k3)
          | (go_at_call 71; (with_reducible refine (HFR.out _ _ HS5.out.bay).mono ?_); rintro e w6 ⟨rfl, R6, k1, k2, k3⟩; have hS6 := HS5.out.did HLT.out k1 k2 k3; clear d0 d1 f0 f1; have d0 := hS6.res.cell 0; have d1 := hS6.res.cell 1; have f0 := hS6.res.free 0; have f1 := hS6.res.free 1; have HS6 := Lib.hid hS6; clear hS6 k1 k2 k3))
        obtain ⟨r0, r1, hset⟩ := trouble_set HS6.out.res (.int .i64 (0)) (.int .u16 (0))
        clear d0 d1 f0 f1
        (try simp only [Exit.inBlock, Exit.then])
        refine bodyPost_ret (v := .agg #[.int .i64 (0), .int .u16 (0)]) ?_ rfl ⟨rfl, HS6.out.end HLT.out hset⟩
        rw [results_cell rfl]
        go_simp
      · rw [if_pos hcf]
        have hcf1 : ((cf : Int) == 0) = false := by simp; exact hcf
        have hcf2 : ((cf : Int) != 0) = true := by simp; exact hcf
        unfold trVal ObjG ObjT geo at *
        simp only [Option.getD_none, Option.getD_some] at *
        go_enter Tryz.func27, Tryz.ntmps27
        go_wp2_with (first
          | (go_at_call 68; (with_reducible refine (HF.out _ HB0.out).mono ?_); rintro e w1 ⟨rfl, hb1⟩; obtain ⟨n, hS1⟩ := HST.out w1 hb1; clear x0 x1 x2; have c0 := hS1.box.cell 0; have c1 := hS1.box.cell 1; have c2 := hS1.box.cell 2; have y1 := hS1.tv.cell 1; have HS1 := Lib.hid hS1; clear hS1 hb1)
          | (go_at_call 70; (with_reducible refine (hpar.out _).mono ?_); rintro e w2 ⟨rfl, hb2⟩; have hS2 := HS1.out.below hb2; clear c0 c1 c2 y1 hb2; have c0 := hS2.box.cell 0; have c1 := hS2.box.cell 1; have c2 := hS2.box.cell 2; have HS2 := Lib.hid hS2; clear hS2)
          | (go_at_call 69; (with_reducible refine (HSM.out _ _ HS2.out.bay).mono ?_); rintro e w3 ⟨q, rfl, hv, R3, k1, k2, k3, k4⟩; have hS3 := HS2.out.did HLT.out k1 k2 k3; clear c0 c1 c2; have t0 := hS3.tv.cell 0; have t1 := hS3.tv.cell 1; have t0f := hS3.tv.free 0; have t1f := hS3.tv.free 1; obtain ⟨hS4, hC4⟩ := hS3.put HLT.out (0) (0); have hq := hv.1 HT.out; have hq4 := ownsRow_chg hq hC4 (fun g hg e => by { have := (hq.lt g hg).1; have := HS2.out.size; have := hS3.tb2; omega }); obtain ⟨sg1, sg2⟩ := HSG.out _ _ _ hq4; have HSG1 := Lib.hid sg1; have HK4 : Hid (∀ a nn cc, q = .slice (some a) nn cc → ¬ R3 a.block) := fun a nn cc e => (k4 a.block (by { rcases hq4.2 with ⟨e0, -⟩ | ⟨g, cap, cur, e0, -⟩; (rw [e0] at e; cases e); (rw [e0] at e ⊢; simp only [Value.slice.injEq, Option.some.injEq] at e; rw [← e.1]; rfl) })); obtain ⟨qa, qc, rfl⟩ := sg1.shape; clear hq hq4 sg1 sg2; have HS4 := Lib.hid hS4; have d0 := hS4.res.cell 0; have d1 := hS4.res.cell 1; have f0 := hS4.res.free 0; have f1 := hS4.res.free 1; clear hS3 hS4 hC4 hv k1 k2 k3 k4)
          | (go_at_call 29; (with_reducible refine (HWR.out _ _ _ HS4.out.bay HSG1.out HK4.out).mono ?_); rintro e w5 ⟨rfl, R5, k1, k2, k3⟩; have hS5 := HS4.out.did HLT.out k1 k2 k3; clear d0 d1 f0 f1; have d0 := hS5.res.cell 0; have d1 := hS5.res.cell 1; have f0 := hS5.res.free 0; have f1 := hS5.res.free 1; have HS5 := Lib.hid hS5; clear hS5 k1 k2 k3)
          | (go_at_call 71; (with_reducible refine (HFR.out _ _ HS5.out.bay).mono ?_); rintro e w6 ⟨rfl, R6, k1, k2, k3⟩; have hS6 := HS5.out.did HLT.out k1 k2 k3; clear d0 d1 f0 f1; have d0 := hS6.res.cell 0; have d1 := hS6.res.cell 1; have f0 := hS6.res.free 0; have f1 := hS6.res.free 1; have HS6 := Lib.hid hS6; clear hS6 k1 k2 k3))
        obtain ⟨r0, r1, hset⟩ := trouble_set HS6.out.res (.int .i64 (p)) (.int .u16 (cf))
        clear d0 d1 f0 f1
        (try simp only [Exit.inBlock, Exit.then])
        refine bodyPost_ret (v := .agg #[.int .i64 (p), .int .u16 (cf)]) ?_ rfl ⟨rfl, HS6.out.end HLT.out hset⟩
        rw [results_cell rfl]
        go_simp
    · rw [if_pos hcw]
      have hcf1 : ((cw : Int) == 0) = false := by simp; exact hcw
      have hcf2 : ((cw : Int) != 0) = true := by simp; exact hcw
      unfold trVal ObjG ObjT geo at *
      simp only [Option.getD_none, Option.getD_some] at *
      go_enter Tryz.func27, Tryz.ntmps27
      go_wp2_with (first
        | (go_at_call 68; (with_reducible refine (HF.out _ HB0.out).mono ?_); rintro e w1 ⟨rfl, hb1⟩; obtain ⟨n, hS1⟩ := HST.out w1 hb1; clear x0 x1 x2; have c0 := hS1.box.cell 0; have c1 := hS1.box.cell 1; have c2 := hS1.box.cell 2; have y1 := hS1.tv.cell 1; have HS1 := Lib.hid hS1; clear hS1 hb1)
        | (go_at_call 70; (with_reducible refine (hpar.out _).mono ?_); rintro e w2 ⟨rfl, hb2⟩; have hS2 := HS1.out.below hb2; clear c0 c1 c2 y1 hb2; have c0 := hS2.box.cell 0; have c1 := hS2.box.cell 1; have c2 := hS2.box.cell 2; have HS2 := Lib.hid hS2; clear hS2)
        | (go_at_call 69; (with_reducible refine (HSM.out _ _ HS2.out.bay).mono ?_); rintro e w3 ⟨q, rfl, hv, R3, k1, k2, k3, k4⟩; have hS3 := HS2.out.did HLT.out k1 k2 k3; clear c0 c1 c2; have t0 := hS3.tv.cell 0; have t1 := hS3.tv.cell 1; have t0f := hS3.tv.free 0; have t1f := hS3.tv.free 1; obtain ⟨hS4, hC4⟩ := hS3.put HLT.out (0) (0); have hq := hv.1 HT.out; have hq4 := ownsRow_chg hq hC4 (fun g hg e => by { have := (hq.lt g hg).1; have := HS2.out.size; have := hS3.tb2; omega }); obtain ⟨sg1, sg2⟩ := HSG.out _ _ _ hq4; have HSG1 := Lib.hid sg1; have HK4 : Hid (∀ a nn cc, q = .slice (some a) nn cc → ¬ R3 a.block) := fun a nn cc e => (k4 a.block (by { rcases hq4.2 with ⟨e0, -⟩ | ⟨g, cap, cur, e0, -⟩; (rw [e0] at e; cases e); (rw [e0] at e ⊢; simp only [Value.slice.injEq, Option.some.injEq] at e; rw [← e.1]; rfl) })); obtain ⟨qa, qc, rfl⟩ := sg1.shape; clear hq hq4 sg1 sg2; have HS4 := Lib.hid hS4; have d0 := hS4.res.cell 0; have d1 := hS4.res.cell 1; have f0 := hS4.res.free 0; have f1 := hS4.res.free 1; clear hS3 hS4 hC4 hv k1 k2 k3 k4)
        | (go_at_call 29; (with_reducible refine (HWR.out _ _ _ HS4.out.bay HSG1.out HK4.out).mono ?_); rintro e w5 ⟨rfl, R5, k1, k2, k3⟩; have hS5 := HS4.out.did HLT.out k1 k2 k3; clear d0 d1 f0 f1; have d0 := hS5.res.cell 0; have d1 := hS5.res.cell 1; have f0 := hS5.res.free 0; have f1 := hS5.res.free 1; have HS5 := Lib.hid hS5; clear hS5 k1 k2 k3))
      obtain ⟨r0, r1, hset⟩ := trouble_set HS5.out.res (.int .i64 (p)) (.int .u16 (cw))
      clear d0 d1 f0 f1
      (try simp only [Exit.inBlock, Exit.then])
      refine bodyPost_ret (v := .agg #[.int .i64 (p), .int .u16 (cw)]) ?_ rfl ⟨rfl, HS5.out.end HLT.out hset⟩
      rw [results_cell rfl]
      go_simp

end Go.Proofs.YtleicmmbaacbmaaGreat
