/- Scrub: Mend. -/
import Derived.Test.YtleicmmbaacbmaaGreatMrg13
set_option linter.unusedVariables false
namespace Go.Proofs.YtleicmmbaacbmaaGreat
open Go.RowKit

set_option maxRecDepth 100000 in
set_option maxHeartbeats 8000000 in
theorem scrub_mend {w : World} {T : Nat → Nat} {b : Nat} {st : BaySt} (h : BayAt w T b st) (M C S r : Nat) (hg : geoIs M C S = true) (hn : st.n = M + 1) (hr : r < S * C)
    (hcnt : st.cnt 0 ≤ 999999000000) (hcnt1 : st.cnt 1 ≤ 999999000000) (hcnt2 : st.cnt 2 ≤ 999999000000) (hsm : st.small 999999) :
    Calls Tryz.prog 23 #[.pointer (some ⟨b, 0, none⟩), geo M C S, .int .i64 r] w fun e w' =>
      e = .returned (trVal (st.mend M (parOf M C r) r).1) ∧ BayPost w T b (st.mend M (parOf M C r) r).2 w' := by
  obtain ⟨g1, g2, g3, g4, g5, g6⟩ := (geoIs_iff M C S).1 hg
  have hrr : (r : Int) < (S : Int) * (C : Int) := by exact_mod_cast hr
  have hbd := geo_bounds hg
  have hr4 : r ≤ 4096 := by omega
  have hv := h.virgin
  have hvir := Lib.hid hv
  have hsm' : st.small 1000000 := fun i hi x hx => Nat.le_succ_of_le (hsm i hi x hx)
  have hcode0 : mayCode st.n M C S 0 r = 0 := by
    unfold mayCode
    rw [if_pos hg, if_pos (by rw [hn]; omega), if_pos ⟨by omega, by omega, by omega, hrr⟩]
  have e1 : (w.alloc (.cells #[.int .i64 M, .int .i64 C, .int .i64 S] 23)).heap.size = w.heap.size + 1 := size_alloc _ _
  have e2 : ((w.alloc (.cells #[.int .i64 M, .int .i64 C, .int .i64 S] 23)).alloc (.cells #[.int .i64 0, .int .u16 0] 72)).heap.size = w.heap.size + 2 := by rw [size_alloc, e1]
  have hb0 : Below w.heap.size w ((w.alloc (.cells #[.int .i64 M, .int .i64 C, .int .i64 S] 23)).alloc (.cells #[.int .i64 0, .int .u16 0] 72)) := ((Below.refl _ _).alloc (Nat.le_refl _) _).alloc (by omega) _
  have ha : At ((w.alloc (.cells #[.int .i64 M, .int .i64 C, .int .i64 S] 23)).alloc (.cells #[.int .i64 0, .int .u16 0] 72)) w.heap.size #[.int .i64 M, .int .i64 C, .int .i64 S] 23 := (At.new _ _ _).alloc _
  have hre : At ((w.alloc (.cells #[.int .i64 M, .int .i64 C, .int .i64 S] 23)).alloc (.cells #[.int .i64 0, .int .u16 0] 72)) (w.heap.size + 1) #[.int .i64 0, .int .u16 0] 72 := At.new2 _ _ _ _
  have hba : BayAt ((w.alloc (.cells #[.int .i64 M, .int .i64 C, .int .i64 S] 23)).alloc (.cells #[.int .i64 0, .int .u16 0] 72)) T b st := h.below hb0
  have hmay := Lib.hid (scrub_may hba M C S 0 r)
  rw [hcode0] at hmay
  have hpar := Lib.hid (fun W => geom_parity M C S r W hg hr)
  have hpl : parOf M C r < M := parOf_lt (by omega)
  generalize parOf M C r = p at *
  have HSM : Hid (∀ w1, Below ((w.alloc (.cells #[.int .i64 M, .int .i64 C, .int .i64 S] 23)).alloc (.cells #[.int .i64 0, .int .u16 0] 72)).heap.size ((w.alloc (.cells #[.int .i64 M, .int .i64 C, .int .i64 S] 23)).alloc (.cells #[.int .i64 0, .int .u16 0] 72)) w1 → Calls Tryz.prog 63 #[.pointer (some ⟨b, 0, none⟩), geo M C S, .int .i64 r, .int .i64 p] w1 fun e w' => ∃ q, e = .returned (.tuple #[q, trVal (st.hand (1 + r) p M).t]) ∧ SumPost w1 T b (st.hand (1 + r) p M) q w') := fun w1 hb => scrub_sum (hba.below hb) M C S r p (by omega) hr4 hcnt hsm'
  have hcode := Lib.hid (hand_code st (1 + r) p M)
  have hrd := hand_reads st (1 + r) p M
  have HSG : Hid (∀ W v B, W.ownsRow B 5 1 v 128 (ucells (sumL (st.hand (1 + r) p M).f 128)) → Seg W v (sumL (st.hand (1 + r) p M).f 128) ∧ ∀ a n c, v = .slice (some a) n c → B ≤ a.block) := fun W v B ho => by
    refine ⟨seg_of_owns (by rw [sumL_length]; exact ho), fun a n c hv => ?_⟩
    obtain ⟨g', cap, hv2, hle, -⟩ := ownsRow_full ho (by omega)
    rw [hv2] at hv
    simp only [Value.slice.injEq, Option.some.injEq] at hv
    rw [← hv.1]
    exact hle
  have HA := Lib.hid ha
  have HR := Lib.hid hre
  have HAL := Lib.hid ha.lt
  unfold BaySt.mend
  cases ht : (st.hand (1 + r) p M).t with
  | some t =>
    rw [if_pos (by simp)]
    obtain ⟨k, cd⟩ := t
    obtain ⟨-, hcd0, -⟩ := hcode.out (k, cd) ht
    have hcd2 : ((cd : Int) != 0) = true := by simp; exact hcd0
    have HT := Lib.hid ht
    rw [ht] at HSM
    clear ht hcd0 hrd ha hre hba h hv hcnt hcnt1 hcnt2 hsm hsm' hcode0 hbd hrr
    unfold geo at *
    unfold trVal at *
    simp only [Option.getD_some] at *
    go_enter Tryz.func23, Tryz.ntmps23
    go_wp2_with (first
      | (go_at_call 61; refine hmay.out.mono ?_; rintro e w1 ⟨rfl, hb1⟩; have ha1 := HA.out.below hb1 HAL.out; have c0 := ha1.cell 0; have c1 := ha1.cell 1; have c2 := ha1.cell 2; have HA1 := Lib.hid ha1; have HA1L := Lib.hid ha1.lt; clear ha1; have hR1 := HR.out.below hb1 (by rw [e2]; omega); have HR1 := Lib.hid hR1; clear hR1)
      | (go_at_call 66; refine (hpar.out _).mono ?_; rintro e w2 ⟨rfl, hb2⟩; have ha2 := HA1.out.below hb2 HA1L.out; have c0 := ha2.cell 0; have c1 := ha2.cell 1; have c2 := ha2.cell 2; clear ha2; have hbb2 := below_then hb1 hb2; have hR2 := HR1.out.below hb2 HR1.out.lt; have HR2 := Lib.hid hR2; clear hR2)
      | (go_at_call 63; refine (HSM.out w2 hbb2).mono ?_; rintro e w3 ⟨q, rfl, hS⟩; obtain rfl := hS.bad (by rw [HT.out]; simp); have HS := Lib.hid hS; have hR3 := (HR2.out.mod hS.chg (fun e => e (hvir.out _ (by omega)))).alloc (.cells #[.int .i64 (k : Int), .int .u16 (cd : Int)] 72); have d0 := hR3.cell 0; have d1 := hR3.cell 1; have f0 := hR3.free 0; have f1 := hR3.free 1; have HR3 := Lib.hid hR3; have hz3 : w.heap.size ≤ (w3.alloc (.cells #[.int .i64 (k : Int), .int .u16 (cd : Int)] 72)).heap.size := (by have a1 := hbb2.size; have a2 := hS.chg.size; rw [e2] at a1; rw [size_alloc]; omega); clear hS hR3))
    obtain ⟨r0, r1, hset⟩ := trouble_set HR3.out (.int .i64 (k : Int)) (.int .u16 (cd : Int))
    clear d0 d1 f0 f1 c0 c1 c2
    (try simp only [Exit.inBlock, Exit.then])
    refine bodyPost_ret (v := .agg #[.int .i64 (k : Int), .int .u16 (cd : Int)]) ?_ rfl ⟨rfl, ?_⟩
    · rw [results_cell rfl]
      go_simp
    · have hz1 := hbb2.size
      have hz2 := HS.out.chg.size
      have hal : Chg (fun q => q = w.heap.size + 1) w3 (w3.alloc (.cells #[.int .i64 (k : Int), .int .u16 (cd : Int)] 72)) := (Chg.refl _ _).alloc _
      have hch := hal.trans hset
      exact .same (HS.out.bay.keep hch (fun q hq e => by subst e; exact hq (hvir.out _ (by omega)))) (chg_and (chg_and (S := fun q => T q ≠ 0) (Chg.ofBelow (below_then hb0 hbb2) _) HS.out.chg (fun q hq e => e)) hch (fun q hq e => by omega))
  | none =>
    rw [if_neg (by simp)]
    have HT := Lib.hid ht
    rw [ht] at HSM
    have hww := write_went (st.hand (1 + r) p M).s p (1 + r) (sumL (st.hand (1 + r) p M).f 128)
    have hs1 := hrd.small _ hsm
    have HW : Hid (∀ W v, BayAt W T b (st.hand (1 + r) p M).s → Seg W v (sumL (st.hand (1 + r) p M).f 128) → (∀ a n c, v = .slice (some a) n c → w.heap.size ≤ a.block) → Calls Tryz.prog 19 #[.pointer (some ⟨b, 0, none⟩), .int .i64 p, .int .i64 (1 + (r : Int)), v] W fun e w' => e = .returned (.int .u16 (((st.hand (1 + r) p M).s.write p (1 + r) (sumL (st.hand (1 + r) p M).f 128)).1 : Nat)) ∧ BayPost W T b ((st.hand (1 + r) p M).s.write p (1 + r) (sumL (st.hand (1 + r) p M).f 128)).2 w') := fun W v hB hs hb => bay_write hB p (1 + r) v _ (by rw [hrd.c1]; omega) (fun i hi x hx => Nat.le_succ_of_le (hs1 i hi x hx)) hs (fun a n c hv' => hv _ (hb a n c hv'))
    have HBY : Hid (∀ w2 w3 w4, Below ((w.alloc (.cells #[.int .i64 M, .int .i64 C, .int .i64 S] 23)).alloc (.cells #[.int .i64 0, .int .u16 0] 72)).heap.size ((w.alloc (.cells #[.int .i64 M, .int .i64 C, .int .i64 S] 23)).alloc (.cells #[.int .i64 0, .int .u16 0] 72)) w2 → ∀ {q}, SumPost w2 T b (st.hand (1 + r) p M) q w3 → ∀ {o}, Below (w3.alloc o).heap.size (w3.alloc o) w4 → BayAt w4 T b (st.hand (1 + r) p M).s) := fun w2 w3 w4 h2 q h3 o h4 => (h3.bay.keep (S := fun _ => False) ((Chg.refl _ _).alloc _) (fun _ _ h => h)).below h4
    have HF : Hid (∀ W T', BayAt W T' b ((st.hand (1 + r) p M).s.write p (1 + r) (sumL (st.hand (1 + r) p M).f 128)).2 → Calls Tryz.prog 67 #[.pointer (some ⟨b, 0, none⟩), .int .i64 p] W fun e w' => e = .returned (.int .u16 ((((st.hand (1 + r) p M).s.write p (1 + r) (sumL (st.hand (1 + r) p M).f 128)).2.flush p).1 : Nat)) ∧ BayPost W T' b (((st.hand (1 + r) p M).s.write p (1 + r) (sumL (st.hand (1 + r) p M).f 128)).2.flush p).2 w') := fun W T' hB => bay_flush hB p (by rw [hww.rest 2 (by omega), hrd.c2]; omega) (hww.small _ hs1)
    have HSG : Hid (∀ W v B, W.ownsRow B 5 1 v 128 (ucells (sumL (st.hand (1 + r) p M).f 128)) → Seg W v (sumL (st.hand (1 + r) p M).f 128) ∧ (w.heap.size ≤ B → ∀ a n c, v = .slice (some a) n c → w.heap.size ≤ a.block)) := fun W v B ho => ⟨(HSG.out W v B ho).1, fun hB a n c hv => Nat.le_trans hB ((HSG.out W v B ho).2 a n c hv)⟩
    clear ht hrd ha hre hba h hv hcnt hcnt1 hcnt2 hsm hsm' hcode0 hbd hrr hww hs1 hcode
    unfold geo at *
    unfold trVal at *
    simp only [Option.getD_none] at *
    generalize hWr : (st.hand (1 + r) p M).s.write p (1 + r) (sumL (st.hand (1 + r) p M).f 128) = wr at *
    generalize hFl : wr.2.flush p = fl at *
    obtain ⟨c1', s1'⟩ := wr
    obtain ⟨c2', s2'⟩ := fl
    clear hWr hFl
    simp only at *
    generalize st.hand (1 + (r : Int)) (p : Int) M = H at *
    by_cases hc1 : c1' = 0
    · rw [if_neg (by simpa using hc1)]
      subst hc1
      have HW : Hid (∀ W v, BayAt W T b H.s → Seg W v (sumL H.f 128) → (∀ a n c, v = .slice (some a) n c → w.heap.size ≤ a.block) → Calls Tryz.prog 19 #[.pointer (some ⟨b, 0, none⟩), .int .i64 p, .int .i64 (1 + (r : Int)), v] W fun e w' => e = .returned (.int .u16 0) ∧ BayPost W T b s1' w') := fun W v x1 x2 x3 => HW.out W v x1 x2 x3
      by_cases hc2 : c2' = 0
      · rw [if_neg (by simpa using hc2)]
        subst hc2
        have HF : Hid (∀ W T', BayAt W T' b s1' → Calls Tryz.prog 67 #[.pointer (some ⟨b, 0, none⟩), .int .i64 p] W fun e w' => e = .returned (.int .u16 0) ∧ BayPost W T' b s2' w') := fun W T' x1 => HF.out W T' x1
        simp only [Option.getD_none]
        as_aux_lemma =>
          go_enter Tryz.func23, Tryz.ntmps23
          go_wp2_with (first
            | (go_at_call 61; refine hmay.out.mono ?_; rintro e w1 ⟨rfl, hb1⟩; have ha1 := HA.out.below hb1 HAL.out; have c0 := ha1.cell 0; have c1 := ha1.cell 1; have c2 := ha1.cell 2; have HA1 := Lib.hid ha1; have HA1L := Lib.hid ha1.lt; clear ha1; have hR1 := HR.out.below hb1 (by rw [e2]; omega); have HR1 := Lib.hid hR1; clear hR1)
            | (go_at_call 66; refine (hpar.out _).mono ?_; rintro e w2 ⟨rfl, hb2⟩; have ha2 := HA1.out.below hb2 HA1L.out; have c0 := ha2.cell 0; have c1 := ha2.cell 1; have c2 := ha2.cell 2; clear ha2; have hbb2 := below_then hb1 hb2; have hR2 := HR1.out.below hb2 HR1.out.lt; have HR2 := Lib.hid hR2; clear hR2)
            | (go_at_call 63; refine (HSM.out w2 hbb2).mono ?_; rintro e w3 ⟨q, rfl, hS⟩; obtain ⟨g, gb, many, rfl, m1, m2, hsum, hg1, hg2⟩ := hS.ok HT.out; have HS := Lib.hid hS; have HSU := Lib.hid (hsum.mod (S := fun _ => False) ((Chg.refl _ _).alloc (.cells #[.int .i64 0, .int .u16 0] 72)) (fun h => h) (fun h => h)); clear hsum; have hR3 := (HR2.out.mod hS.chg (fun e => e (hvir.out _ (by omega)))).alloc (.cells #[.int .i64 0, .int .u16 0] 72); have d0 := hR3.cell 0; have d1 := hR3.cell 1; have f0 := hR3.free 0; have f1 := hR3.free 1; have HR3 := Lib.hid hR3; have hz3 : w.heap.size ≤ (w3.alloc (.cells #[.int .i64 0, .int .u16 0] 72)).heap.size := (by have a1 := hbb2.size; have a2 := hS.chg.size; rw [e2] at a1; rw [size_alloc]; omega); clear hS hR3)
            | (go_at_call 65; refine (xor_value g gb 128 _ many _ HSU.out (by omega)).mono ?_; rintro e w4 ⟨v, rfl, hown, hb4⟩; have hR4 := HR3.out.below hb4 HR3.out.lt; have HR4 := Lib.hid hR4; have HO := Lib.hid hown; clear hR4 hown)
            | (go_at_call 19; refine (HW.out w4 v (HBY.out w2 w3 w4 hbb2 HS.out hb4) (HSG.out w4 v _ HO.out).1 ((HSG.out w4 v _ HO.out).2 hz3)).mono ?_; rintro e w5 ⟨rfl, T5, hB5, hT5, hc5⟩; have hR5 := HR4.out.mod hc5 (fun e => e (hvir.out _ (by omega))); have HR5 := Lib.hid hR5; have HB5 := Lib.hid hB5; clear hR5 hB5)
            | (go_at_call 67; refine (HF.out w5 T5 HB5.out).mono ?_; rintro e w6 ⟨rfl, T6, hB6, hT6, hc6⟩; have hR6 := HR5.out.mod hc6 (fun e => e (by rw [hT5 _ HR4.out.lt]; exact hvir.out _ (by omega))); have d0 := hR6.cell 0; have d1 := hR6.cell 1; have f0 := hR6.free 0; have f1 := hR6.free 1; have HR6 := Lib.hid hR6; have HB6 := Lib.hid hB6; clear hR6 hB6))
          obtain ⟨r0, r1, hset⟩ := trouble_set HR6.out (.int .i64 0) (.int .u16 0)
          clear d0 d1 f0 f1 c0 c1 c2
          (try simp only [Exit.inBlock, Exit.then])
          refine bodyPost_ret (v := .agg #[.int .i64 0, .int .u16 0]) ?_ rfl ⟨rfl, ?_⟩
          · rw [results_cell rfl]
            go_simp
          · have hch0 : Chg (fun q => T q ≠ 0) w w3 := chg_and (S := fun q => T q ≠ 0) (Chg.ofBelow (below_then hb0 hbb2) _) HS.out.chg (fun q hq e => e)
            have hal : Chg (fun q => T q ≠ 0) w w4 := (hch0.alloc (.cells #[.int .i64 0, .int .u16 0] 72)).trans (Chg.ofBelow hb4 _)
            have hz4 := hal.size
            have hz34 := hb4.size
            have hz5 := hc5.size
            refine ⟨T6, HB6.out.keep hset (fun q hq e => by subst e; exact hq ((hT6 _ HR5.out.lt).trans ((hT5 _ HR4.out.lt).trans (hvir.out _ (by omega))))), fun q hq => (hT6 q (by omega)).trans (hT5 q (by omega)), ?_⟩
            exact chg_and (chg_and (hal.trans hc5) hc6 (fun q hq e => by rw [hT5 q (by omega)] at e; exact e)) hset (fun q hq e => by omega)
      · rw [if_pos (by simpa using hc2)]
        simp only [Option.getD_some]
        have hcd1 : ((c2' : Int) == 0) = false := by simp; exact hc2
        have hcd2 : ((c2' : Int) != 0) = true := by simp; exact hc2
        clear hc2
        as_aux_lemma =>
          go_enter Tryz.func23, Tryz.ntmps23
          go_wp2_with (first
            | (go_at_call 61; refine hmay.out.mono ?_; rintro e w1 ⟨rfl, hb1⟩; have ha1 := HA.out.below hb1 HAL.out; have c0 := ha1.cell 0; have c1 := ha1.cell 1; have c2 := ha1.cell 2; have HA1 := Lib.hid ha1; have HA1L := Lib.hid ha1.lt; clear ha1; have hR1 := HR.out.below hb1 (by rw [e2]; omega); have HR1 := Lib.hid hR1; clear hR1)
            | (go_at_call 66; refine (hpar.out _).mono ?_; rintro e w2 ⟨rfl, hb2⟩; have ha2 := HA1.out.below hb2 HA1L.out; have c0 := ha2.cell 0; have c1 := ha2.cell 1; have c2 := ha2.cell 2; clear ha2; have hbb2 := below_then hb1 hb2; have hR2 := HR1.out.below hb2 HR1.out.lt; have HR2 := Lib.hid hR2; clear hR2)
            | (go_at_call 63; refine (HSM.out w2 hbb2).mono ?_; rintro e w3 ⟨q, rfl, hS⟩; obtain ⟨g, gb, many, rfl, m1, m2, hsum, hg1, hg2⟩ := hS.ok HT.out; have HS := Lib.hid hS; have HSU := Lib.hid (hsum.mod (S := fun _ => False) ((Chg.refl _ _).alloc (.cells #[.int .i64 0, .int .u16 0] 72)) (fun h => h) (fun h => h)); clear hsum; have hR3 := (HR2.out.mod hS.chg (fun e => e (hvir.out _ (by omega)))).alloc (.cells #[.int .i64 0, .int .u16 0] 72); have d0 := hR3.cell 0; have d1 := hR3.cell 1; have f0 := hR3.free 0; have f1 := hR3.free 1; have HR3 := Lib.hid hR3; have hz3 : w.heap.size ≤ (w3.alloc (.cells #[.int .i64 0, .int .u16 0] 72)).heap.size := (by have a1 := hbb2.size; have a2 := hS.chg.size; rw [e2] at a1; rw [size_alloc]; omega); clear hS hR3)
            | (go_at_call 65; refine (xor_value g gb 128 _ many _ HSU.out (by omega)).mono ?_; rintro e w4 ⟨v, rfl, hown, hb4⟩; have hR4 := HR3.out.below hb4 HR3.out.lt; have HR4 := Lib.hid hR4; have HO := Lib.hid hown; clear hR4 hown)
            | (go_at_call 19; refine (HW.out w4 v (HBY.out w2 w3 w4 hbb2 HS.out hb4) (HSG.out w4 v _ HO.out).1 ((HSG.out w4 v _ HO.out).2 hz3)).mono ?_; rintro e w5 ⟨rfl, T5, hB5, hT5, hc5⟩; have hR5 := HR4.out.mod hc5 (fun e => e (hvir.out _ (by omega))); have HR5 := Lib.hid hR5; have HB5 := Lib.hid hB5; clear hR5 hB5)
            | (go_at_call 67; refine (HF.out w5 T5 HB5.out).mono ?_; rintro e w6 ⟨rfl, T6, hB6, hT6, hc6⟩; have hR6 := HR5.out.mod hc6 (fun e => e (by rw [hT5 _ HR4.out.lt]; exact hvir.out _ (by omega))); have d0 := hR6.cell 0; have d1 := hR6.cell 1; have f0 := hR6.free 0; have f1 := hR6.free 1; have HR6 := Lib.hid hR6; have HB6 := Lib.hid hB6; clear hR6 hB6))
          obtain ⟨r0, r1, hset⟩ := trouble_set HR6.out (.int .i64 (p : Int)) (.int .u16 (c2' : Int))
          clear d0 d1 f0 f1 c0 c1 c2
          (try simp only [Exit.inBlock, Exit.then])
          refine bodyPost_ret (v := .agg #[.int .i64 (p : Int), .int .u16 (c2' : Int)]) ?_ rfl ⟨rfl, ?_⟩
          · rw [results_cell rfl]
            go_simp
          · have hch0 : Chg (fun q => T q ≠ 0) w w3 := chg_and (S := fun q => T q ≠ 0) (Chg.ofBelow (below_then hb0 hbb2) _) HS.out.chg (fun q hq e => e)
            have hal : Chg (fun q => T q ≠ 0) w w4 := (hch0.alloc (.cells #[.int .i64 0, .int .u16 0] 72)).trans (Chg.ofBelow hb4 _)
            have hz4 := hal.size
            have hz34 := hb4.size
            have hz5 := hc5.size
            refine ⟨T6, HB6.out.keep hset (fun q hq e => by subst e; exact hq ((hT6 _ HR5.out.lt).trans ((hT5 _ HR4.out.lt).trans (hvir.out _ (by omega))))), fun q hq => (hT6 q (by omega)).trans (hT5 q (by omega)), ?_⟩
            exact chg_and (chg_and (hal.trans hc5) hc6 (fun q hq e => by rw [hT5 q (by omega)] at e; exact e)) hset (fun q hq e => by omega)
    · rw [if_pos (by simpa using hc1)]
      simp only [Option.getD_some]
      have hcd1 : ((c1' : Int) == 0) = false := by simp; exact hc1
      have hcd2 : ((c1' : Int) != 0) = true := by simp; exact hc1
      clear hc1
      as_aux_lemma =>
        go_enter Tryz.func23, Tryz.ntmps23
        go_wp2_with (first
          | (go_at_call 61; refine hmay.out.mono ?_; rintro e w1 ⟨rfl, hb1⟩; have ha1 := HA.out.below hb1 HAL.out; have c0 := ha1.cell 0; have c1 := ha1.cell 1; have c2 := ha1.cell 2; have HA1 := Lib.hid ha1; have HA1L := Lib.hid ha1.lt; clear ha1; have hR1 := HR.out.below hb1 (by rw [e2]; omega); have HR1 := Lib.hid hR1; clear hR1)
          | (go_at_call 66; refine (hpar.out _).mono ?_; rintro e w2 ⟨rfl, hb2⟩; have ha2 := HA1.out.below hb2 HA1L.out; have c0 := ha2.cell 0; have c1 := ha2.cell 1; have c2 := ha2.cell 2; clear ha2; have hbb2 := below_then hb1 hb2; have hR2 := HR1.out.below hb2 HR1.out.lt; have HR2 := Lib.hid hR2; clear hR2)
          | (go_at_call 63; refine (HSM.out w2 hbb2).mono ?_; rintro e w3 ⟨q, rfl, hS⟩; obtain ⟨g, gb, many, rfl, m1, m2, hsum, hg1, hg2⟩ := hS.ok HT.out; have HS := Lib.hid hS; have HSU := Lib.hid (hsum.mod (S := fun _ => False) ((Chg.refl _ _).alloc (.cells #[.int .i64 0, .int .u16 0] 72)) (fun h => h) (fun h => h)); clear hsum; have hR3 := (HR2.out.mod hS.chg (fun e => e (hvir.out _ (by omega)))).alloc (.cells #[.int .i64 0, .int .u16 0] 72); have d0 := hR3.cell 0; have d1 := hR3.cell 1; have f0 := hR3.free 0; have f1 := hR3.free 1; have HR3 := Lib.hid hR3; have hz3 : w.heap.size ≤ (w3.alloc (.cells #[.int .i64 0, .int .u16 0] 72)).heap.size := (by have a1 := hbb2.size; have a2 := hS.chg.size; rw [e2] at a1; rw [size_alloc]; omega); clear hS hR3)
          | (go_at_call 65; refine (xor_value g gb 128 _ many _ HSU.out (by omega)).mono ?_; rintro e w4 ⟨v, rfl, hown, hb4⟩; have hR4 := HR3.out.below hb4 HR3.out.lt; have HR4 := Lib.hid hR4; have HO := Lib.hid hown; clear hR4 hown)
          | (go_at_call 19; refine (HW.out w4 v (HBY.out w2 w3 w4 hbb2 HS.out hb4) (HSG.out w4 v _ HO.out).1 ((HSG.out w4 v _ HO.out).2 hz3)).mono ?_; rintro e w5 ⟨rfl, T5, hB5, hT5, hc5⟩; have hR5 := HR4.out.mod hc5 (fun e => e (hvir.out _ (by omega))); have d0 := hR5.cell 0; have d1 := hR5.cell 1; have f0 := hR5.free 0; have f1 := hR5.free 1; have HR5 := Lib.hid hR5; have HB5 := Lib.hid hB5; clear hR5 hB5))
        obtain ⟨r0, r1, hset⟩ := trouble_set HR5.out (.int .i64 (p : Int)) (.int .u16 (c1' : Int))
        clear d0 d1 f0 f1 c0 c1 c2
        (try simp only [Exit.inBlock, Exit.then])
        refine bodyPost_ret (v := .agg #[.int .i64 (p : Int), .int .u16 (c1' : Int)]) ?_ rfl ⟨rfl, ?_⟩
        · rw [results_cell rfl]
          go_simp
        · have hch0 : Chg (fun q => T q ≠ 0) w w3 := chg_and (S := fun q => T q ≠ 0) (Chg.ofBelow (below_then hb0 hbb2) _) HS.out.chg (fun q hq e => e)
          have hal : Chg (fun q => T q ≠ 0) w w4 := (hch0.alloc (.cells #[.int .i64 0, .int .u16 0] 72)).trans (Chg.ofBelow hb4 _)
          have hz4 := hal.size
          have hz34 := hb4.size
          have hz5 := hc5.size
          refine ⟨T5, HB5.out.keep hset (fun q hq e => by subst e; exact hq ((hT5 _ HR4.out.lt).trans (hvir.out _ (by omega)))), fun q hq => hT5 q (by omega), ?_⟩
          exact chg_and (hal.trans hc5) hset (fun q hq e => by omega)

end Go.Proofs.YtleicmmbaacbmaaGreat

