/- Scrub: the sum of a row. -/
import Derived.Test.YtkcfmkhakghniaaScrB
set_option linter.unusedVariables false
namespace Go.Proofs.Ytkcfmkhakghniaa
open Go.RowKit

/-- What a sum of a row leaves. -/
structure SumPost (w : World) (T : Nat → Nat) (b : Nat) (H : Handed) (p : Value) (w' : World) : Prop where
  bay : BayAt w' T b H.s
  chg : Chg (fun q => T q ≠ 0) w w'
  ok : H.t = none → ∃ g gb many, p = .pointer (some ⟨g, 0, none⟩) ∧ 0 ≤ many ∧ many ≤ 16 ∧ SumAt w' g gb 128 H.f many ∧ w.heap.size ≤ g ∧ w.heap.size ≤ gb
  bad : H.t ≠ none → p = .pointer none

set_option maxRecDepth 100000 in
set_option maxHeartbeats 4000000 in
theorem scrub_sum {w : World} {T : Nat → Nat} {b : Nat} {st : BaySt} (h : BayAt w T b st) (M : Nat) (c s : Int) (row : Nat) (but : Int)
    (hM : M ≤ 16) (hrow : row ≤ 4096) (hcnt : st.cnt 0 ≤ 999999000000) (hsm : st.small 1000000) :
    Calls Try.prog 46 #[.pointer (some ⟨b, 0, none⟩), geo M c s, .int .i64 row, .int .i64 but] w fun e w' =>
      ∃ p, e = .returned (.tuple #[p, trVal (st.hand (1 + row) but M).t]) ∧ SumPost w T b (st.hand (1 + row) but M) p w' := by
  have hv := h.virgin
  have hvir := Lib.hid hv
  have hnew : Hid (∀ W, Calls Try.prog 69 #[.int .i64 128] W fun e w' => ∃ g gb, e = .returned (.tuple #[.pointer (some ⟨g, 0, none⟩), .int .u16 0]) ∧ SumAt w' g gb 128 (fun _ => 0) 0 ∧ W.heap.size ≤ g ∧ W.heap.size ≤ gb ∧ Below W.heap.size W w') := fun W => xor_new 128 W (by omega)
  have e1 : (w.alloc (.cells #[.int .i64 M, .int .i64 c, .int .i64 s] 23)).heap.size = w.heap.size + 1 := size_alloc _ _
  have e2 : ((w.alloc (.cells #[.int .i64 M, .int .i64 c, .int .i64 s] 23)).alloc (.cells #[.int .i64 0, .int .u16 0] 37)).heap.size = w.heap.size + 2 := by rw [size_alloc, e1]
  have hb0 : Below w.heap.size w ((w.alloc (.cells #[.int .i64 M, .int .i64 c, .int .i64 s] 23)).alloc (.cells #[.int .i64 0, .int .u16 0] 37)) := ((Below.refl _ _).alloc (Nat.le_refl _) _).alloc (by omega) _
  have ha : At ((w.alloc (.cells #[.int .i64 M, .int .i64 c, .int .i64 s] 23)).alloc (.cells #[.int .i64 0, .int .u16 0] 37)) w.heap.size #[.int .i64 M, .int .i64 c, .int .i64 s] 23 := (At.new _ _ _).alloc _
  have hr : At ((w.alloc (.cells #[.int .i64 M, .int .i64 c, .int .i64 s] 23)).alloc (.cells #[.int .i64 0, .int .u16 0] 37)) (w.heap.size + 1) #[.int .i64 0, .int .u16 0] 37 := At.new2 _ _ _ _
  have hba : BayAt ((w.alloc (.cells #[.int .i64 M, .int .i64 c, .int .i64 s] 23)).alloc (.cells #[.int .i64 0, .int .u16 0] 37)) T b st := h.below hb0
  have HE : Hid (∀ w1 g gb, Below ((w.alloc (.cells #[.int .i64 M, .int .i64 c, .int .i64 s] 23)).alloc (.cells #[.int .i64 0, .int .u16 0] 37)).heap.size ((w.alloc (.cells #[.int .i64 M, .int .i64 c, .int .i64 s] 23)).alloc (.cells #[.int .i64 0, .int .u16 0] 37)) w1 → SumAt w1 g gb 128 (fun _ => 0) 0 → w.heap.size + 2 ≤ g → w.heap.size + 2 ≤ gb → Calls Try.prog 81 #[.pointer (some ⟨b, 0, none⟩), geo M c s, .int .i64 row, .int .i64 but, .func (.func 70) #[.pointer (some ⟨g, 0, none⟩)] #[]] w1 fun e w' =>
      e = .returned (trVal (st.hand (1 + row) but M).t) ∧ EachAt w1 T b g gb (st.hand (1 + row) but M) M w') := fun w1 g gb hb hs hg hgb => scrub_each (hba.below hb) M c s row but g gb hs (hv _ (by omega)) (hv _ (by omega)) hM hrow hcnt hsm
  have hcode := Lib.hid (hand_code st (1 + row) but M)
  have HA := Lib.hid ha
  have HR := Lib.hid hr
  have HAL := Lib.hid ha.lt
  clear ha hr hba h hv hcnt hsm
  cases ht : (st.hand (1 + row) but M).t with
  | none =>
    have HT := Lib.hid ht
    rw [ht] at HE
    clear ht
    unfold geo at *
    unfold trVal at *
    simp only [Option.getD_none] at *
    go_enter Try.func46, Try.ntmps46
    go_wp2_with (first
      | (go_at_call 69; refine (hnew.out _).mono ?_; rintro e w1 ⟨g, gb, rfl, hsum, hg, hgb, hb1⟩; rw [e2] at hg hgb; have ha1 := HA.out.below hb1 HAL.out; have c0 := ha1.cell 0; have c1 := ha1.cell 1; have c2 := ha1.cell 2; clear ha1; have hR1 := HR.out.below hb1 (by rw [e2]; omega); have HSU := Lib.hid hsum; have HR1 := Lib.hid hR1; clear hsum hR1)
      | (go_at_call 81; refine (HE.out w1 g gb hb1 HSU.out hg hgb).mono ?_; rintro e w2 ⟨rfl, hE⟩; have hR2 := (HR1.out.mod hE.chg (by rintro (e | e | e); exact e (hvir.out _ (by omega)); omega; omega)).alloc (.cells #[.int .i64 0, .int .u16 0] 37); have d0 := hR2.cell 0; have d1 := hR2.cell 1; have f0 := hR2.free 0; have f1 := hR2.free 1; have HE2 := Lib.hid hE; have HR2 := Lib.hid hR2; clear hE hR2))
    obtain ⟨r0, r1, hset⟩ := trouble_set HR2.out (.int .i64 0) (.int .u16 0)
    clear d0 d1 f0 f1 c0 c1 c2
    (try simp only [Exit.inBlock, Exit.then])
    refine bodyPost_ret (v := .tuple #[.pointer (some ⟨g, 0, none⟩), .agg #[.int .i64 0, .int .u16 0]]) ?_ rfl ⟨_, rfl, ?_⟩
    · rw [results_tmp_cell rfl]
      go_simp
    · have hz2 := HE2.out.chg.size
      have hz1 := hb1.size
      have hal : Chg (fun q => q = w.heap.size + 1) w2 (w2.alloc (.cells #[.int .i64 0, .int .u16 0] 37)) := (Chg.refl _ _).alloc _
      have hch := hal.trans hset
      obtain ⟨many, m1, m2, m3⟩ := HE2.out.sum
      refine ⟨HE2.out.bay.keep hch (fun q hq e => by subst e; exact hq (hvir.out _ (by omega))), ?_, fun _ => ⟨g, gb, many, rfl, m1, by omega, m3.mod hch (by omega) (by omega), by omega, by omega⟩, fun e => absurd HT.out e⟩
      refine chg_and (chg_and (S := fun q => T q ≠ 0) (Chg.ofBelow (below_then hb0 hb1) _) HE2.out.chg (fun q hq e => ?_)) hch (fun q hq e => by omega)
      rcases e with e | e | e
      · exact e
      · omega
      · omega
  | some t =>
    obtain ⟨k, cd⟩ := t
    obtain ⟨-, hcd0, -⟩ := hcode.out (k, cd) ht
    have hcd2 : ((cd : Int) != 0) = true := by simp; exact hcd0
    have HT := Lib.hid ht
    rw [ht] at HE
    clear ht hcd0
    unfold geo at *
    unfold trVal at *
    simp only [Option.getD_some] at *
    go_enter Try.func46, Try.ntmps46
    go_wp2_with (first
      | (go_at_call 69; refine (hnew.out _).mono ?_; rintro e w1 ⟨g, gb, rfl, hsum, hg, hgb, hb1⟩; rw [e2] at hg hgb; have ha1 := HA.out.below hb1 HAL.out; have c0 := ha1.cell 0; have c1 := ha1.cell 1; have c2 := ha1.cell 2; clear ha1; have hR1 := HR.out.below hb1 (by rw [e2]; omega); have HSU := Lib.hid hsum; have HR1 := Lib.hid hR1; clear hsum hR1)
      | (go_at_call 81; refine (HE.out w1 g gb hb1 HSU.out hg hgb).mono ?_; rintro e w2 ⟨rfl, hE⟩; have hR2 := (HR1.out.mod hE.chg (by rintro (e | e | e); exact e (hvir.out _ (by omega)); omega; omega)).alloc (.cells #[.int .i64 (k : Int), .int .u16 (cd : Int)] 37); have d0 := hR2.cell 0; have d1 := hR2.cell 1; have f0 := hR2.free 0; have f1 := hR2.free 1; have HE2 := Lib.hid hE; have HR2 := Lib.hid hR2; clear hE hR2))
    go_region
    go_wp2
    obtain ⟨r0, r1, hset⟩ := trouble_set HR2.out (.int .i64 (k : Int)) (.int .u16 (cd : Int))
    clear d0 d1 f0 f1 c0 c1 c2
    (try simp only [Exit.inBlock, Exit.then])
    refine bodyPost_ret (v := .tuple #[.pointer none, .agg #[.int .i64 (k : Int), .int .u16 (cd : Int)]]) ?_ rfl ⟨_, rfl, ?_⟩
    · rw [results_tmp_cell rfl]
      go_simp
    · have hz2 := HE2.out.chg.size
      have hz1 := hb1.size
      have hal : Chg (fun q => q = w.heap.size + 1) w2 (w2.alloc (.cells #[.int .i64 (k : Int), .int .u16 (cd : Int)] 37)) := (Chg.refl _ _).alloc _
      have hch := (hal.trans hset).drew
      refine ⟨HE2.out.bay.keep hch (fun q hq e => by subst e; exact hq (hvir.out _ (by omega))), ?_, fun e => (by rw [HT.out] at e; cases e), fun _ => rfl⟩
      refine chg_and (chg_and (S := fun q => T q ≠ 0) (Chg.ofBelow (below_then hb0 hb1) _) HE2.out.chg (fun q hq e => ?_)) hch (fun q hq e => by omega)
      rcases e with e | e | e
      · exact e
      · omega
      · omega

end Go.Proofs.Ytkcfmkhakghniaa
