/- Several texts in one: ScrC, ScrD. -/
import Derived.Test.YtleicmmbaacbmaaGreatMrg11
/- Scrub: the sum of a row. -/
set_option linter.unusedVariables false
namespace Go.Proofs.YtleicmmbaacbmaaGreat
open Go.RowKit

/-- What a sum of a row leaves. -/
structure SumPost (w : World) (T : Nat → Nat) (b : Nat) (H : Handed) (p : Value) (w' : World) : Prop where
  bay : BayAt w' T b H.s
  chg : Chg (fun q => T q ≠ 0) w w'
  ok : H.t = none → ∃ g gb many, p = .pointer (some ⟨g, 0, none⟩) ∧ 0 ≤ many ∧ many ≤ 16 ∧ SumAt w' g gb 128 H.f many ∧ w.heap.size ≤ g ∧ w.heap.size ≤ gb
  bad : H.t ≠ none → p = .pointer none

set_option maxRecDepth 100000 in
set_option maxHeartbeats 4000000 in
theorem scrub_sum {w : World} {T : Nat → Nat} {b : Nat} {st : BaySt} (h : BayAt w T b st) (M : Nat) (c s : Int) (row : Nat) (but : Int)
    (hM : M ≤ 16) (hrow : row ≤ 4096) (hcnt : st.cnt 0 ≤ 999999000000) (hsm : st.small 1000000) :
    Calls Tryz.prog 63 #[.pointer (some ⟨b, 0, none⟩), geo M c s, .int .i64 row, .int .i64 but] w fun e w' =>
      ∃ p, e = .returned (.tuple #[p, trVal (st.hand (1 + row) but M).t]) ∧ SumPost w T b (st.hand (1 + row) but M) p w' := by
  have hv := h.virgin
  have hvir := Lib.hid hv
  have hnew : Hid (∀ W, Calls Tryz.prog 89 #[.int .i64 128] W fun e w' => ∃ g gb, e = .returned (.tuple #[.pointer (some ⟨g, 0, none⟩), .int .u16 0]) ∧ SumAt w' g gb 128 (fun _ => 0) 0 ∧ W.heap.size ≤ g ∧ W.heap.size ≤ gb ∧ Below W.heap.size W w') := fun W => xor_new 128 W (by omega)
  have e1 : (w.alloc (.cells #[.int .i64 M, .int .i64 c, .int .i64 s] 23)).heap.size = w.heap.size + 1 := size_alloc _ _
  have e2 : ((w.alloc (.cells #[.int .i64 M, .int .i64 c, .int .i64 s] 23)).alloc (.cells #[.int .i64 0, .int .u16 0] 72)).heap.size = w.heap.size + 2 := by rw [size_alloc, e1]
  have hb0 : Below w.heap.size w ((w.alloc (.cells #[.int .i64 M, .int .i64 c, .int .i64 s] 23)).alloc (.cells #[.int .i64 0, .int .u16 0] 72)) := ((Below.refl _ _).alloc (Nat.le_refl _) _).alloc (by omega) _
  have ha : At ((w.alloc (.cells #[.int .i64 M, .int .i64 c, .int .i64 s] 23)).alloc (.cells #[.int .i64 0, .int .u16 0] 72)) w.heap.size #[.int .i64 M, .int .i64 c, .int .i64 s] 23 := (At.new _ _ _).alloc _
  have hr : At ((w.alloc (.cells #[.int .i64 M, .int .i64 c, .int .i64 s] 23)).alloc (.cells #[.int .i64 0, .int .u16 0] 72)) (w.heap.size + 1) #[.int .i64 0, .int .u16 0] 72 := At.new2 _ _ _ _
  have hba : BayAt ((w.alloc (.cells #[.int .i64 M, .int .i64 c, .int .i64 s] 23)).alloc (.cells #[.int .i64 0, .int .u16 0] 72)) T b st := h.below hb0
  have HE : Hid (∀ w1 g gb, Below ((w.alloc (.cells #[.int .i64 M, .int .i64 c, .int .i64 s] 23)).alloc (.cells #[.int .i64 0, .int .u16 0] 72)).heap.size ((w.alloc (.cells #[.int .i64 M, .int .i64 c, .int .i64 s] 23)).alloc (.cells #[.int .i64 0, .int .u16 0] 72)) w1 → SumAt w1 g gb 128 (fun _ => 0) 0 → w.heap.size + 2 ≤ g → w.heap.size + 2 ≤ gb → Calls Tryz.prog 90 #[.pointer (some ⟨b, 0, none⟩), geo M c s, .int .i64 row, .int .i64 but, .func (.func 91) #[.pointer (some ⟨g, 0, none⟩)] #[]] w1 fun e w' =>
      e = .returned (trVal (st.hand (1 + row) but M).t) ∧ EachAt w1 T b g gb (st.hand (1 + row) but M) M w') := fun w1 g gb hb hs hg hgb => scrub_each (hba.below hb) M c s row but g gb hs (hv _ (by omega)) (hv _ (by omega)) hM hrow hcnt hsm
  have hcode := Lib.hid (hand_code st (1 + row) but M)
  have HA := Lib.hid ha
  have HR := Lib.hid hr
  have HAL := Lib.hid ha.lt
  clear ha hr hba h hv hcnt hsm
  cases ht : (st.hand (1 + row) but M).t with
  | none =>
    have HT := Lib.hid ht
    rw [ht] at HE
    clear ht
    unfold geo at *
    unfold trVal at *
    simp only [Option.getD_none] at *
    go_enter Tryz.func63, Tryz.ntmps63
    go_wp2_with (first
      | (go_at_call 89; refine (hnew.out _).mono ?_; rintro e w1 ⟨g, gb, rfl, hsum, hg, hgb, hb1⟩; rw [e2] at hg hgb; have ha1 := HA.out.below hb1 HAL.out; have c0 := ha1.cell 0; have c1 := ha1.cell 1; have c2 := ha1.cell 2; clear ha1; have hR1 := HR.out.below hb1 (by rw [e2]; omega); have HSU := Lib.hid hsum; have HR1 := Lib.hid hR1; clear hsum hR1)
      | (go_at_call 90; refine (HE.out w1 g gb hb1 HSU.out hg hgb).mono ?_; rintro e w2 ⟨rfl, hE⟩; have hR2 := (HR1.out.mod hE.chg (by rintro (e | e | e); exact e (hvir.out _ (by omega)); omega; omega)).alloc (.cells #[.int .i64 0, .int .u16 0] 72); have d0 := hR2.cell 0; have d1 := hR2.cell 1; have f0 := hR2.free 0; have f1 := hR2.free 1; have HE2 := Lib.hid hE; have HR2 := Lib.hid hR2; clear hE hR2))
    obtain ⟨r0, r1, hset⟩ := trouble_set HR2.out (.int .i64 0) (.int .u16 0)
    clear d0 d1 f0 f1 c0 c1 c2
    (try simp only [Exit.inBlock, Exit.then])
    refine bodyPost_ret (v := .tuple #[.pointer (some ⟨g, 0, none⟩), .agg #[.int .i64 0, .int .u16 0]]) ?_ rfl ⟨_, rfl, ?_⟩
    · rw [results_tmp_cell rfl]
      go_simp
    · have hz2 := HE2.out.chg.size
      have hz1 := hb1.size
      have hal : Chg (fun q => q = w.heap.size + 1) w2 (w2.alloc (.cells #[.int .i64 0, .int .u16 0] 72)) := (Chg.refl _ _).alloc _
      have hch := hal.trans hset
      obtain ⟨many, m1, m2, m3⟩ := HE2.out.sum
      refine ⟨HE2.out.bay.keep hch (fun q hq e => by subst e; exact hq (hvir.out _ (by omega))), ?_, fun _ => ⟨g, gb, many, rfl, m1, by omega, m3.mod hch (by omega) (by omega), by omega, by omega⟩, fun e => absurd HT.out e⟩
      refine chg_and (chg_and (S := fun q => T q ≠ 0) (Chg.ofBelow (below_then hb0 hb1) _) HE2.out.chg (fun q hq e => ?_)) hch (fun q hq e => by omega)
      rcases e with e | e | e
      · exact e
      · omega
      · omega
  | some t =>
    obtain ⟨k, cd⟩ := t
    obtain ⟨-, hcd0, -⟩ := hcode.out (k, cd) ht
    have hcd2 : ((cd : Int) != 0) = true := by simp; exact hcd0
    have HT := Lib.hid ht
    rw [ht] at HE
    clear ht hcd0
    unfold geo at *
    unfold trVal at *
    simp only [Option.getD_some] at *
    go_enter Tryz.func63, Tryz.ntmps63
    go_wp2_with (first
      | (go_at_call 89; refine (hnew.out _).mono ?_; rintro e w1 ⟨g, gb, rfl, hsum, hg, hgb, hb1⟩; rw [e2] at hg hgb; have ha1 := HA.out.below hb1 HAL.out; have c0 := ha1.cell 0; have c1 := ha1.cell 1; have c2 := ha1.cell 2; clear ha1; have hR1 := HR.out.below hb1 (by rw [e2]; omega); have HSU := Lib.hid hsum; have HR1 := Lib.hid hR1; clear hsum hR1)
      | (go_at_call 90; refine (HE.out w1 g gb hb1 HSU.out hg hgb).mono ?_; rintro e w2 ⟨rfl, hE⟩; have hR2 := (HR1.out.mod hE.chg (by rintro (e | e | e); exact e (hvir.out _ (by omega)); omega; omega)).alloc (.cells #[.int .i64 (k : Int), .int .u16 (cd : Int)] 72); have d0 := hR2.cell 0; have d1 := hR2.cell 1; have f0 := hR2.free 0; have f1 := hR2.free 1; have HE2 := Lib.hid hE; have HR2 := Lib.hid hR2; clear hE hR2))
    go_region
    go_wp2
    obtain ⟨r0, r1, hset⟩ := trouble_set HR2.out (.int .i64 (k : Int)) (.int .u16 (cd : Int))
    clear d0 d1 f0 f1 c0 c1 c2
    (try simp only [Exit.inBlock, Exit.then])
    refine bodyPost_ret (v := .tuple #[.pointer none, .agg #[.int .i64 (k : Int), .int .u16 (cd : Int)]]) ?_ rfl ⟨_, rfl, ?_⟩
    · rw [results_tmp_cell rfl]
      go_simp
    · have hz2 := HE2.out.chg.size
      have hz1 := hb1.size
      have hal : Chg (fun q => q = w.heap.size + 1) w2 (w2.alloc (.cells #[.int .i64 (k : Int), .int .u16 (cd : Int)] 72)) := (Chg.refl _ _).alloc _
      have hch := (hal.trans hset).drew
      refine ⟨HE2.out.bay.keep hch (fun q hq e => by subst e; exact hq (hvir.out _ (by omega))), ?_, fun e => (by rw [HT.out] at e; cases e), fun _ => rfl⟩
      refine chg_and (chg_and (S := fun q => T q ≠ 0) (Chg.ofBelow (below_then hb0 hb1) _) HE2.out.chg (fun q hq e => ?_)) hch (fun q hq e => by omega)
      rcases e with e | e | e
      · exact e
      · omega
      · omega

end Go.Proofs.YtleicmmbaacbmaaGreat

/- Scrub: Lost. -/
set_option linter.unusedVariables false
namespace Go.Proofs.YtleicmmbaacbmaaGreat
open Go.RowKit

theorem ownsRow_lower {w : World} {B B' : Nat} {e : TypeId} {size : Nat} {v : Value} {n : Nat} {xs : List Value} (h : w.ownsRow B e size v n xs) (hB : B' ≤ B) : w.ownsRow B' e size v n xs := by
  refine ⟨h.1, ?_⟩
  rcases h.2 with hn | ⟨g, cap, cur, hv, hg, r⟩
  · exact .inl hn
  · exact .inr ⟨g, cap, cur, hv, Nat.le_trans hB hg, r⟩

/-- What Lost answers, if there is such a row and member, and leaves. -/
def lostVal (H : Handed) (v : Value) (w' : World) (B : Nat) : Prop :=
  (H.t = none → w'.ownsRow B 5 1 v 128 (ucells (sumL H.f 128))) ∧ (H.t ≠ none → v = .slice none 0 0)

set_option maxRecDepth 100000 in
set_option maxHeartbeats 4000000 in
theorem scrub_lost {w : World} {T : Nat → Nat} {b : Nat} {st : BaySt} (h : BayAt w T b st) (M C S m r : Nat) (hg : geoIs M C S = true) (hn : st.n = M + 1) (hm : m < M) (hr : r < S * C)
    (hcnt : st.cnt 0 ≤ 999999000000) (hsm : st.small 1000000) :
    Calls Tryz.prog 22 #[.pointer (some ⟨b, 0, none⟩), geo M C S, .int .i64 m, .int .i64 r] w fun e w' =>
      ∃ v, e = .returned (.tuple #[v, trVal (st.hand (1 + r) m M).t]) ∧ lostVal (st.hand (1 + r) m M) v w' w.heap.size ∧ BayAt w' T b (st.hand (1 + r) m M).s ∧ Chg (fun q => T q ≠ 0) w w' := by
  obtain ⟨g1, g2, g3, g4, g5, g6⟩ := (geoIs_iff M C S).1 hg
  have hrr : (r : Int) < (S : Int) * (C : Int) := by exact_mod_cast hr
  have hbd := geo_bounds hg
  have hr4 : r ≤ 4096 := by omega
  have hv := h.virgin
  have hvir := Lib.hid hv
  have hcode0 : mayCode st.n M C S m r = 0 := by
    unfold mayCode
    rw [if_pos hg, if_pos (by rw [hn]; omega), if_pos ⟨by omega, by omega, by omega, hrr⟩]
  have e1 : (w.alloc (.cells #[.int .i64 M, .int .i64 C, .int .i64 S] 23)).heap.size = w.heap.size + 1 := size_alloc _ _
  have e2 : ((w.alloc (.cells #[.int .i64 M, .int .i64 C, .int .i64 S] 23)).alloc (.cells #[.int .i64 0, .int .u16 0] 72)).heap.size = w.heap.size + 2 := by rw [size_alloc, e1]
  have hb0 : Below w.heap.size w ((w.alloc (.cells #[.int .i64 M, .int .i64 C, .int .i64 S] 23)).alloc (.cells #[.int .i64 0, .int .u16 0] 72)) := ((Below.refl _ _).alloc (Nat.le_refl _) _).alloc (by omega) _
  have ha : At ((w.alloc (.cells #[.int .i64 M, .int .i64 C, .int .i64 S] 23)).alloc (.cells #[.int .i64 0, .int .u16 0] 72)) w.heap.size #[.int .i64 M, .int .i64 C, .int .i64 S] 23 := (At.new _ _ _).alloc _
  have hre : At ((w.alloc (.cells #[.int .i64 M, .int .i64 C, .int .i64 S] 23)).alloc (.cells #[.int .i64 0, .int .u16 0] 72)) (w.heap.size + 1) #[.int .i64 0, .int .u16 0] 72 := At.new2 _ _ _ _
  have hba : BayAt ((w.alloc (.cells #[.int .i64 M, .int .i64 C, .int .i64 S] 23)).alloc (.cells #[.int .i64 0, .int .u16 0] 72)) T b st := h.below hb0
  have hmay := Lib.hid (scrub_may hba M C S m r)
  rw [hcode0] at hmay
  have HSM : Hid (∀ w1, Below ((w.alloc (.cells #[.int .i64 M, .int .i64 C, .int .i64 S] 23)).alloc (.cells #[.int .i64 0, .int .u16 0] 72)).heap.size ((w.alloc (.cells #[.int .i64 M, .int .i64 C, .int .i64 S] 23)).alloc (.cells #[.int .i64 0, .int .u16 0] 72)) w1 → Calls Tryz.prog 63 #[.pointer (some ⟨b, 0, none⟩), geo M C S, .int .i64 r, .int .i64 m] w1 fun e w' => ∃ p, e = .returned (.tuple #[p, trVal (st.hand (1 + r) m M).t]) ∧ SumPost w1 T b (st.hand (1 + r) m M) p w') := fun w1 hb => scrub_sum (hba.below hb) M C S r m (by omega) hr4 hcnt hsm
  have hcode := Lib.hid (hand_code st (1 + r) m M)
  have HA := Lib.hid ha
  have HR := Lib.hid hre
  have HAL := Lib.hid ha.lt
  clear ha hre hba h hv hcnt hsm hcode0 hbd hrr
  cases ht : (st.hand (1 + r) m M).t with
  | none =>
    have HT := Lib.hid ht
    rw [ht] at HSM
    clear ht
    unfold geo at *
    unfold trVal at *
    simp only [Option.getD_none] at *
    go_enter Tryz.func22, Tryz.ntmps22
    go_wp2_with (first
      | (go_at_call 61; refine hmay.out.mono ?_; rintro e w1 ⟨rfl, hb1⟩; have ha1 := HA.out.below hb1 HAL.out; have c0 := ha1.cell 0; have c1 := ha1.cell 1; have c2 := ha1.cell 2; clear ha1; have hR1 := HR.out.below hb1 (by rw [e2]; omega); have HR1 := Lib.hid hR1; clear hR1)
      | (go_at_call 63; refine (HSM.out w1 hb1).mono ?_; rintro e w2 ⟨p, rfl, hS⟩; obtain ⟨g, gb, many, rfl, m1, m2, hsum, hg1, hg2⟩ := hS.ok HT.out; have HS := Lib.hid hS; have HSU := Lib.hid (hsum.mod (S := fun _ => False) ((Chg.refl _ _).alloc (.cells #[.int .i64 0, .int .u16 0] 72)) (fun h => h) (fun h => h)); clear hS hsum; have hR2 := (HR1.out.mod HS.out.chg (fun e => e (hvir.out _ (by omega)))).alloc (.cells #[.int .i64 0, .int .u16 0] 72); have HR2 := Lib.hid hR2; clear hR2)
      | (go_at_call 65; refine (xor_value g gb 128 _ many _ HSU.out (by omega)).mono ?_; rintro e w3 ⟨v, rfl, hown, hb3⟩; have hR3 := HR2.out.below hb3 HR2.out.lt; have d0 := hR3.cell 0; have d1 := hR3.cell 1; have f0 := hR3.free 0; have f1 := hR3.free 1; have HR3 := Lib.hid hR3; have HO := Lib.hid hown; clear hR3 hown))
    obtain ⟨r0, r1, hset⟩ := trouble_set HR3.out (.int .i64 0) (.int .u16 0)
    clear d0 d1 f0 f1 c0 c1 c2
    (try simp only [Exit.inBlock, Exit.then])
    refine bodyPost_ret (v := .tuple #[v, .agg #[.int .i64 0, .int .u16 0]]) ?_ rfl ⟨_, rfl, ?_⟩
    · rw [results_tmp_cell rfl]
      go_simp
    · have hz1 := hb1.size
      have hz2 := HS.out.chg.size
      have hz3 := hb3.size
      rw [size_alloc] at hz3
      have hal : Chg (fun q => q = w.heap.size + 1) w2 (w2.alloc (.cells #[.int .i64 0, .int .u16 0] 72)) := (Chg.refl _ _).alloc _
      have hch := (hal.trans (Chg.ofBelow hb3 _)).trans hset
      refine ⟨⟨fun _ => ?_, fun e => absurd HT.out e⟩, HS.out.bay.keep hch (fun q hq e => by subst e; exact hq (hvir.out _ (by omega))), ?_⟩
      · refine ownsRow_mod (ownsRow_lower HO.out ?_) hset (fun g' hg' e => ?_)
        · rw [size_alloc]; omega
        · have := (HO.out.lt g' hg').1
          rw [size_alloc] at this
          omega
      · exact chg_and (chg_and (S := fun q => T q ≠ 0) (Chg.ofBelow (below_then hb0 hb1) _) HS.out.chg (fun q hq e => e)) hch (fun q hq e => by omega)
  | some t =>
    obtain ⟨k, cd⟩ := t
    obtain ⟨-, hcd0, -⟩ := hcode.out (k, cd) ht
    have hcd2 : ((cd : Int) != 0) = true := by simp; exact hcd0
    have HT := Lib.hid ht
    rw [ht] at HSM
    clear ht hcd0
    unfold geo at *
    unfold trVal at *
    simp only [Option.getD_some] at *
    go_enter Tryz.func22, Tryz.ntmps22
    go_wp2_with (first
      | (go_at_call 61; refine hmay.out.mono ?_; rintro e w1 ⟨rfl, hb1⟩; have ha1 := HA.out.below hb1 HAL.out; have c0 := ha1.cell 0; have c1 := ha1.cell 1; have c2 := ha1.cell 2; clear ha1; have hR1 := HR.out.below hb1 (by rw [e2]; omega); have HR1 := Lib.hid hR1; clear hR1)
      | (go_at_call 63; refine (HSM.out w1 hb1).mono ?_; rintro e w2 ⟨p, rfl, hS⟩; obtain rfl := hS.bad (by rw [HT.out]; simp); have HS := Lib.hid hS; clear hS; have hR2 := (HR1.out.mod HS.out.chg (fun e => e (hvir.out _ (by omega)))).alloc (.cells #[.int .i64 (k : Int), .int .u16 (cd : Int)] 72); have d0 := hR2.cell 0; have d1 := hR2.cell 1; have f0 := hR2.free 0; have f1 := hR2.free 1; have HR2 := Lib.hid hR2; clear hR2))
    go_region
    go_wp2
    obtain ⟨r0, r1, hset⟩ := trouble_set HR2.out (.int .i64 (k : Int)) (.int .u16 (cd : Int))
    clear d0 d1 f0 f1 c0 c1 c2
    (try simp only [Exit.inBlock, Exit.then])
    refine bodyPost_ret (v := .tuple #[.slice none 0 0, .agg #[.int .i64 (k : Int), .int .u16 (cd : Int)]]) ?_ rfl ⟨_, rfl, ?_⟩
    · rw [results_tmp_cell rfl]
      go_simp
    · have hz1 := hb1.size
      have hz2 := HS.out.chg.size
      have hal : Chg (fun q => q = w.heap.size + 1) w2 (w2.alloc (.cells #[.int .i64 (k : Int), .int .u16 (cd : Int)] 72)) := (Chg.refl _ _).alloc _
      have hch := (hal.trans hset).drew
      refine ⟨⟨fun e => (by rw [HT.out] at e; cases e), fun _ => rfl⟩, HS.out.bay.keep hch (fun q hq e => by subst e; exact hq (hvir.out _ (by omega))), ?_⟩
      exact chg_and (chg_and (S := fun q => T q ≠ 0) (Chg.ofBelow (below_then hb0 hb1) _) HS.out.chg (fun q hq e => e)) hch (fun q hq e => by omega)

end Go.Proofs.YtleicmmbaacbmaaGreat
