/- Several texts in one: LawD, RfV. -/
import Derived.Test.YtleicmmbaacbmaaGreatMrg19
import Derived.Test.YtleicmmbaacbmaaGreatRfT
import Derived.Test.YtleicmmbaacbmaaGreatRfU
/- The scrub laws' 'known' tells true. -/
set_option linter.unusedVariables false
namespace Go.Proofs.YtleicmmbaacbmaaGreat
open Go.RowKit

abbrev geo312 : Value := .agg #[.int .i64 3, .int .i64 1, .int .i64 2]
abbrev noTrouble : Value := .agg #[.int .i64 0, .int .u16 0]
def knownX : Sec := zsec.set 7 5
theorem knownX_length : knownX.length = 128 := by simp [knownX, zsec]
theorem knownX_at : knownX.getD 7 0 ≠ 0 := by decide

/-- The states that 'known' goes through. -/
structure KnownStates (s1 s4 : BaySt) : Prop where
  e1 : (newBay 3 2).write 0 2 knownX = (0, s1)
  n1 : s1.n = 4
  small1 : s1.small 1
  c10 : s1.cnt 0 = 0
  c11 : s1.cnt 1 = 1
  c12 : s1.cnt 2 = 0
  calm1 : CalmBay s1 (newSz 3 2)
  un1 : uneven s1 3 2 = [1]
  lost1 : sumL (xorTo (fun j => s1.sec j 2) 1 3) 128 = knownX
  e4 : ((s1.ticks 0 6).ticks 0 2).mend 3 1 1 = (none, s4)
  n4 : s4.n = 4
  small4 : s4.small 2
  calm4 : CalmBay s4 (newSz 3 2)
  un4 : uneven s4 3 2 = []
  c40 : s4.cnt 0 = 10
  c41 : s4.cnt 1 = 2
  c42 : s4.cnt 2 = 1

theorem known_states : ∃ s1 s4, KnownStates s1 s4 := by
  obtain ⟨s1, e1, hc, hn, hsm, c0, c1, c2, hsec⟩ := one_written (M := 3) (R := 2) (m := 0) (k := 1) (by omega) (by omega) (by omega) knownX_length
  have hc3 : CalmBay ((s1.ticks 0 6).ticks 0 2) (newSz 3 2) := (hc.ticks 0 6).ticks 0 2
  obtain ⟨s4, e4, hm⟩ := calm_mend_plain hc3 3 2 1 1 hn (fun m hm => newSz_at m hm) (by omega) (by omega)
  have hlost : sumL (xorTo (fun j => s1.sec j 2) 1 3) 128 = knownX := by
    refine sumL_eq knownX_length fun i hi => ?_
    rw [xorTo_one (f := fun j => s1.sec j 2) (m := 0) (x := knownX) (by show s1.sec 0 2 = _; rw [hsec 0 2 (by omega), if_pos ⟨rfl, rfl⟩]) 1 i 3 (fun j hj hj0 => by show s1.sec j 2 = _; rw [hsec j 2 (by omega), if_neg (by omega)]), if_pos (by omega)]
  have hsec4 : ∀ j q, j < 3 → q < 3 → s4.sec j q = if j = 1 ∧ q = 2 then knownX else s1.sec j q := fun j q hj hq => by
    rw [hm.sec j q (by show j < s1.n; omega) (by rw [newSz_at j hj]; omega)]
    by_cases h : j = 1 ∧ q = 1 + 1
    · rw [if_pos h, if_pos h]; exact hlost
    · rw [if_neg h, if_neg h]; rfl
  refine ⟨s1, s4, ⟨e1, hn, hsm, c0, c1, c2, hc, one_uneven hsec (by omega) (by omega) (by omega : 7 < 128) knownX_at, hlost, e4, hm.n.trans hn, hm.small 1 hsm, hm.calm, ?_, ?_, ?_, ?_⟩⟩
  · refine allZero_nil s4 3 2 fun r hr i hi => ?_
    by_cases hr1 : r = 1
    · subst hr1
      refine mended_even (f := fun j => s1.sec j 2) (g := fun j => s4.sec j 2) (M := 3) (p := 1) (by omega) ?_ (fun j hj hj1 => ?_) i hi
      · show s4.sec 1 2 = _
        rw [hsec4 1 2 (by omega) (by omega), if_pos ⟨rfl, rfl⟩]
        exact hlost.symm
      · show s4.sec j 2 = s1.sec j 2
        rw [hsec4 j 2 hj (by omega), if_neg (by omega)]
    · obtain rfl : r = 0 := by omega
      exact xorTo_zero _ _ i 3 (fun j hj _ => by show s4.sec j 1 = _; rw [hsec4 j 1 hj (by omega), if_neg (by omega), hsec j 1 (by omega), if_neg (by omega)])
  · rw [hm.c0]
    show (s1.cnt 0 + ((6 : Nat) : Int)) + ((2 : Nat) : Int) + ((3 - 1 : Nat) : Int) = 10
    rw [c0]; rfl
  · rw [hm.c1]
    show s1.cnt 1 + 1 = 2
    rw [c1]; rfl
  · rw [hm.c2]
    show s1.cnt 2 + 1 = 1
    rw [c2]; rfl

theorem geo312_ok : geoIs ((3 : Nat) : Int) ((1 : Nat) : Int) ((2 : Nat) : Int) = true := by decide

set_option maxRecDepth 100000 in
set_option maxHeartbeats 2000000 in
theorem law_known (w : World) : Calls Tryz.prog 5 #[] w fun e w' => e = .returned (.bool true) ∧ Below w.heap.size w w' := by
  obtain ⟨s1, s4, K⟩ := known_states
  have KS : Hid (∀ W, Calls Tryz.prog 6 #[geo312] W fun e w' => ∃ v, e = .returned v ∧ w'.ownsRow (W.heap.size + 1) 3 1 v (sizeL 3 2).length (kcells (sizeL 3 2)) ∧ Below W.heap.size W w') := fun W => law_sizes 3 1 2 W geo312_ok
  have KN : Hid (∀ W v B, W.ownsRow B 3 1 v (sizeL 3 2).length (kcells (sizeL 3 2)) → Calls Tryz.prog 7 #[v] W fun e w' => ∃ b T, e = .returned (.tuple #[.pointer (some ⟨b, 0, none⟩), .int .u16 0]) ∧ BayAt w' T b (newBay 3 2) ∧ (∀ q, q < W.heap.size → T q = 0) ∧ Below W.heap.size W w') := fun W v B hv => law_newBay 3 2 v B W (by omega) (by omega) hv
  have KX : Hid (∀ W, Calls Tryz.prog 20 #[.int .u8 5] W fun e w' => e = .returned (.slice (some ⟨W.heap.size, 0, none⟩) 128 128) ∧ At w' W.heap.size (ucells knownX).toArray 5 ∧ Below W.heap.size W w') := fun W => law_sector 5 W
  have KW : Hid (∀ W T b g, BayAt W T b (newBay 3 2) → At W g (ucells knownX).toArray 5 → T g = 0 → Calls Tryz.prog 19 #[.pointer (some ⟨b, 0, none⟩), .int .i64 0, .int .i64 2, .slice (some ⟨g, 0, none⟩) 128 128] W fun e w' => e = .returned (.int .u16 0) ∧ BayPost W T b s1 w') := fun W T b g hB hA hT => by
    have := bay_write hB 0 2 (.slice (some ⟨g, 0, none⟩) 128 128) knownX (by show (0 : Int) ≤ _; omega) (newBay_small 3 2 _) (seg_of_sec (seg_row hA knownX_length)) (fun a n c hv => by simp only [Value.slice.injEq, Option.some.injEq] at hv; rw [← hv.1]; exact hT)
    rw [K.e1] at this
    exact this
  have KR : Hid (∀ W T b, BayAt W T b s1 → Calls Tryz.prog 21 #[.pointer (some ⟨b, 0, none⟩), geo312] W fun e w' => ∃ v, e = .returned (.tuple #[v, noTrouble]) ∧ w'.ownsRow W.heap.size 3 1 v 1 (kcells [1]) ∧ BayAt w' T b (s1.ticks 0 6) ∧ Chg (fun q => T q ≠ 0) W w') := fun W T b hB => by
    have := calm_rows hB K.calm1 3 1 2 geo312_ok K.n1 (fun m hm => newSz_at m hm) (by rw [K.c10]; omega) (fun i hi x hx => Nat.le_trans (K.small1 i hi x hx) (by omega))
    rw [K.un1] at this
    exact this
  have KL : Hid (∀ W T b, BayAt W T b (s1.ticks 0 6) → Calls Tryz.prog 22 #[.pointer (some ⟨b, 0, none⟩), geo312, .int .i64 1, .int .i64 1] W fun e w' => ∃ v, e = .returned (.tuple #[v, noTrouble]) ∧ w'.ownsRow W.heap.size 5 1 v 128 (ucells knownX) ∧ BayAt w' T b ((s1.ticks 0 6).ticks 0 2) ∧ Chg (fun q => T q ≠ 0) W w') := fun W T b hB => by
    have := calm_lost hB (K.calm1.ticks 0 6) 3 1 2 1 1 geo312_ok K.n1 (fun m hm => newSz_at m hm) (by omega) (by omega) (by rw [cnt_ticks, K.c10]; omega) (fun i hi x hx => Nat.le_trans (K.small1 i hi x hx) (by omega))
    rw [show sumL (xorTo (fun j => (s1.ticks 0 6).sec j (1 + 1)) ((1 : Nat) : Int) 3) 128 = knownX from K.lost1] at this
    exact this
  have KM : Hid (∀ W T b, BayAt W T b ((s1.ticks 0 6).ticks 0 2) → Calls Tryz.prog 23 #[.pointer (some ⟨b, 0, none⟩), geo312, .int .i64 1] W fun e w' => e = .returned noTrouble ∧ BayPost W T b s4 w') := fun W T b hB => by
    refine calm_mend hB 3 1 2 1 geo312_ok K.n1 (by omega) (by rw [cnt_ticks, cnt_ticks, K.c10]; decide) (by show s1.cnt 1 ≤ _; rw [K.c11]; omega) (by show s1.cnt 2 ≤ _; rw [K.c12]; omega) (fun i hi x hx => Nat.le_trans (K.small1 i hi x hx) (by omega)) K.e4
  have KR2 : Hid (∀ W T b, BayAt W T b s4 → Calls Tryz.prog 21 #[.pointer (some ⟨b, 0, none⟩), geo312] W fun e w' => ∃ v, e = .returned (.tuple #[v, noTrouble]) ∧ w'.ownsRow W.heap.size 3 1 v 0 [] ∧ BayAt w' T b (s4.ticks 0 6) ∧ Chg (fun q => T q ≠ 0) W w') := fun W T b hB => by
    have := calm_rows hB K.calm4 3 1 2 geo312_ok K.n4 (fun m hm => newSz_at m hm) (by rw [K.c40]; omega) (fun i hi x hx => Nat.le_trans (K.small4 i hi x hx) (by omega))
    rw [K.un4] at this
    exact this
  have KC : Hid (∀ W T b, BayAt W T b (s4.ticks 0 6) → Calls Tryz.prog 10 #[.pointer (some ⟨b, 0, none⟩)] W fun e w' => e = .returned (.agg #[.int .i64 16, .int .i64 2, .int .i64 1]) ∧ Below W.heap.size W w') := fun W T b hB => by
    have := bay_counts hB
    unfold cntVal at this
    rw [cnt_ticks, cnt_ticks_ne _ _ _ 1 (by omega), cnt_ticks_ne _ _ _ 2 (by omega), K.c40, K.c41, K.c42] at this
    exact this
  have KSB : Hid (∀ u v W, Seg W u knownX → Seg W v knownX → Calls Tryz.prog 15 #[u, v] W fun e w' => e = .returned (.bool true) ∧ Below W.heap.size W w') := fun u v W h1 h2 => (same_any u v knownX knownX W (by rw [knownX_length]; omega) (by rw [knownX_length]; omega) h1 h2).mono fun e w' ⟨x1, x2⟩ => ⟨by rw [x1]; simp, x2⟩
  have KSR : Hid (∀ W g, At W g (ucells knownX).toArray 5 → Seg W (.slice (some ⟨g, 0, none⟩) 128 128) knownX) := fun W g hA => seg_of_sec (seg_row hA knownX_length)
  have KSG : Hid (∀ (W : World) (v : Value) (W' : World), (∃ B, (W.alloc (.cells #[.int .i64 0, .int .u16 0] 72)).ownsRow B 5 1 v 128 (ucells knownX)) → Below (W.alloc (.cells #[.int .i64 0, .int .u16 0] 72)).heap.size (W.alloc (.cells #[.int .i64 0, .int .u16 0] 72)) W' → Seg W' v knownX) := fun W v W' ho hb => by obtain ⟨B, ho⟩ := ho; exact (seg_of_sec ho).below hb
  clear K
  generalize knownX = X at *
  generalize newBay 3 2 = s0 at *
  generalize s1.ticks 0 6 = s2 at *
  generalize s2.ticks 0 2 = s3 at *
  generalize s4.ticks 0 6 = s5 at *
  go_enter Tryz.func5, Tryz.ntmps5
  go_wp2_with (first
    | (go_at_call 6; refine (KS.out _).mono ?_; rintro e w2 ⟨v, rfl, hv, hb2⟩)
    | (go_at_call 7; refine (KN.out _ _ _ hv).mono ?_; rintro e w3 ⟨b, T, rfl, hB3, hT, hb3⟩; have kb3 : Kept w3 T w.heap.size #[.int .i64 3, .int .i64 1, .int .i64 2] 23 := ⟨((At.new w _ _).below hb2 (by rw [size_alloc]; omega)).below hb3 (by have := hb2.size; rw [size_alloc] at this; omega), hT _ (by have := hb2.size; rw [size_alloc] at this; omega)⟩; have hl3 : Below w.heap.size w w3 := below_then (below_then ((Below.refl _ _).alloc (Nat.le_refl _) _) hb2) hb3; have ht3 : ∀ q, T q ≠ 0 → w.heap.size ≤ q := (fun q hq => Nat.le_of_not_lt fun hlt => hq (hT q (by have := hb2.size; rw [size_alloc] at this; omega))); have HB3 := Lib.hid hB3; have HTT := Lib.hid hT; have KB3 := Lib.hid kb3; have HL3 := Lib.hid hl3; have HT3 := Lib.hid ht3; clear hB3 hT kb3 hl3 ht3)
    | (go_at_call 20; refine (KX.out w3).mono ?_; rintro e w4 ⟨rfl, hA4, hb4⟩; have hB4 := HB3.out.below hb4; have kb4 := KB3.out.chg (Chg.ofBelow hb4 _); have hl4 := below_then HL3.out hb4; have tg4 : T w3.heap.size = 0 := HB3.out.virgin _ (Nat.le_refl _); have HA4 := Lib.hid hA4; have HB4 := Lib.hid hB4; have KB4 := Lib.hid kb4; have HL4 := Lib.hid hl4; have TG4 := Lib.hid tg4; clear hA4 hB4 kb4 hl4 tg4)
    | (go_at_call 19; refine (KW.out w4 T b _ HB4.out HA4.out TG4.out).mono ?_; rintro e w5 ⟨rfl, T5, hB5, hT5, hc5⟩; have kb5 := KB4.out.post hT5 hc5; have hl5 := Chg.own HL4.out hc5 HT3.out; have ht5 : ∀ q, T5 q ≠ 0 → w.heap.size ≤ q := (fun q hq => Nat.le_of_not_lt fun hlt => hq ((hT5 q (Nat.lt_of_lt_of_le hlt HL4.out.size)).trans (Classical.byContradiction fun e => absurd (HT3.out q e) (by omega)))); have c0 := kb5.at'.cell 0; have c1 := kb5.at'.cell 1; have c2 := kb5.at'.cell 2; have HB5 := Lib.hid hB5; have HTT5 := Lib.hid hT5; have KB5 := Lib.hid kb5; have HL5 := Lib.hid hl5; have HT5' := Lib.hid ht5; clear hB5 hT5 kb5 hl5 ht5)
    | (go_at_call 21; refine (KR.out w5 T5 b HB5.out).mono ?_; rintro e w6 ⟨vl, rfl, hown6, hB6, hc6⟩; obtain ⟨gl, cl, rfl, -, -⟩ := ownsRow_full hown6 (by omega); have kb6 := (KB5.out.chg hc6).alloc (.cells #[.int .i64 0, .int .u16 0] 72); have hd6 := (Held.new hown6 HB5.out.virgin).alloc (.cells #[.int .i64 0, .int .u16 0] 72); have kt6 : Kept (w6.alloc (.cells #[.int .i64 0, .int .u16 0] 72)) T5 w6.heap.size #[.int .i64 0, .int .u16 0] 72 := ⟨At.new _ _ _, hB6.virgin _ (Nat.le_refl _)⟩; have hBB6 := hB6.more (.cells #[.int .i64 0, .int .u16 0] 72); have hl6 := (Chg.own HL5.out hc6 HT5'.out).alloc (Chg.own HL5.out hc6 HT5'.out).size (.cells #[.int .i64 0, .int .u16 0] 72); have c0 := kb6.at'.cell 0; have c1 := kb6.at'.cell 1; have c2 := kb6.at'.cell 2; have HB6 := Lib.hid hB6; have HBB6 := Lib.hid hBB6; have KB6 := Lib.hid kb6; have HD6 := Lib.hid hd6; have KT6 := Lib.hid kt6; have HL6 := Lib.hid hl6; clear hB6 hBB6 kb6 hd6 kt6 hl6)
    | (go_at_call 22; refine (KL.out _ T5 b HBB6.out).mono ?_; rintro e w7 ⟨vx, rfl, hown7, hB7, hc7⟩; obtain ⟨gx, cx, rfl, -, -⟩ := ownsRow_full hown7 (by omega); have kb7 := (KB6.out.chg hc7).alloc (.cells #[.int .i64 0, .int .u16 0] 72); have hd7 := (HD6.out.chg hc7).alloc (.cells #[.int .i64 0, .int .u16 0] 72); have kt67 := (KT6.out.chg hc7).alloc (.cells #[.int .i64 0, .int .u16 0] 72); have hx7 := (Held.new hown7 HBB6.out.virgin).alloc (.cells #[.int .i64 0, .int .u16 0] 72); have kt7 : Kept (w7.alloc (.cells #[.int .i64 0, .int .u16 0] 72)) T5 w7.heap.size #[.int .i64 0, .int .u16 0] 72 := ⟨At.new _ _ _, hB7.virgin _ (Nat.le_refl _)⟩; have hBB7 := hB7.more (.cells #[.int .i64 0, .int .u16 0] 72); have hl7 := (Chg.own HL6.out hc7 HT5'.out).alloc (Chg.own HL6.out hc7 HT5'.out).size (.cells #[.int .i64 0, .int .u16 0] 72); have c0 := kb7.at'.cell 0; have c1 := kb7.at'.cell 1; have c2 := kb7.at'.cell 2; have HB7 := Lib.hid hB7; have HBB7 := Lib.hid hBB7; have KB7 := Lib.hid kb7; have HD7 := Lib.hid hd7; have KT67 := Lib.hid kt67; have HX7 := Lib.hid hx7; have KT7 := Lib.hid kt7; have HL7 := Lib.hid hl7; clear hB7 hBB7 kb7 hd7 kt67 hx7 kt7 hl7)
    | (go_at_call 23; refine (KM.out _ T5 b HBB7.out).mono ?_; rintro e w8 ⟨rfl, T8, hB8, hT8, hc8⟩; have kb8 := (KB7.out.post hT8 hc8).alloc (.cells #[.int .i64 0, .int .u16 0] 72); have hd8 := (HD7.out.post hT8 hc8).alloc (.cells #[.int .i64 0, .int .u16 0] 72); have kt68 := (KT67.out.post hT8 hc8).alloc (.cells #[.int .i64 0, .int .u16 0] 72); have hx8 := (HX7.out.post hT8 hc8).alloc (.cells #[.int .i64 0, .int .u16 0] 72); have kt78 := (KT7.out.post hT8 hc8).alloc (.cells #[.int .i64 0, .int .u16 0] 72); have kt8 : Kept (w8.alloc (.cells #[.int .i64 0, .int .u16 0] 72)) T8 w8.heap.size #[.int .i64 0, .int .u16 0] 72 := ⟨At.new _ _ _, hB8.virgin _ (Nat.le_refl _)⟩; have hBB8 := hB8.more (.cells #[.int .i64 0, .int .u16 0] 72); have hl8 := (Chg.own HL7.out hc8 HT5'.out).alloc (Chg.own HL7.out hc8 HT5'.out).size (.cells #[.int .i64 0, .int .u16 0] 72); have ht8 : ∀ q, T8 q ≠ 0 → w.heap.size ≤ q := (fun q hq => Nat.le_of_not_lt fun hlt => hq ((hT8 q (Nat.lt_of_lt_of_le hlt HL7.out.size)).trans (Classical.byContradiction fun e => absurd (HT5'.out q e) (by omega)))); have c0 := kb8.at'.cell 0; have c1 := kb8.at'.cell 1; have c2 := kb8.at'.cell 2; have HB8 := Lib.hid hB8; have HBB8 := Lib.hid hBB8; have HTT8 := Lib.hid hT8; have KB8 := Lib.hid kb8; have HD8 := Lib.hid hd8; have KT68 := Lib.hid kt68; have HX8 := Lib.hid hx8; have KT78 := Lib.hid kt78; have KT8 := Lib.hid kt8; have HL8 := Lib.hid hl8; have HT8 := Lib.hid ht8; clear hB8 hBB8 hT8 kb8 hd8 kt68 hx8 kt78 kt8 hl8 ht8)
    | (go_at_call 21; refine (KR2.out _ T8 b HBB8.out).mono ?_; rintro e w9 ⟨vm, rfl, hown9, hB9, hc9⟩; obtain ⟨am, cm, rfl⟩ := ownsRow_shape hown9; have hd9 := (HD8.out.chg hc9).alloc (.cells #[.int .i64 0, .int .u16 0] 72); have kt69 := (KT68.out.chg hc9).alloc (.cells #[.int .i64 0, .int .u16 0] 72); have hx9 := (HX8.out.chg hc9).alloc (.cells #[.int .i64 0, .int .u16 0] 72); have kt79 := (KT78.out.chg hc9).alloc (.cells #[.int .i64 0, .int .u16 0] 72); have kt89 := (KT8.out.chg hc9).alloc (.cells #[.int .i64 0, .int .u16 0] 72); have hBB9 := hB9.more (.cells #[.int .i64 0, .int .u16 0] 72); have hl9 := (Chg.own HL8.out hc9 HT8.out).alloc (Chg.own HL8.out hc9 HT8.out).size (.cells #[.int .i64 0, .int .u16 0] 72); have x0 := kt69.at'.cell 0; have x1 := kt69.at'.cell 1; have y0 := kt79.at'.cell 0; have y1 := kt79.at'.cell 1; have z0 := kt89.at'.cell 0; have z1 := kt89.at'.cell 1; have l0 : (w9.alloc (.cells #[.int .i64 0, .int .u16 0] 72)).cell? ⟨gl, 0, none⟩ = some (.int .i64 1) := hd9.cell (by omega) 0 (by omega); have HB9 := Lib.hid hB9; have HBB9 := Lib.hid hBB9; have HD9 := Lib.hid hd9; have KT69 := Lib.hid kt69; have HX9 := Lib.hid hx9; have KT79 := Lib.hid kt79; have KT89 := Lib.hid kt89; have HL9 := Lib.hid hl9; clear hB9 hBB9 hd9 kt69 hx9 kt79 kt89 hl9)
    | (go_at_call 20; refine (KX.out _).mono ?_; rintro e w10 ⟨rfl, hA10, hb10⟩; have hs10 : Seg w10 (.slice (some ⟨gx, 0, none⟩) 128 cx) X := (KSG.out w9 _ _ HX9.out.own hb10); have hu10 := KSR.out w10 _ hA10; rw [size_alloc] at hu10; have hBB10 := HBB9.out.below hb10; have hl10 := below_then HL9.out hb10; have HS10 := Lib.hid hs10; have HU10 := Lib.hid hu10; have HBB10 := Lib.hid hBB10; have HL10 := Lib.hid hl10; clear hs10 hu10 hBB10 hl10)
    | (go_at_call 15; refine (KSB.out _ _ w10 HS10.out HU10.out).mono ?_; rintro e w11 ⟨rfl, hb11⟩; have hBB11 := HBB10.out.below hb11; have hl11 := below_then HL10.out hb11; have HBB11 := Lib.hid hBB11; have HL11 := Lib.hid hl11; clear hBB11 hl11)
    | (go_at_call 10; refine (KC.out w11 T8 b HBB11.out).mono ?_; rintro e w12 ⟨rfl, hb12⟩; have hl12 := below_then HL11.out hb12; have HL12 := Lib.hid hl12; clear hl12))
  go_ret
  exact ⟨rfl, HL12.out⟩

end Go.Proofs.YtleicmmbaacbmaaGreat

/- ScrubDoes: its walk. -/
set_option linter.unusedVariables false
namespace Go.Proofs.YtleicmmbaacbmaaGreat
open Go.RowKit

/-- Behind k calls. -/
structure Ran (N k : Nat) (s : BaySt) (bs is : List Value) : Prop where
  n : s.n = N
  small : s.small k
  cnt : ∀ j, j < 3 → s.cnt j ≤ 70000 * (k : Int)
  still : s.still
  bl : bs.length ≤ k
  il : is.length ≤ k
theorem Ran.next {N k : Nat} {s s' : BaySt} {bs is bs' is' : List Value} (h : Ran N k s bs is) (hg : Grow s s') (h1 : bs'.length ≤ bs.length + 1) (h2 : is'.length ≤ is.length + 1) : Ran N (k + 1) s' bs' is' :=
  ⟨hg.n.trans h.n, hg.small k h.small, fun j hj => by have := hg.cnt j hj; have := h.cnt j hj; push_cast; omega, hg.still, by have := h.bl; omega, by have := h.il; omega⟩

/-- Both bays stand, with the book, behind k calls. -/
def RunAt (W0 : World) (b c K N k : Nat) (wx : World) : Prop := ∃ s T R bs is vb vi, SAt W0 wx b c K s T R bs is vb vi ∧ Ran N k s bs is

theorem RunAt.more {W0 wx w2 : World} {b c K N k : Nat} (h : RunAt W0 b c K N k wx) (hb : Below wx.heap.size wx w2) : RunAt W0 b c K N k w2 := by
  obtain ⟨s, T, R, bs, is, vb, vi, h1, h2⟩ := h
  exact ⟨s, T, R, bs, is, vb, vi, h1.more hb, h2⟩
theorem RunAt.old {W0 wx : World} {b c K N k : Nat} (h : RunAt W0 b c K N k wx) : Below W0.heap.size W0 wx := by
  obtain ⟨s, T, R, bs, is, vb, vi, h1, h2⟩ := h
  exact h1.old

theorem run_start {W0 wa w1 w2 : World} {b c M R : Nat} {T : Nat → Nat} (h0 : Below W0.heap.size W0 wa) (hb : BayAt w1 T b (newBay M R)) (hT : ∀ q, q < wa.heap.size → T q = 0) (h1 : Below wa.heap.size wa w1) (hR : R ≤ 4096) (hr : RBayMade w1 (newBay M R) c w2) :
    RunAt W0 b c w2.heap.size (M + 1) 0 (w2.alloc (.cells (bookC (.slice none 0 0) (.slice none 0 0) (.slice none 0 0)) 51)) := by
  obtain ⟨r1, r2⟩ := hr
  have hs0 := h0.size
  have hs1 := h1.size
  have hs2 := r2.size
  have hal : Chg (fun _ => False) w2 (w2.alloc (.cells (bookC (.slice none 0 0) (.slice none 0 0) (.slice none 0 0)) 51)) := (Chg.refl _ _).alloc _
  refine ⟨newBay M R, T, _, [], [], .slice none 0 0, .slice none 0 0, ⟨?_, (hb.below r2).keep hal (fun _ _ e => e), r1.keep hal (fun _ _ e => e), ⟨At.new _ _ _, World.ownsRow_nil _ _ _ _, World.ownsRow_nil _ _ _ _, World.ownsRow_nil _ _ _ _, fun x hx => by simp at hx, fun x hx => by simp at hx, fun x hx => by simp at hx, List.Pairwise.nil, List.Pairwise.nil, List.Pairwise.nil⟩, fun q hq => hT q (by omega), fun q hq => ?_, fun q hq => ?_, fun q hq => hb.virgin q hq.1, fun q hq => ?_⟩, ?_⟩
  · exact (below_then (below_then h0 h1) r2).alloc (by omega) _
  · have := hq.1; omega
  · rcases hq with rfl | hq | hq | ⟨x, hx, -⟩ | ⟨x, hx, -⟩
    · omega
    · simp [Value.ownBlock] at hq
    · simp [Value.ownBlock] at hq
    · simp at hx
    · simp at hx
  · rcases hq with rfl | hq | hq | ⟨x, hx, -⟩ | ⟨x, hx, -⟩
    · exact ⟨hb.virgin _ hs2, fun e => by have := e.2; omega⟩
    · simp [Value.ownBlock] at hq
    · simp [Value.ownBlock] at hq
    · simp at hx
    · simp at hx
  · refine ⟨newBay_n M R, newBay_small M R 0, fun j hj => by rw [newBay_cnt]; omega, fun k hk => ?_, by simp, by simp⟩
    show (if (k * 3 + 2) % 3 = 0 ∧ _ then _ else none) = none
    rw [if_neg (by omega)]

/-- A call of the script, behind k others. -/
theorem run_does {W0 w : World} {b c K N k : Nat} (h : RunAt W0 b c K N k w) (hk : k ≤ 30000) (mg cg sg kk m n : Int) (v : Value) (B : List UInt8) (hv : Seg w v B) (hv0 : B ≠ [] → ∀ a q cc, v = .slice (some a) q cc → a.block < W0.heap.size) (hn : n ≤ 9223372036854775807) :
    Calls Tryz.prog 9 #[.pointer (some ⟨b, 0, none⟩), .pointer (some ⟨c, 0, none⟩), geo mg cg sg, .agg #[.int .i64 kk, .int .i64 m, .int .i64 n, v], .pointer (some ⟨K, 0, none⟩)] w fun e w' => e = .returned (.bool true) ∧ RunAt W0 b c K N (k + 1) w' := by
  obtain ⟨s, T, R, bs, is, vb, vi, h1, h2⟩ := h
  refine (law_does h1 mg cg sg kk m n v B hv hv0 hn h2.still (fun j hj => by have := h2.cnt j hj; omega) (small_up h2.small (by omega)) (by have := h2.bl; omega) (by have := h2.il; omega)).mono fun e w' ⟨q1, s', T', R', bs', is', vb', vi', q2, q3, q4, q5⟩ => ⟨q1, s', T', R', bs', is', vb', vi', q2, h2.next q3 q4 q5⟩

/-- Both count alike. -/
theorem run_counts {W0 w : World} {b c K N k : Nat} (h : RunAt W0 b c K N k w) :
    ∃ z : Nat → Int, (∀ W, Below w.heap.size w W → Calls Tryz.prog 10 #[.pointer (some ⟨b, 0, none⟩)] W fun e w' => e = .returned (.agg #[.int .i64 (z 0), .int .i64 (z 1), .int .i64 (z 2)]) ∧ Below W.heap.size W w') ∧ ∀ W, Below w.heap.size w W → W.cell? ⟨c, 3, none⟩ = some (.int .i64 (z 0)) ∧ W.cell? ⟨c, 4, none⟩ = some (.int .i64 (z 1)) ∧ W.cell? ⟨c, 5, none⟩ = some (.int .i64 (z 2)) := by
  obtain ⟨s, T, R, bs, is, vb, vi, h1, h2⟩ := h
  refine ⟨s.cnt, fun W hW => bay_counts (h1.bay.below hW), fun W hW => ?_⟩
  obtain ⟨gs, cap, ptr, D, hr⟩ := h1.ref
  have := hr.bay.below hW hr.bay.lt
  exact ⟨this.cell 3, this.cell 4, this.cell 5⟩

/-- The power goes, for both. -/
theorem run_cut {W0 w : World} {b c K N k : Nat} (h : RunAt W0 b c K N k w) (hk : k ≤ 30000) :
    Calls Tryz.prog 11 #[.pointer (some ⟨b, 0, none⟩), .slice none 0 0] w fun e w1 => e = .returned (.tuple #[]) ∧
      Calls Tryz.prog 12 #[.pointer (some ⟨c, 0, none⟩), .slice none 0 0] w1 fun e w2 => e = .returned (.tuple #[]) ∧ RunAt W0 b c K N (k + 1) w2 := by
  obtain ⟨s, T, R, bs, is, vb, vi, h1, h2⟩ := h
  refine (bay_cut h1.bay (.slice none 0 0) [] (Bitss.nil w T) (BaySt.small.in (small_up h2.small (by omega)))).mono fun e w1 ⟨q1, q2, q3⟩ => ⟨q1, ?_⟩
  refine (rbay_cut (h1.mid q3) h2.still).mono fun e w2 ⟨p1, p2⟩ => ⟨p1, ?_⟩
  obtain ⟨T', R', r1, -, -, -⟩ := h1.both (.same q2 q3) p2
  exact ⟨s.cut [], T', R', bs, is, vb, vi, r1, h2.next (grow_cut h2.still) (by omega) (by omega)⟩

/-- Both show the same image. -/
theorem run_images {W0 w : World} {b c K N k : Nat} (h : RunAt W0 b c K N k w) (i : Int) :
    ∃ (z : Nat) (I : List UInt8), (∀ W, Below w.heap.size w W → Calls Tryz.prog 13 #[.pointer (some ⟨b, 0, none⟩), .int .i64 i] W fun e w' => ∃ v, e = .returned (.tuple #[v, .int .u16 ((z : Nat) : Int)]) ∧ Seg w' v I ∧ I.length ≤ 1048576 ∧ Below W.heap.size W w') ∧
      ∀ W, Below w.heap.size w W → Calls Tryz.prog 14 #[.pointer (some ⟨c, 0, none⟩), .int .i64 i] W fun e w' => ∃ v, e = .returned (.tuple #[v, .int .u16 ((z : Nat) : Int)]) ∧ Seg w' v I ∧ I.length ≤ 1048576 ∧ Below W.heap.size W w' := by
  obtain ⟨s, T, R, bs, is, vb, vi, h1, h2⟩ := h
  have key : ∀ (o : Option (List Sec)), ∃ I : List UInt8, (∀ (W w' : World) (v : Value), ((∀ l, o = some l → l.length ≤ 8192 ∧ w'.ownsRow W.heap.size 5 1 v (l.length * 128) (secCells l)) ∧ (o = none → v = .slice none 0 0)) → Seg w' v I ∧ I.length ≤ 1048576) := by
    intro o
    cases o with
    | none => exact ⟨[], fun W w' v h => by rw [h.2 rfl]; exact ⟨Seg.nil _, Nat.zero_le _⟩⟩
    | some l =>
      refine ⟨l.flatten, fun W w' v h => ?_⟩
      obtain ⟨a1, a2⟩ := h.1 l rfl
      rw [secCells_flat] at a2
      have hl : l.flatten.length = l.length * 128 := by have := a2.1; rw [ucells_length] at this; omega
      rw [← hl] at a2
      exact ⟨seg_of_owns a2, by omega⟩
  obtain ⟨I, hI⟩ := key (s.image i).2
  exact ⟨(s.image i).1, I, fun W hW => (bay_image (h1.bay.below hW) i).mono fun e w' ⟨v, q1, q2, q3, q4⟩ => ⟨v, q1, (hI W w' v ⟨q3, q4⟩).1, (hI W w' v ⟨q3, q4⟩).2, q2⟩,
    fun W hW => (rbay_image (h1.ref.below hW) i).mono fun e w' ⟨v, q1, q2, q3, q4⟩ => ⟨v, q1, (hI W w' v ⟨q3, q4⟩).1, (hI W w' v ⟨q3, q4⟩).2, q2⟩⟩

/-- The book is its own. -/
theorem run_own {W0 w : World} {b c K N k : Nat} (h : RunAt W0 b c K N k w) (hk : k ≤ 30000) :
    Calls Tryz.prog 16 #[.pointer (some ⟨K, 0, none⟩)] w fun e w' => e = .returned (.bool true) ∧ Below W0.heap.size W0 w' := by
  obtain ⟨s, T, R, bs, is, vb, vi, h1, h2⟩ := h
  refine (book_own (W := w) (bs := bs) (is := is) (ps := []) ⟨vb, vi, _, h1.bk⟩ (by have := h2.bl; omega) (by have := h2.il; omega) (by simp)).mono fun e w' ⟨q1, q2⟩ => ⟨q1, Chg.own h1.old q2 (fun q hq => ?_)⟩
  rcases hq with ⟨y, hy, e⟩ | ⟨y, hy, e⟩ | ⟨y, hy, e⟩
  · exact h1.k0 q (.inr (.inr (.inr (.inl ⟨y, hy, e⟩))))
  · exact h1.k0 q (.inr (.inr (.inr (.inr ⟨y, hy, e⟩))))
  · simp at hy

end Go.Proofs.YtleicmmbaacbmaaGreat
