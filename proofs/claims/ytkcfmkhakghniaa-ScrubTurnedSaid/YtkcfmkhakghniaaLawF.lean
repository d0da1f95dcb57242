/- One sector that turned is told with its row: the walk. -/
import Derived.Test.YtkcfmkhakghniaaLawD
import Derived.Test.YtkcfmkhakghniaaLawE
import Derived.Test.YtkcfmkhakghniaaMaxW
set_option linter.unusedVariables false
namespace Go.Proofs.Ytkcfmkhakghniaa
open Go.RowKit

set_option maxRecDepth 100000 in
set_option maxHeartbeats 4000000 in
theorem turned_bad (m c s a1 a2 a3 a4 : Int) (w : World) (hg : geoIs m c s = false) :
    Calls Try.prog 3 #[geo m c s, .int .i64 a1, .int .i64 a2, .int .i64 a3, .int .u8 a4] w fun e w' => e = .returned (.bool true) ∧ Below w.heap.size w w' := by
  have hk := Lib.hid (fun W => ref_check m c s W)
  have hb0 : Below w.heap.size w (w.alloc (.cells #[.int .i64 m, .int .i64 c, .int .i64 s] 23)) := (Below.refl _ _).alloc (Nat.le_refl _) _
  unfold geoCode at hk
  rw [hg] at hk
  simp only [if_false, Bool.false_eq_true] at hk
  unfold geo at *
  go_enter Try.func3, Try.ntmps3
  go_wp2_with (go_at_call 9; (with_reducible refine (hk.out _).mono ?_); rintro e w1 ⟨rfl, hb1⟩)
  go_ret
  exact ⟨rfl, below_then hb0 hb1⟩

set_option maxRecDepth 100000 in
set_option maxHeartbeats 4000000 in
theorem turned_ok (M C S : Nat) (a1 a2 a3 : Int) (x : UInt8) (w : World) (hg : geoIs M C S = true) :
    Calls Try.prog 3 #[geo M C S, .int .i64 a1, .int .i64 a2, .int .i64 a3, .int .u8 ((x.toNat : Nat) : Int)] w fun e w' => e = .returned (.bool true) ∧ Below w.heap.size w w' := by
  obtain ⟨g1, g2, g3, g4, g5, g6⟩ := (geoIs_iff M C S).1 hg
  have hbd := geo_bounds hg
  have hR1 : S * C ≤ 4096 := by have := hbd.2; exact_mod_cast this
  have hR0 : 0 < S * C := Nat.mul_pos (by omega) (by omega)
  have KC : Hid (∀ W, Calls Try.prog 9 #[geo M C S] W fun e w' => e = .returned (.int .i64 0) ∧ Below W.heap.size W w') := fun W => (ref_check M C S W).mono fun e w' ⟨x1, x2⟩ => ⟨by rw [x1]; unfold geoCode; rw [if_pos hg], x2⟩
  have KU : Hid (∀ W, Calls Try.prog 10 #[geo M C S, .slice none 0 0] W fun e w' => e = .returned (.bool false) ∧ Below W.heap.size W w') := fun W => (law_much M C S _ [] W (Acts.nil W) hg).mono fun e w' ⟨r, x1, x2, x3, x4⟩ => ⟨by rw [x1, x3 rfl], x4⟩
  have KS : Hid (∀ W, Calls Try.prog 12 #[geo M C S] W fun e w' => ∃ v, e = .returned v ∧ w'.ownsRow (W.heap.size + 1) 3 1 v (sizeL M (S * C)).length (kcells (sizeL M (S * C))) ∧ Below W.heap.size W w') := fun W => law_sizes M C S W hg
  have KN : Hid (∀ W v B, W.ownsRow B 3 1 v (sizeL M (S * C)).length (kcells (sizeL M (S * C))) → Calls Try.prog 11 #[v] W fun e w' => ∃ b T, e = .returned (.tuple #[.pointer (some ⟨b, 0, none⟩), .int .u16 0]) ∧ BayAt w' T b (newBay M (S * C)) ∧ (∀ q, q < W.heap.size → T q = 0) ∧ Below W.heap.size W w') := fun W v B hv => law_newBay M (S * C) v B W (by omega) hR1 hv
  have KK : Hid (∀ W, Calls Try.prog 13 #[] W fun e w' => e = .returned (.bool true) ∧ Below W.heap.size W w') := law_known
  have KR : Hid (∀ W, Calls Try.prog 14 #[geo M C S] W fun e w' => e = .returned (.int .i64 ((S * C : Nat) : Int)) ∧ Below W.heap.size W w') := fun W => (ref_rows M C S W).mono fun e w' ⟨x1, x2⟩ => ⟨by rw [x1]; unfold geoRows; rw [if_pos hg, Int.natCast_mul], x2⟩
  have hb0 : Below w.heap.size w (w.alloc (.cells #[.int .i64 M, .int .i64 C, .int .i64 S] 23)) := (Below.refl _ _).alloc (Nat.le_refl _) _
  have ha0 : At (w.alloc (.cells #[.int .i64 M, .int .i64 C, .int .i64 S] 23)) w.heap.size #[.int .i64 M, .int .i64 C, .int .i64 S] 23 := At.new _ _ _
  have HA0 := Lib.hid ha0
  have HAL := Lib.hid ha0.lt
  have HHH : Hid (∀ X, At X w.heap.size #[.int .i64 M, .int .i64 C, .int .i64 S] 23 → X.cell? ⟨w.heap.size, 0, none⟩ = some (.int .i64 M) ∧ X.cell? ⟨w.heap.size, 1, none⟩ = some (.int .i64 C) ∧ X.cell? ⟨w.heap.size, 2, none⟩ = some (.int .i64 S)) := fun X h => ⟨h.cell 0, h.cell 1, h.cell 2⟩
  clear ha0 hbd
  generalize hR : S * C = R at *
  have tm : ∀ (a : Int) (n : Nat), 0 < n → -(n : Int) < Int.tmod a n ∧ Int.tmod a n < n ∧ ((Int.tmod a n).natAbs < n) := fun a n hn => by
    have h1 := Int.natAbs_tmod a n
    have h2 : a.natAbs % n < n := Nat.mod_lt _ hn
    have h3 : (Int.tmod a n).natAbs < n := by rw [h1, Int.natAbs_natCast]; exact h2
    omega
  obtain ⟨r1a, r1b, hm⟩ := tm a1 M (by omega)
  obtain ⟨r2a, r2b, hk⟩ := tm a2 R hR0
  obtain ⟨r3a, r3b, hi⟩ := tm a3 128 (by omega)
  have hmx : ∀ z : Int, ((z.natAbs : Nat) : Int) = if z < -z then -z else z := fun z => by split <;> omega
  have hmx1 := Lib.hid (hmx (Int.tmod a1 M))
  have hmx2 := Lib.hid (hmx (Int.tmod a2 R))
  have hmx3 := Lib.hid (hmx (Int.tmod a3 128))
  clear tm hmx
  generalize hem : (Int.tmod a1 M).natAbs = m at *
  generalize hek : (Int.tmod a2 R).natAbs = k at *
  generalize hei : (Int.tmod a3 128).natAbs = i at *
  clear hem hek hei
  change -(128 : Int) < Int.tmod a3 128 at r3a
  change Int.tmod a3 128 < (128 : Int) at r3b
  have m0a : ¬ M = 0 := by omega
  have m0b : ¬ R = 0 := by omega
  have m0c : ¬ (M : Int) = 0 := by omega
  have m0d : ¬ (R : Int) = 0 := by omega
  have hX : (zsec.set i x).length = 128 := by simp [zsec]
  obtain ⟨s1, e1, hc1, hn1, hsm1, c0', c1', c2', hsec⟩ := one_written (M := M) (R := R) (m := m) (k := k) hR1 hm hk hX
  have KW : Hid (∀ W T b g, BayAt W T b (newBay M R) → At W g (ucells (zsec.set i x)).toArray 5 → T g = 0 → Calls Try.prog 15 #[.pointer (some ⟨b, 0, none⟩), .int .i64 m, .int .i64 (1 + (k : Int)), .slice (some ⟨g, 0, none⟩) 128 128] W fun e w' => e = .returned (.int .u16 0) ∧ BayPost W T b s1 w') := fun W T b g hB hA hT => by
    have := bay_write hB m (1 + (k : Int)) (.slice (some ⟨g, 0, none⟩) 128 128) (zsec.set i x) (by show (0 : Int) ≤ _; omega) (newBay_small M R _) (seg_of_sec (seg_row hA hX)) (fun a n c hv => by simp only [Value.slice.injEq, Option.some.injEq] at hv; rw [← hv.1]; exact hT)
    rw [e1] at this
    exact this
  have KRw : Hid (∀ W T b, BayAt W T b s1 → Calls Try.prog 16 #[.pointer (some ⟨b, 0, none⟩), geo M C S] W fun e w' => ∃ v, e = .returned (.tuple #[v, noTrouble]) ∧ w'.ownsRow W.heap.size 3 1 v (uneven s1 M R).length (kcells (uneven s1 M R)) ∧ BayAt w' T b (s1.ticks 0 (R * M)) ∧ Chg (fun q => T q ≠ 0) W w') := fun W T b hB => by
    have := calm_rows hB hc1 M C S hg hn1 (fun m hm => by rw [hR]; exact newSz_at m hm) (by rw [c0']; omega) (fun i hi x hx => Nat.le_trans (hsm1 i hi x hx) (by omega))
    rw [hR] at this
    exact this
  have hset := Lib.hid (ucells_set zsec i x)
  have hz7 : Hid ((ucells zsec).toArray[i]? = some (.int .u8 0)) := by
    refine Lib.hid ?_
    rw [List.getElem?_toArray]
    unfold ucells zsec
    rw [List.getElem?_map, List.getElem?_replicate, if_pos hi]
    rfl
  have hRM : R * M ≤ 4096 * 16 := Nat.mul_le_mul hR1 (by omega)
  unfold geo at *
  go_enter Try.func3, Try.ntmps3
  go_wp2_with (first
    | (go_at_call 9; (with_reducible refine (KC.out _).mono ?_); rintro e w1 ⟨rfl, hb1⟩; have ha1 := HA0.out.below hb1 HAL.out; have c0 := ha1.cell 0; have c1 := ha1.cell 1; have c2 := ha1.cell 2; have HA1 := Lib.hid ha1; clear ha1)
    | (go_at_call 10; (with_reducible refine (KU.out _).mono ?_); rintro e w2 ⟨rfl, hb2⟩; have ha2 := HA1.out.below hb2 HA1.out.lt; have c0 := ha2.cell 0; have c1 := ha2.cell 1; have c2 := ha2.cell 2; have HA2 := Lib.hid ha2; clear ha2)
    | (go_at_call 12; (with_reducible refine (KS.out _).mono ?_); rintro e w3 ⟨v, rfl, hv, hb3⟩; have HA3 := Lib.hid (HA2.out.below hb3 HA2.out.lt))
    | (go_at_call 11; refine (KN.out _ _ _ hv).mono ?_; rintro e w4 ⟨b, T, rfl, hB4, hT, hb4⟩; have ha4 := HA3.out.below hb4 HA3.out.lt; have hl4 : Below w.heap.size w w4 := below_then (below_then (below_then (below_then hb0 hb1) hb2) hb3) hb4; have tg4 : T w.heap.size = 0 := hT _ HA3.out.lt; have ht4 : ∀ q, T q ≠ 0 → w.heap.size ≤ q := (fun q hq => Nat.le_of_not_lt fun hlt => hq (hT q (Nat.lt_trans hlt HA3.out.lt))); have HB4 := Lib.hid hB4; have HT4 := Lib.hid ht4; have TG4 := Lib.hid tg4; have HL4 := Lib.hid hl4; have HA4 := Lib.hid ha4; clear hB4 hT ht4 tg4 hl4 ha4)
    | (go_at_call 13; (with_reducible refine (KK.out _).mono ?_); rintro e w5 ⟨rfl, hb5⟩; have hB5 := HB4.out.below hb5; have ha5 := HA4.out.below hb5 HA4.out.lt; have hl5 := below_then HL4.out hb5; have HB5 := Lib.hid hB5; have HA5 := Lib.hid ha5; have HL5 := Lib.hid hl5; clear hB5 ha5 hl5))
  go_region_held3 (fun w' => w'.cell? ⟨w.heap.size, 0, none⟩ = some (.int .i64 M) ∧ w'.cell? ⟨w.heap.size, 1, none⟩ = some (.int .i64 C) ∧ w'.cell? ⟨w.heap.size, 2, none⟩ = some (.int .i64 S))
    (first | exact HHH.out _ HA5.out | exact HHH.out _ HA5.out.drew | exact HHH.out _ HA6.out)
    (first | (go_at_call 14; (with_reducible refine (KR.out _).mono ?_); rintro e w6 ⟨rfl, hb6⟩; have HA6 := Lib.hid (HA5.out.drew.below hb6 HA5.out.lt); have HB6 := Lib.hid ((HB5.out.keep (S := fun _ => False) ((Chg.refl _ _).drew) (fun _ _ h => h)).below hb6); have HL6 := Lib.hid (below_then HL5.out.drew hb6); clear hb6))
  by_cases hx0 : x = 0
  · have hu : uneven s1 M R = [] := none_uneven fun j q hj => by
      rw [hsec j q (by omega)]
      by_cases h : j = m ∧ q = 1 + k
      · rw [if_pos h, hx0]
        unfold zsec
        rw [List.set_replicate_self]
      · rw [if_neg h]
    rw [hu] at KRw
    simp only [List.length_nil] at KRw
    have hxz : ((((x.toNat : Nat) : Int)) == 0) = true := by rw [hx0]; rfl
    clear hu hx0 hsec
    generalize hy : ((x.toNat : Nat) : Int) = y at *
    clear hy
    as_aux_lemma =>
      go_wp2_with (first
        | (first | (refine wpList_max rfl _ _ 3 rfl _ _ (m : Int) rfl rfl hmx1.out ?_) | (refine wpList_max rfl _ _ 3 rfl _ _ (k : Int) rfl rfl hmx2.out ?_) | (refine wpList_max rfl _ _ 3 rfl _ _ (i : Int) rfl rfl hmx3.out ?_))
        | (refine wpList_make_same rfl _ _ 34 5 1 1 rfl slice_bytes (.int .u8 0) (by kernel_rfl) _ _ _ _ 128 rfl rfl rfl rfl (by omega) (by unfold maxLen; omega) ?_; intro w7 a7 b7; rw [zsec_ucells] at a7; have f7 := a7.free i; have d7 : w7.cell? ⟨w6.heap.size, i, none⟩ = some (.int .u8 0) := (a7.cell i).trans hz7.out; have A7 := Lib.hid a7; clear a7)
        | (go_at_call 15; refine (KW.out _ T b _ ((HB6.out.below b7).keep (S := fun q => q = w6.heap.size) (Chg.setCell (S := fun q => q = w6.heap.size) (Chg.refl _ _) ⟨w6.heap.size, i, none⟩ (.inl rfl) _) (fun q hq e => hq (by rw [e]; exact HB6.out.virgin _ (Nat.le_refl _)))) (by rw [← hset.out]; exact A7.out.set i _) (HB6.out.virgin _ (Nat.le_refl _))).mono ?_; rintro e w8 ⟨rfl, T8, hB8, hT8, hc8⟩; have kb8 : Kept w8 T8 w.heap.size #[.int .i64 M, .int .i64 C, .int .i64 S] 23 := Kept.post (w := (w7.setCell ⟨w6.heap.size, i, none⟩ (.int .u8 y))) ⟨(HA6.out.below b7 HA6.out.lt).setOther (by have := HA6.out.lt; show w.heap.size ≠ w6.heap.size; omega) _, TG4.out⟩ hT8 hc8; have hl7 : Below w.heap.size w (w7.setCell ⟨w6.heap.size, i, none⟩ (.int .u8 y)) := (below_then HL6.out b7).setCell (p := ⟨w6.heap.size, i, none⟩) (Nat.le_of_lt HA6.out.lt) _; have hl8 := Chg.own hl7 hc8 HT4.out; have ht8 : ∀ q, T8 q ≠ 0 → w.heap.size ≤ q := (fun q hq => Nat.le_of_not_lt fun hlt => hq ((hT8 q (Nat.lt_of_lt_of_le hlt hl7.size)).trans (Classical.byContradiction fun e => absurd (HT4.out q e) (by omega)))); have c0 := kb8.at'.cell 0; have c1 := kb8.at'.cell 1; have c2 := kb8.at'.cell 2; have KB8 := Lib.hid kb8; have HL8 := Lib.hid hl8; have HT8 := Lib.hid ht8; have HB8 := Lib.hid hB8; clear kb8 hl7 hl8 ht8 hB8 hT8)
        | (go_at_call 16; refine (KRw.out w8 T8 b HB8.out).mono ?_; rintro e w9 ⟨vl, rfl, hown9, hB9, hc9⟩; obtain ⟨al, cl, rfl⟩ := ownsRow_shape hown9; have kb9 := (KB8.out.chg hc9).alloc (.cells #[.int .i64 0, .int .u16 0] 37); have hd9 := (Held.new hown9 HB8.out.virgin).alloc (.cells #[.int .i64 0, .int .u16 0] 37); have kt9 : Kept (w9.alloc (.cells #[.int .i64 0, .int .u16 0] 37)) T8 w9.heap.size #[.int .i64 0, .int .u16 0] 37 := ⟨At.new _ _ _, hB9.virgin _ (Nat.le_refl _)⟩; have hBB9 := hB9.more (.cells #[.int .i64 0, .int .u16 0] 37); have hl9 := (Chg.own HL8.out hc9 HT8.out).alloc (Chg.own HL8.out hc9 HT8.out).size (.cells #[.int .i64 0, .int .u16 0] 37); have c0 := kb9.at'.cell 0; have c1 := kb9.at'.cell 1; have c2 := kb9.at'.cell 2; have KB9 := Lib.hid kb9; have HD9 := Lib.hid hd9; have KT9 := Lib.hid kt9; have HBB9 := Lib.hid hBB9; have HL9 := Lib.hid hl9; clear kb9 hd9 kt9 hBB9 hl9 hB9))
      go_ret
      exact ⟨rfl, HL9.out⟩
  · have hxi : (zsec.set i x).getD i 0 ≠ 0 := by
      rw [List.getD_eq_getElem?_getD, List.getElem?_set, if_pos rfl, if_pos (by simp [zsec, hi])]
      exact hx0
    have hu : uneven s1 M R = [k] := one_uneven hsec hm hk hi hxi
    rw [hu] at KRw
    simp only [List.length_singleton] at KRw
    have hlost : sumL (xorTo (fun j => (s1.ticks 0 (R * M)).sec j (1 + k)) (m : Int) M) 128 = zsec := by
      refine sumL_eq (by simp [zsec]) fun i' hi' => ?_
      rw [zsec_at, sec_ticks, xorTo_one (f := fun j => s1.sec j (1 + k)) (m := m) (x := zsec.set i x) (by show s1.sec m (1 + k) = _; rw [hsec m _ (by omega), if_pos ⟨rfl, rfl⟩]) (m : Int) i' M (fun j hj hjm => by show s1.sec j (1 + k) = zsec; rw [hsec j _ (by omega), if_neg (by omega)]), if_neg (by omega)]
    have KLo : Hid (∀ W T b, BayAt W T b (s1.ticks 0 (R * M)) → Calls Try.prog 17 #[.pointer (some ⟨b, 0, none⟩), geo M C S, .int .i64 m, .int .i64 k] W fun e w' => ∃ v, e = .returned (.tuple #[v, noTrouble]) ∧ w'.ownsRow W.heap.size 5 1 v 128 (ucells zsec) ∧ BayAt w' T b ((s1.ticks 0 (R * M)).ticks 0 (M - 1)) ∧ Chg (fun q => T q ≠ 0) W w') := fun W T b hB => by
      have := calm_lost hB (hc1.ticks 0 (R * M)) M C S m k hg hn1 (fun m hm => by rw [hR]; exact newSz_at m hm) hm (by rw [hR]; exact hk) (by rw [cnt_ticks, c0']; omega) (fun i hi x hx => Nat.le_trans (hsm1 i hi x hx) (by omega))
      rw [hlost] at this
      exact this
    have KSI1 : Hid (∀ (W : World) (v : Value), (∃ B, W.ownsRow B 3 1 v 1 (kcells [k])) → ISeg W v [k]) := fun W v h => by
      obtain ⟨B, ho⟩ := h
      exact iseg_of_owns ho
    have KSI2 : Hid (∀ (W : World) (g : Nat), At W g #[.int .i64 (k : Int)] 3 → ISeg W (.slice (some ⟨g, 0, none⟩) 1 1) [k]) := fun W g h => ⟨_, _, rfl, .inr ⟨g, 0, rfl, h.lt, fun j hj => by
      obtain rfl : j = 0 := by simpa using hj
      exact h.cell 0⟩⟩
    have KSI : Hid (∀ W u v, ISeg W u [k] → ISeg W v [k] → Calls Try.prog 18 #[u, v] W fun e w' => e = .returned (.bool true) ∧ Below W.heap.size W w') := fun W u v h1 h2 => (same_ints u v [k] [k] W (by simp) (by simp) h1 h2).mono fun e w' ⟨x1, x2⟩ => ⟨by rw [x1]; simp, x2⟩
    have hz128 : zsec.length = 128 := by simp [zsec]
    have KSB : Hid (∀ u v W, Seg W u zsec → Seg W v zsec → Calls Try.prog 19 #[u, v] W fun e w' => e = .returned (.bool true) ∧ Below W.heap.size W w') := fun u v W h1 h2 => (same_any u v zsec zsec W (by rw [hz128]; omega) (by rw [hz128]; omega) h1 h2).mono fun e w' ⟨x1, x2⟩ => ⟨by rw [x1]; simp, x2⟩
    have KSR : Hid (∀ W g, At W g (ucells zsec).toArray 5 → Seg W (.slice (some ⟨g, 0, none⟩) 128 128) zsec) := fun W g hA => seg_of_sec (seg_row hA hz128)
    have KSG : Hid (∀ (W W1 W2 : World) (v : Value), (∃ B, W.ownsRow B 5 1 v 128 (ucells zsec)) → Below W.heap.size W W1 → Below W1.heap.size W1 W2 → Seg W2 v zsec) := fun W W1 W2 v ho h1 h2 => by
      obtain ⟨B, ho⟩ := ho
      exact ((seg_of_sec ho).below h1).below h2
    have hxz : ((((x.toNat : Nat) : Int)) == 0) = false := by
      have : x.toNat ≠ 0 := fun e => hx0 (UInt8.toNat_inj.1 (by rw [e]; rfl))
      simp
      omega
    clear hu hx0 hsec hlost hxi hz128
    generalize hy : ((x.toNat : Nat) : Int) = y at *
    clear hy
    unfold geo at *
    as_aux_lemma =>
      go_wp2_with (first
        | (first | (refine wpList_max rfl _ _ 3 rfl _ _ (m : Int) rfl rfl hmx1.out ?_) | (refine wpList_max rfl _ _ 3 rfl _ _ (k : Int) rfl rfl hmx2.out ?_) | (refine wpList_max rfl _ _ 3 rfl _ _ (i : Int) rfl rfl hmx3.out ?_))
        | (refine wpList_make_same rfl _ _ 34 5 1 1 rfl slice_bytes (.int .u8 0) (by kernel_rfl) _ _ _ _ 128 rfl rfl rfl rfl (by omega) (by unfold maxLen; omega) ?_; intro w7 a7 b7; rw [zsec_ucells] at a7; have f7 := a7.free i; have d7 : w7.cell? ⟨w6.heap.size, i, none⟩ = some (.int .u8 0) := (a7.cell i).trans hz7.out; have A7 := Lib.hid a7; clear a7)
        | (go_at_call 15; refine (KW.out _ T b _ ((HB6.out.below b7).keep (S := fun q => q = w6.heap.size) (Chg.setCell (S := fun q => q = w6.heap.size) (Chg.refl _ _) ⟨w6.heap.size, i, none⟩ (.inl rfl) _) (fun q hq e => hq (by rw [e]; exact HB6.out.virgin _ (Nat.le_refl _)))) (by rw [← hset.out]; exact A7.out.set i _) (HB6.out.virgin _ (Nat.le_refl _))).mono ?_; rintro e w8 ⟨rfl, T8, hB8, hT8, hc8⟩; have kb8 : Kept w8 T8 w.heap.size #[.int .i64 M, .int .i64 C, .int .i64 S] 23 := Kept.post (w := (w7.setCell ⟨w6.heap.size, i, none⟩ (.int .u8 y))) ⟨(HA6.out.below b7 HA6.out.lt).setOther (by have := HA6.out.lt; show w.heap.size ≠ w6.heap.size; omega) _, TG4.out⟩ hT8 hc8; have hl7 : Below w.heap.size w (w7.setCell ⟨w6.heap.size, i, none⟩ (.int .u8 y)) := (below_then HL6.out b7).setCell (p := ⟨w6.heap.size, i, none⟩) (Nat.le_of_lt HA6.out.lt) _; have hl8 := Chg.own hl7 hc8 HT4.out; have ht8 : ∀ q, T8 q ≠ 0 → w.heap.size ≤ q := (fun q hq => Nat.le_of_not_lt fun hlt => hq ((hT8 q (Nat.lt_of_lt_of_le hlt hl7.size)).trans (Classical.byContradiction fun e => absurd (HT4.out q e) (by omega)))); have c0 := kb8.at'.cell 0; have c1 := kb8.at'.cell 1; have c2 := kb8.at'.cell 2; have KB8 := Lib.hid kb8; have HL8 := Lib.hid hl8; have HT8 := Lib.hid ht8; have HB8 := Lib.hid hB8; clear kb8 hl7 hl8 ht8 hB8 hT8)
        | (go_at_call 16; refine (KRw.out w8 T8 b HB8.out).mono ?_; rintro e w9 ⟨vl, rfl, hown9, hB9, hc9⟩; obtain ⟨gl, cl, rfl, -, -⟩ := ownsRow_full hown9 (by omega); have kb9 := (KB8.out.chg hc9).alloc (.cells #[.int .i64 0, .int .u16 0] 37); have hd9 := (Held.new hown9 HB8.out.virgin).alloc (.cells #[.int .i64 0, .int .u16 0] 37); have kt9 : Kept (w9.alloc (.cells #[.int .i64 0, .int .u16 0] 37)) T8 w9.heap.size #[.int .i64 0, .int .u16 0] 37 := ⟨At.new _ _ _, hB9.virgin _ (Nat.le_refl _)⟩; have hBB9 := hB9.more (.cells #[.int .i64 0, .int .u16 0] 37); have hl9 := (Chg.own HL8.out hc9 HT8.out).alloc (Chg.own HL8.out hc9 HT8.out).size (.cells #[.int .i64 0, .int .u16 0] 37); have c0 := kb9.at'.cell 0; have c1 := kb9.at'.cell 1; have c2 := kb9.at'.cell 2; have KB9 := Lib.hid kb9; have HD9 := Lib.hid hd9; have KT9 := Lib.hid kt9; have HBB9 := Lib.hid hBB9; have HL9 := Lib.hid hl9; clear kb9 hd9 kt9 hBB9 hl9 hB9)
        | (go_at_call 17; refine (KLo.out _ T8 b HBB9.out).mono ?_; rintro e w10 ⟨vx, rfl, hown10, hB10, hc10⟩; obtain ⟨gx, cx, rfl, -, -⟩ := ownsRow_full hown10 (by omega); have hd10 := (HD9.out.chg hc10).alloc (.cells #[.int .i64 0, .int .u16 0] 37); have kt10 := (KT9.out.chg hc10).alloc (.cells #[.int .i64 0, .int .u16 0] 37); have hx10 := (Held.new hown10 HBB9.out.virgin).alloc (.cells #[.int .i64 0, .int .u16 0] 37); have hl10 := (Chg.own HL9.out hc10 HT8.out).alloc (Chg.own HL9.out hc10 HT8.out).size (.cells #[.int .i64 0, .int .u16 0] 37); have x0 := kt10.at'.cell 0; have x1 := kt10.at'.cell 1; have hdk := hd10.alloc (.cells #[.int .i64 (k : Int)] 3); have hik : ISeg ((w10.alloc (.cells #[.int .i64 0, .int .u16 0] 37)).alloc (.cells #[.int .i64 (k : Int)] 3)) (.slice (some ⟨gl, 0, none⟩) 1 cl) [k] := KSI1.out _ _ hdk.own; have hin : ISeg ((w10.alloc (.cells #[.int .i64 0, .int .u16 0] 37)).alloc (.cells #[.int .i64 (k : Int)] 3)) (.slice (some ⟨w10.heap.size + 1, 0, none⟩) 1 1) [k] := KSI2.out _ _ (by rw [← size_alloc w10 (.cells #[.int .i64 0, .int .u16 0] 37)]; exact At.new _ _ _); have hlk := hl10.alloc hl10.size (.cells #[.int .i64 (k : Int)] 3); have hxk := hx10.alloc (.cells #[.int .i64 (k : Int)] 3); have HIK := Lib.hid hik; have HIN := Lib.hid hin; have HLK := Lib.hid hlk; have HXK := Lib.hid hxk; clear hd10 kt10 hx10 hl10 hdk hik hin hlk hxk hB10)
        | (go_at_call 18; refine (KSI.out _ _ _ HIK.out HIN.out).mono ?_; rintro e w11 ⟨rfl, hb11⟩; have hl11 := below_then HLK.out hb11; have HL11 := Lib.hid hl11; clear hl11)
        | (refine wpList_make_want (by rfl) _ _ 34 5 1 1 rfl slice_bytes (.int .u8 0) (by kernel_rfl) _ _ _ _ 128 rfl rfl rfl rfl (by omega) (by unfold maxLen; omega) ?_; intro w12 a12 b12; rw [zsec_ucells] at a12; have hs12 := KSR.out _ _ a12; have hx12 := KSG.out _ _ _ _ HXK.out.own hb11 b12; have hl12 := below_then HL11.out b12; have HS12 := Lib.hid hs12; have HX12 := Lib.hid hx12; have HL12 := Lib.hid hl12; clear a12 hs12 hx12 hl12)
        | (go_at_call 19; refine (KSB.out _ _ w12 HX12.out HS12.out).mono ?_; rintro e w13 ⟨rfl, hb13⟩; have hl13 := below_then HL12.out hb13; have HL13 := Lib.hid hl13; clear hl13))
      go_ret
      exact ⟨rfl, HL13.out⟩

end Go.Proofs.Ytkcfmkhakghniaa
