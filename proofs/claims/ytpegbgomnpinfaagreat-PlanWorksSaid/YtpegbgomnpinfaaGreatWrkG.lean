/- spindleref13's Solve, in every way. -/
import Derived.Test.YtpegbgomnpinfaaGreatMrg12
set_option linter.unusedVariables false
namespace Go.Proofs.YtpegbgomnpinfaaGreat
open Go.RowKit

theorem ufn_seg {W : World} {gb n : Nat} {f : Nat → UInt8} (h : At W gb (ufn f n) 5) : Seg W (.slice (some ⟨gb, 0, none⟩) n n) (sumL f n) := by
  refine ⟨_, n, by rw [sumL_length], ⟨fun h => by simp at h, by rw [sumL_length]; exact Nat.le_refl _⟩, .inr ⟨gb, 0, rfl, h.lt, fun j hj => ?_⟩⟩
  rw [sumL_length] at hj
  rw [Nat.zero_add, h.cell j, ufn_at f n j hj]
  simp [sumL]
theorem owns_of_ufn {W : World} {g n : Nat} {f : Nat → UInt8} (h : At W g (ufn f n) 5) (hn : n ≤ maxLen) : W.ownsRow 0 5 1 (.slice (some ⟨g, 0, none⟩) n n) n (ucells (sumL f n)) := by
  refine ⟨by rw [ucells_length, sumL_length]; omega, .inr ⟨g, n, ufn f n, rfl, Nat.zero_le _, h, Nat.le_refl _, hn, by rw [ufn_size]; omega, ?_⟩⟩
  rw [ufn_ucells, List.take_of_length_le (by simp [ucells_length, sumL_length])]
theorem zeros_ufn (n : Nat) : (List.replicate (n * 1) (Value.int .u8 0)).toArray = ufn (fun _ => 0) n := by
  apply Array.ext_getElem?
  intro i
  simp only [ufn, List.getElem?_toArray, Nat.mul_one, List.getElem?_replicate, List.getElem?_map]
  by_cases hi : i < n <;> simp [hi]
theorem rowBad_ways (M C S T : Nat) (hT : T = S * C) (mem row : Int) :
    (patBad M C S ⟨mem, row, []⟩ = true ∧ decide (row < 0) = true) ∨
    (patBad M C S ⟨mem, row, []⟩ = true ∧ decide (row < 0) = false ∧ decide ((T : Int) ≤ row) = true) ∨
    (patBad M C S ⟨mem, row, []⟩ = true ∧ decide (row < 0) = false ∧ decide ((T : Int) ≤ row) = false ∧ decide (mem < 0) = true) ∨
    (patBad M C S ⟨mem, row, []⟩ = true ∧ decide (row < 0) = false ∧ decide ((T : Int) ≤ row) = false ∧ decide (mem < 0) = false ∧ decide ((M : Int) ≤ mem) = true) ∨
    (patBad M C S ⟨mem, row, []⟩ = false ∧ decide (row < 0) = false ∧ decide ((T : Int) ≤ row) = false ∧ decide (mem < 0) = false ∧ decide ((M : Int) ≤ mem) = false) := by
  subst hT
  unfold patBad
  simp only
  cases decide (mem < 0) <;> cases decide ((M : Int) ≤ mem) <;> cases decide (row < 0) <;> cases decide (((S * C : Nat) : Int) ≤ row) <;> simp

/-- What Solve comes to. -/
def solveL (m mem : Int) (ls : List (List UInt8)) : List UInt8 := sumL (xorBut (fun j => ls.getD j []) mem.toNat m.toNat) 128

theorem solveL_len (m mem : Int) (ls : List (List UInt8)) : (solveL m mem ls).length = 128 := sumL_length _ _

set_option maxRecDepth 100000 in
set_option maxHeartbeats 8000000 in
theorem ref_Solve (m c s row mem : Int) (vrd : Value) (ls : List (List UInt8)) (w : World) (hls : Segs w vrd ls) (hfew : ls.length ≤ 300000) (hll : ∀ l ∈ ls, l.length ≤ 300000) :
    Calls Tryz.prog 40 #[geo m c s, .int .i64 row, .int .i64 mem, vrd] w fun e w' => (∃ v, e = .returned (.tuple #[v, .int .i64 (solveCode m c s row mem ls : Nat)]) ∧ w'.ownsRow 0 5 1 v (if solveCode m c s row mem ls = 0 then solveL m mem ls else []).length (ucells (if solveCode m c s row mem ls = 0 then solveL m mem ls else []))) ∧ Below w.heap.size w w' := by
  have HB0 : Hid (Below w.heap.size w (w.alloc (.cells #[.int .i64 m, .int .i64 c, .int .i64 s] 23))) := (Below.refl _ _).alloc (Nat.le_refl _) _
  have HG0 : Hid (At (w.alloc (.cells #[.int .i64 m, .int .i64 c, .int .i64 s] 23)) w.heap.size #[.int .i64 m, .int .i64 c, .int .i64 s] 23) := At.new _ _ _
  have hk := Lib.hid (fun W => ref_check m c s W)
  unfold geoCode at hk
  obtain ⟨cd, hcd⟩ : ∃ cd, cd = solveCode m c s row mem ls := ⟨_, rfl⟩
  rw [← hcd]
  obtain ⟨out, hout⟩ : ∃ out, out = (if cd = 0 then solveL m mem ls else []) := ⟨_, rfl⟩
  rw [← hout]
  have HOUT := Lib.hid hout
  clear hout
  cases hg : geoIs m c s
  · have HE : Hid (cd = 60) := hcd.trans (by unfold solveCode; rw [if_pos hg])
    rw [hg] at hk
    simp only [Bool.false_eq_true, if_false] at hk
    obtain ⟨sa, sc, rfl⟩ := hls.shape
    rw [HE.out]
    clear hls hll hg hcd
    unfold geo at *
    go_enter Tryz.func40, Tryz.ntmps40
    go_wp2_with (go_at_call 44; (with_reducible refine (hk.out _).mono ?_); rintro e w1 ⟨rfl, hb1⟩; have HB1 := Lib.hid (below_then HB0.out hb1); clear hb1)
    go_ret2
    exact ⟨⟨_, rfl, by rw [HOUT.out, if_neg (by rw [HE.out]; decide)]; exact World.ownsRow_nil _ _ _ _⟩, HB1.out⟩
  · obtain ⟨h1, h2, h3, h4, h5, h6⟩ := (geoIs_iff m c s).1 hg
    obtain ⟨M, rfl⟩ := Int.eq_ofNat_of_zero_le (by omega : 0 ≤ m)
    obtain ⟨C, rfl⟩ := Int.eq_ofNat_of_zero_le (by omega : 0 ≤ c)
    obtain ⟨S, rfl⟩ := Int.eq_ofNat_of_zero_le (by omega : 0 ≤ s)
    obtain ⟨T, hT⟩ : ∃ T, T = S * C := ⟨_, rfl⟩
    have hr : Hid (∀ W, Calls Tryz.prog 45 #[geo M C S] W fun e w' => e = .returned (.int .i64 (T : Nat)) ∧ Below W.heap.size W w') := fun W => (ref_rows M C S W).mono fun e w' ⟨x1, x2⟩ => ⟨by rw [x1, hT]; unfold geoRows; rw [if_pos hg, Int.natCast_mul], x2⟩
    have hco : solveCode M C S row mem ls = if patBad M C S ⟨mem, row, []⟩ = true then 3 else if (ls.length : Int) ≠ (M : Int) then 1 else if (List.range ls.length).any (shortBut mem ls) = true then 4 else 0 := by
      unfold solveCode
      rw [if_neg (by simp [hg])]
      rfl
    have hw := rowBad_ways M C S T hT mem row
    rw [hg] at hk
    simp only [if_true] at hk
    have HLS := Lib.hid hls
    have HLL := Lib.hid hll
    obtain ⟨sa, sc, rfl⟩ := hls.shape
    have HCO := Lib.hid (hcd.trans hco)
    clear hls hll hT hco hcd
    unfold geo at *
    rcases hw with ⟨hbad, t1⟩ | ⟨hbad, t1, t2⟩ | ⟨hbad, t1, t2, t3⟩ | ⟨hbad, t1, t2, t3, t4⟩ | ⟨hbad, t1, t2, t3, t4⟩
    · have HE : Hid (cd = 3) := HCO.out.trans (by rw [if_pos hbad])
      clear hbad
      go_enter Tryz.func40, Tryz.ntmps40
      go_wp2_with (first
        | (go_at_call 44; (with_reducible refine (hk.out _).mono ?_); rintro e w1 ⟨rfl, hb1⟩; have HB1 := Lib.hid (below_then HB0.out hb1); have hg1 := HG0.out.below hb1 HG0.out.lt; have c0 := hg1.cell 0; have c1 := hg1.cell 1; have c2 := hg1.cell 2; have HG1 := Lib.hid hg1; clear hb1 hg1)
        | (go_at_call 45; (with_reducible refine (hr.out _).mono ?_); rintro e w2 ⟨rfl, hb2⟩; have HB2 := Lib.hid (below_then HB1.out hb2); have d0 := (HG1.out.below hb2 HG1.out.lt).cell 0; clear hb2 c0 c1 c2))
      go_ret2
      rw [HE.out]
      exact ⟨⟨_, rfl, by rw [HOUT.out, if_neg (by rw [HE.out]; decide)]; exact World.ownsRow_nil _ _ _ _⟩, HB2.out⟩
    · have HE : Hid (cd = 3) := HCO.out.trans (by rw [if_pos hbad])
      clear hbad
      go_enter Tryz.func40, Tryz.ntmps40
      go_wp2_with (first
        | (go_at_call 44; (with_reducible refine (hk.out _).mono ?_); rintro e w1 ⟨rfl, hb1⟩; have HB1 := Lib.hid (below_then HB0.out hb1); have hg1 := HG0.out.below hb1 HG0.out.lt; have c0 := hg1.cell 0; have c1 := hg1.cell 1; have c2 := hg1.cell 2; have HG1 := Lib.hid hg1; clear hb1 hg1)
        | (go_at_call 45; (with_reducible refine (hr.out _).mono ?_); rintro e w2 ⟨rfl, hb2⟩; have HB2 := Lib.hid (below_then HB1.out hb2); have d0 := (HG1.out.below hb2 HG1.out.lt).cell 0; clear hb2 c0 c1 c2))
      go_ret2
      rw [HE.out]
      exact ⟨⟨_, rfl, by rw [HOUT.out, if_neg (by rw [HE.out]; decide)]; exact World.ownsRow_nil _ _ _ _⟩, HB2.out⟩
    · have HE : Hid (cd = 3) := HCO.out.trans (by rw [if_pos hbad])
      clear hbad
      go_enter Tryz.func40, Tryz.ntmps40
      go_wp2_with (first
        | (go_at_call 44; (with_reducible refine (hk.out _).mono ?_); rintro e w1 ⟨rfl, hb1⟩; have HB1 := Lib.hid (below_then HB0.out hb1); have hg1 := HG0.out.below hb1 HG0.out.lt; have c0 := hg1.cell 0; have c1 := hg1.cell 1; have c2 := hg1.cell 2; have HG1 := Lib.hid hg1; clear hb1 hg1)
        | (go_at_call 45; (with_reducible refine (hr.out _).mono ?_); rintro e w2 ⟨rfl, hb2⟩; have HB2 := Lib.hid (below_then HB1.out hb2); have d0 := (HG1.out.below hb2 HG1.out.lt).cell 0; clear hb2 c0 c1 c2))
      go_ret2
      rw [HE.out]
      exact ⟨⟨_, rfl, by rw [HOUT.out, if_neg (by rw [HE.out]; decide)]; exact World.ownsRow_nil _ _ _ _⟩, HB2.out⟩
    · have HE : Hid (cd = 3) := HCO.out.trans (by rw [if_pos hbad])
      clear hbad
      go_enter Tryz.func40, Tryz.ntmps40
      go_wp2_with (first
        | (go_at_call 44; (with_reducible refine (hk.out _).mono ?_); rintro e w1 ⟨rfl, hb1⟩; have HB1 := Lib.hid (below_then HB0.out hb1); have hg1 := HG0.out.below hb1 HG0.out.lt; have c0 := hg1.cell 0; have c1 := hg1.cell 1; have c2 := hg1.cell 2; have HG1 := Lib.hid hg1; clear hb1 hg1)
        | (go_at_call 45; (with_reducible refine (hr.out _).mono ?_); rintro e w2 ⟨rfl, hb2⟩; have HB2 := Lib.hid (below_then HB1.out hb2); have d0 := (HG1.out.below hb2 HG1.out.lt).cell 0; clear hb2 c0 c1 c2))
      go_ret2
      rw [HE.out]
      exact ⟨⟨_, rfl, by rw [HOUT.out, if_neg (by rw [HE.out]; decide)]; exact World.ownsRow_nil _ _ _ _⟩, HB2.out⟩
    · rw [hbad] at HCO
      simp only [Bool.false_eq_true, if_false] at HCO
      by_cases hlm : (ls.length : Int) = (M : Int)
      · have hlm2 : ls.length = M := by omega
        have HLM := Lib.hid hlm2
        have hmem0 : 0 ≤ mem := by have := of_decide_eq_false t3; omega
        have hmemM : mem < (M : Int) := by have := of_decide_eq_false t4; omega
        obtain ⟨kk, rfl⟩ := Int.eq_ofNat_of_zero_le hmem0
        have HCO2 : Hid (cd = if (List.range ls.length).any (shortBut kk ls) = true then 4 else 0) := HCO.out.trans (by rw [if_neg (by simp [hlm])])
        rw [hlm2]
        have hne : ((M : Int) != (M : Int)) = false := by simp
        have hM16 : M ≤ 16 := by omega
        clear hlm hlm2 HCO hbad
        go_enter Tryz.func40, Tryz.ntmps40
        go_wp2_with (first
          | (go_at_call 44; (with_reducible refine (hk.out _).mono ?_); rintro e w1 ⟨rfl, hb1⟩; have HB1 := Lib.hid (below_then HB0.out hb1); have hg1 := HG0.out.below hb1 HG0.out.lt; have c0 := hg1.cell 0; have c1 := hg1.cell 1; have c2 := hg1.cell 2; have HG1 := Lib.hid hg1; clear hb1 hg1)
          | (go_at_call 45; (with_reducible refine (hr.out _).mono ?_); rintro e w2 ⟨rfl, hb2⟩; have HB2 := Lib.hid (below_then HB1.out hb2); have HG2 := Lib.hid (HG1.out.below hb2 HG1.out.lt); have d0 := HG2.out.cell 0; clear hb2 c0 c1 c2)
          | (refine wpList_make_same rfl _ _ 53 5 1 1 rfl slice_bytes (.int .u8 0) (by kernel_rfl) _ _ _ _ 128 rfl rfl rfl rfl (by omega) (by unfold maxLen; omega) ?_; intro w3 a3 b3; rw [zeros_ufn] at a3; have HZ3 := Lib.hid (owns_of_ufn a3 (by unfold maxLen; omega)); have HB3 := Lib.hid (below_then HB2.out b3); have HG3 := Lib.hid (HG2.out.below b3 HG2.out.lt); clear a3 b3 d0))
        have HLS3 := Lib.hid (HLS.out.below HB3.out)
        obtain ⟨g0, hg0⟩ : ∃ g0, g0 = w2.heap.size := ⟨_, rfl⟩
        rw [← hg0] at HZ3 ⊢
        clear HG0 HG1 HG2 HB0 HB1 HB2 hk hr HLS hg0
        go_loopw [13] (fun q wx => ∃ k : Nat, k ≤ M ∧ q = .int .i64 k ∧ (List.range k).any (shortBut kk ls) = false ∧ wx = w3) (fun q _ => M - (intOf q).toNat)
        case atStart => exact ⟨0, by omega, rfl, rfl, rfl⟩
        case round =>
          obtain ⟨k, hk, rfl, hno, rfl⟩ := hrel
          have HNO := Lib.hid hno
          have c0 := HG3.out.cell 0
          clear hno
          by_cases hkn : k < M
          · have K1 : Hid (k + 1 ≤ M) := hkn
            have hkl : k < ls.length := by have := HLM.out; omega
            obtain ⟨sb, so, sc', hve, hslt, hsx⟩ := Segs.full HLS3.out (by omega)
            simp only [Value.slice.injEq] at hve
            obtain ⟨rfl, hq0, rfl⟩ := hve
            clear hq0
            obtain ⟨u, d0, hu⟩ := hsx k hkl
            have hgl : ls.getD k [] = ls[k]'hkl := by rw [List.getD_eq_getElem?_getD, List.getElem?_eq_getElem hkl]; rfl
            have hlen := HLL.out _ (List.getElem_mem hkl)
            rw [← hgl] at hu hlen
            have HST : Hid ((List.range (k + 1)).any (shortBut kk ls) = shortBut kk ls k) := by
              show (List.range (k + 1)).any (shortBut kk ls) = _
              rw [List.range_succ, List.any_append, HNO.out]; simp
            obtain ⟨ua, uc, rfl⟩ := hu.shape
            by_cases hkk : k = kk
            · have hq : ((k : Int) != (kk : Int)) = false := by simp [hkk]
              have HSB : Hid (shortBut kk ls k = false) := by show shortBut kk ls k = false; unfold shortBut; rw [hq]; rfl
              clear hsx hu hgl hkk
              generalize (ls.getD k []).length = un at *
              as_aux_lemma =>
                go_wp2
                exact ⟨⟨k + 1, K1.out, by go_num, HST.out.trans HSB.out, trivial⟩, by simp [intOf]; omega⟩
            · have hq : ((k : Int) != (kk : Int)) = true := by simp; omega
              by_cases hl128 : (ls.getD k []).length = 128
              · have HSB : Hid (shortBut kk ls k = false) := by show shortBut kk ls k = false; unfold shortBut; rw [hl128]; simp
                have hq2 : (((ls.getD k []).length : Int) != 128) = false := by rw [hl128]; rfl
                clear hsx hu hgl hkk hl128
                generalize (ls.getD k []).length = un at *
                as_aux_lemma =>
                  go_wp2
                  exact ⟨⟨k + 1, K1.out, by go_num, HST.out.trans HSB.out, trivial⟩, by simp [intOf]; omega⟩
              · have HE : Hid (cd = 4) := HCO2.out.trans (by rw [if_pos]; exact List.any_eq_true.2 ⟨k, List.mem_range.2 hkl, by unfold shortBut; rw [hq, decide_eq_true hl128]; rfl⟩)
                have hq2 : (((ls.getD k []).length : Int) != 128) = true := bne_iff_ne.2 (fun e => hl128 (by omega))
                clear hsx hu hgl hkk hl128
                generalize (ls.getD k []).length = un at *
                as_aux_lemma =>
                  go_wp2
                  go_ret2
                  rw [HE.out]
                  exact ⟨⟨_, rfl, by rw [HOUT.out, if_neg (by rw [HE.out]; decide)]; exact World.ownsRow_nil _ _ _ _⟩, HB3.out⟩
          · have HE : Hid (cd = 0) := HCO2.out.trans (by
              have h2 := HNO.out
              have e : k = ls.length := by have := HLM.out; omega
              rw [e] at h2
              rw [if_neg (by rw [h2]; simp)])
            have HALL : Hid (∀ j, j < M → j ≠ kk → (ls.getD j []).length = 128) := fun j hj hjk => by
              have h2 := HNO.out
              rw [List.any_eq_false] at h2
              have h3 := h2 j (List.mem_range.2 (by omega))
              unfold shortBut at h3
              apply Classical.byContradiction
              intro hc
              apply h3
              have : ((j : Int) != (kk : Int)) = true := by simp; omega
              rw [this, decide_eq_true hc]
              rfl
            obtain ⟨wo, rfl⟩ : ∃ wo : World, wo = wr := ⟨_, rfl⟩
            obtain ⟨k0, rfl⟩ : ∃ k0 : Nat, k0 = k := ⟨_, rfl⟩
            clear HCO2 HNO
            go_wp2
            clear c0
            go_loopw [12, 14] (fun x q wx => ∃ k : Nat, k ≤ M ∧ q = .int .i64 k ∧ wx.ownsRow 0 5 1 x 128 (ucells (sumL (xorBut (fun j => ls.getD j []) kk k) 128)) ∧ Below wo.heap.size wo wx) (fun _ q _ => M - (intOf q).toNat)
            case atStart => exact ⟨0, by omega, rfl, HZ3.out, Below.refl _ _⟩
            case round =>
              obtain ⟨k, hk2, rfl, hsx0, hbw⟩ := hrel
              have HX := Lib.hid hsx0
              have HBW := Lib.hid hbw
              have HG4 := Lib.hid (HG3.out.below hbw HG3.out.lt)
              have c0 := HG4.out.cell 0
              clear hsx0
              by_cases hkn2 : k < M
              · have K1 : Hid (k + 1 ≤ M) := hkn2
                have hkl : k < ls.length := by have := HLM.out; omega
                obtain ⟨sb, so, sc', hve, hslt, hsx⟩ := Segs.full (HLS3.out.below hbw) (by omega)
                simp only [Value.slice.injEq] at hve
                obtain ⟨rfl, hq0, rfl⟩ := hve
                clear hq0
                obtain ⟨u, d0, hu⟩ := hsx k hkl
                have hgl : ls.getD k [] = ls[k]'hkl := by rw [List.getD_eq_getElem?_getD, List.getElem?_eq_getElem hkl]; rfl
                rw [← hgl] at hu
                by_cases hkk : k = kk
                · subst hkk
                  have hq : ((k : Int) != (k : Int)) = false := by simp
                  have hx := Lib.hid (xorBut_skip (fun m => ls.getD m []) k)
                  clear hsx hu hgl d0
                  as_aux_lemma =>
                    go_wp2
                    refine ⟨⟨k + 1, K1.out, by go_num, ?_, HBW.out⟩, by simp [intOf]; omega⟩
                    rw [hx.out]
                    exact HX.out
                · have hq : ((k : Int) != (kk : Int)) = true := by simp; omega
                  have hx := Lib.hid (xorBut_add (fun m => ls.getD m []) hkk)
                  have hl128 := HALL.out k hkn2 hkk
                  have HMX := Lib.hid (ref_mixed u12 u (xorBut (fun j => ls.getD j []) kk k) 128 (ls.getD k []) wr (seg_of_owns (by rw [sumL_length]; exact HX.out)) hu hl128 (by omega))
                  obtain ⟨ua, uc, rfl⟩ := hu.shape
                  clear hsx hu hgl hl128
                  generalize (ls.getD k []).length = un at *
                  as_aux_lemma =>
                    go_wp2_with (go_at_call 112; (with_reducible refine HMX.out.mono ?_); rintro e w8 ⟨⟨v8, rfl, hv8⟩, hb8⟩; have HV8 := Lib.hid (rebase_row hv8 (Nat.zero_le _)); have HB8 := Lib.hid (below_then HBW.out hb8); clear hv8 hb8)
                    refine ⟨⟨k + 1, K1.out, by go_num, ?_, HB8.out⟩, by simp [intOf]; omega⟩
                    rw [hx.out]
                    exact HV8.out
              · obtain rfl : k = M := by omega
                go_wp2
                go_ret2
                rw [HE.out]
                refine ⟨⟨_, rfl, ?_⟩, below_then HB3.out HBW.out⟩
                rw [HOUT.out, if_pos HE.out, solveL_len]
                exact HX.out
      · have HE : Hid (cd = 1) := HCO.out.trans (by rw [if_pos hlm])
        have hne : ((ls.length : Int) != (M : Int)) = true := by simpa using hlm
        clear hlm hbad
        go_enter Tryz.func40, Tryz.ntmps40
        go_wp2_with (first
          | (go_at_call 44; (with_reducible refine (hk.out _).mono ?_); rintro e w1 ⟨rfl, hb1⟩; have HB1 := Lib.hid (below_then HB0.out hb1); have hg1 := HG0.out.below hb1 HG0.out.lt; have c0 := hg1.cell 0; have c1 := hg1.cell 1; have c2 := hg1.cell 2; have HG1 := Lib.hid hg1; clear hb1 hg1)
          | (go_at_call 45; (with_reducible refine (hr.out _).mono ?_); rintro e w2 ⟨rfl, hb2⟩; have HB2 := Lib.hid (below_then HB1.out hb2); have d0 := (HG1.out.below hb2 HG1.out.lt).cell 0; clear hb2 c0 c1 c2))
        go_ret2
        rw [HE.out]
        exact ⟨⟨_, rfl, by rw [HOUT.out, if_neg (by rw [HE.out]; decide)]; exact World.ownsRow_nil _ _ _ _⟩, HB2.out⟩

end Go.Proofs.YtpegbgomnpinfaaGreat
