/- spindleref13: which members are given, which are the rest, which are the same. -/
import Derived.Test.YtpegbgomnpinfaaGreatMrg6
import Derived.Test.YtpegbgomnpinfaaGreatPlnF
set_option linter.unusedVariables false
namespace Go.Proofs.YtpegbgomnpinfaaGreat
open Go.RowKit

theorem given_take {ps : List Pat} {m : Int} {k : Nat} (hk : k < ps.length) (h : givenIn (ps.take k) m = false) : givenIn (ps.take (k + 1)) m = ((ps[k]'hk).m == m) := by
  unfold givenIn at *
  rw [List.take_succ_eq_append_getElem hk, List.any_append, h]
  simp
theorem given_hit {ps : List Pat} {m : Int} {k : Nat} (hk : k < ps.length) (h : ((ps[k]'hk).m == m) = true) : givenIn ps m = true := List.any_eq_true.2 ⟨_, List.getElem_mem hk, h⟩

set_option maxRecDepth 100000 in
set_option maxHeartbeats 1000000 in
theorem ref_has (v : Value) (ps : List Pat) (m : Int) (w : World) (hv : PSeg w v ps) :
    Calls Tryz.prog 95 #[v, .int .i64 m] w fun e w' => e = .returned (.bool (givenIn ps m)) ∧ Below w.heap.size w w' := by
  have hfew := hv.few
  have HV := Lib.hid hv
  obtain ⟨va, vc, rfl⟩ := hv.shape
  clear hv
  go_enter Tryz.func95, Tryz.ntmps95
  go_wp2
  go_loopw [5] (fun q wr => ∃ k : Nat, k ≤ ps.length ∧ q = .int .i64 k ∧ givenIn (ps.take k) m = false ∧ wr = w) (fun q _ => ps.length - (intOf q).toNat)
  case atStart => exact ⟨0, by omega, rfl, rfl, rfl⟩
  case round =>
    obtain ⟨k, hk, rfl, hgv, rfl⟩ := hrel
    have HG := Lib.hid hgv
    clear hgv
    by_cases hkn : k < ps.length
    · have K1 : Hid (k + 1 ≤ ps.length) := hkn
      obtain ⟨b, o, rfl, hlt, hx⟩ := PSeg.full HV.out (by omega)
      obtain ⟨p0, -, -⟩ := hx k hkn
      have HN := Lib.hid (given_take hkn HG.out)
      have HH := Lib.hid (given_hit (m := m) hkn)
      clear hx
      generalize (ps[k]'hkn).m = y at *
      by_cases hy : y = m
      · have hq : (y == m) = true := by simp [hy]
        have HE : Hid (givenIn ps m = true) := HH.out hq
        clear hy
        go_wp2
        go_ret
        exact ⟨by rw [HE.out]; rfl, Below.refl _ _⟩
      · have hq : (y == m) = false := by simp [hy]
        have HE : Hid (givenIn (ps.take (k + 1)) m = false) := HN.out.trans hq
        clear hy
        go_wp2
        exact ⟨⟨k + 1, K1.out, by go_num, HE.out, trivial⟩, by simp [intOf]; omega⟩
    · have HE : Hid (givenIn ps m = false) := by
        have h := HG.out
        rw [List.take_of_length_le (by omega)] at h
        exact h
      go_wp2
      go_ret
      exact ⟨by rw [HE.out]; rfl, Below.refl _ _⟩

set_option maxRecDepth 100000 in
set_option maxHeartbeats 2000000 in
theorem ref_rest (M par : Nat) (C S : Int) (v : Value) (ps : List Pat) (w : World) (hv : PSeg w v ps) (hM : M ≤ 16) :
    Calls Tryz.prog 96 #[geo M C S, .int .i64 par, v] w fun e w' => ∃ u, e = .returned u ∧ w'.ownsRow w.heap.size 3 1 u (whichTo (isRest ps par) M).length (mcells (whichTo (isRest ps par) M)) ∧ Below w.heap.size w w' := by
  have hb0 : Below w.heap.size w (w.alloc (.cells #[.int .i64 M, .int .i64 C, .int .i64 S] 23)) := (Below.refl _ _).alloc (Nat.le_refl _) _
  have HB0 := Lib.hid hb0
  have HA : Hid (At (w.alloc (.cells #[.int .i64 M, .int .i64 C, .int .i64 S] 23)) w.heap.size #[.int .i64 M, .int .i64 C, .int .i64 S] 23) := At.new _ _ _
  have HH : Hid (∀ (m : Nat) W, Below w.heap.size w W → Calls Tryz.prog 95 #[v, .int .i64 m] W _) := fun m W hW => ref_has v ps m W (hv.below hW)
  obtain ⟨va, vc, rfl⟩ := hv.shape
  clear hv hb0
  unfold geo
  go_enter Tryz.func96, Tryz.ntmps96
  go_wp2
  go_loopw [7, 8] (fun x z wr => ∃ k : Nat, k ≤ M ∧ z = .int .i64 k ∧ wr.ownsRow (w.heap.size + 1) 3 1 x (whichTo (isRest ps par) k).length (mcells (whichTo (isRest ps par) k)) ∧ At wr w.heap.size #[.int .i64 M, .int .i64 C, .int .i64 S] 23 ∧ Below w.heap.size w wr) (fun _ z _ => M - (intOf z).toNat)
  case atStart => exact ⟨0, by omega, rfl, World.ownsRow_nil _ _ _ _, HA.out, HB0.out⟩
  case round =>
    obtain ⟨k, hk', rfl, hown, hag, hbw⟩ := hrel
    have HO := Lib.hid hown
    have HG := Lib.hid hag
    have HBW := Lib.hid hbw
    have c0 := hag.cell 0
    have hb1 := hbw.size
    clear hown hag hbw HA HB0
    by_cases hkn : k < M
    · have K1 : Hid (k + 1 ≤ M) := hkn
      have hc := Lib.hid (HH.out k wr HBW.out)
      have hs := Lib.hid (whichTo_succ (isRest ps par) k)
      have hwl := whichTo_length (isRest ps par) k
      have HF : Hid (isRest ps par k = (!(k == par) && !(givenIn ps (k : Int)))) := rfl
      by_cases hp : k = par
      · have hp1 : ((k : Int) == (par : Int)) = true := by simp; omega
        have hp2 : ((k : Int) != (par : Int)) = false := by simp; omega
        have hp3 : (k == par) = true := by simp [hp]
        rw [hp3] at HF
        clear hp hp3
        cases hgv : givenIn ps (k : Int)
        · rw [hgv] at hc HF
          have HR : Hid (isRest ps par k = false) := HF.out
          rw [HR.out] at hs
          clear hgv HF
          simp only [Bool.false_eq_true, if_false] at hs
          go_wp2_with (go_at_call 95; (with_reducible refine hc.out.mono ?_); rintro e w2 ⟨rfl, hb2⟩; have HO2 := Lib.hid (ownsRow_below HO.out hb2 (Nat.le_refl _)); have HG2 := Lib.hid (HG.out.below hb2 HG.out.lt); have HB2 := Lib.hid (below_then HBW.out hb2); have hsz : w.heap.size + 1 ≤ w2.heap.size := HG2.out.lt; clear hb2)
          refine ⟨⟨k + 1, K1.out, by go_num, ?_, HG2.out, HB2.out⟩, by simp [intOf]; omega⟩
          rw [hs.out]
          exact HO2.out
        · rw [hgv] at hc HF
          have HR : Hid (isRest ps par k = false) := HF.out
          rw [HR.out] at hs
          clear hgv HF
          simp only [Bool.false_eq_true, if_false] at hs
          go_wp2_with (go_at_call 95; (with_reducible refine hc.out.mono ?_); rintro e w2 ⟨rfl, hb2⟩; have HO2 := Lib.hid (ownsRow_below HO.out hb2 (Nat.le_refl _)); have HG2 := Lib.hid (HG.out.below hb2 HG.out.lt); have HB2 := Lib.hid (below_then HBW.out hb2); have hsz : w.heap.size + 1 ≤ w2.heap.size := HG2.out.lt; clear hb2)
          refine ⟨⟨k + 1, K1.out, by go_num, ?_, HG2.out, HB2.out⟩, by simp [intOf]; omega⟩
          rw [hs.out]
          exact HO2.out
      · have hp1 : ((k : Int) == (par : Int)) = false := by simp; omega
        have hp2 : ((k : Int) != (par : Int)) = true := by simp; omega
        have hp3 : (k == par) = false := by simp [hp]
        rw [hp3] at HF
        clear hp hp3
        cases hgv : givenIn ps (k : Int)
        · rw [hgv] at hc HF
          have HR : Hid (isRest ps par k = true) := HF.out
          rw [HR.out] at hs
          clear hgv HF
          simp only [if_true] at hs
          go_wp2_with (first
            | (go_at_call 95; (with_reducible refine hc.out.mono ?_); rintro e w2 ⟨rfl, hb2⟩; have HO2 := Lib.hid (ownsRow_below HO.out hb2 (Nat.le_refl _)); have HG2 := Lib.hid (HG.out.below hb2 HG.out.lt); have HB2 := Lib.hid (below_then HBW.out hb2); have hsz : w.heap.size + 1 ≤ w2.heap.size := HG2.out.lt; clear hb2)
            | (refine wpList_append_one rfl _ _ 27 3 8 rfl slice_members (w.heap.size + 1) u7 (whichTo (isRest ps par) k).length _ rfl HO2.out _ rfl rfl (by unfold maxLen; omega) (by omega) hsz ?_; intro v' w5 hown5 hb5 hgr5; have HO5 := Lib.hid hown5; have HB5 := Lib.hid (HB2.out.trans (hb5.mono (Nat.le_succ _))); have HX5 := Lib.hid hb5; clear hown5 hb5))
          refine ⟨⟨k + 1, K1.out, by go_num, ?_, ?_, HB5.out⟩, by simp [intOf]; omega⟩
          · rw [hs.out, mcells_snoc, List.length_append]
            exact HO5.out
          · exact HG2.out.below HX5.out (Nat.lt_succ_self _)
        · rw [hgv] at hc HF
          have HR : Hid (isRest ps par k = false) := HF.out
          rw [HR.out] at hs
          clear hgv HF
          simp only [Bool.false_eq_true, if_false] at hs
          go_wp2_with (go_at_call 95; (with_reducible refine hc.out.mono ?_); rintro e w2 ⟨rfl, hb2⟩; have HO2 := Lib.hid (ownsRow_below HO.out hb2 (Nat.le_refl _)); have HG2 := Lib.hid (HG.out.below hb2 HG.out.lt); have HB2 := Lib.hid (below_then HBW.out hb2); have hsz : w.heap.size + 1 ≤ w2.heap.size := HG2.out.lt; clear hb2)
          refine ⟨⟨k + 1, K1.out, by go_num, ?_, HG2.out, HB2.out⟩, by simp [intOf]; omega⟩
          rw [hs.out]
          exact HO2.out
    · obtain rfl : k = M := by omega
      go_wp2
      go_ret
      exact ⟨_, rfl, rebase_row HO.out (Nat.le_succ _), HBW.out⟩

set_option maxRecDepth 100000 in
set_option maxHeartbeats 2000000 in
theorem ref_same (M par : Nat) (C S : Int) (v : Value) (ps : List Pat) (w : World) (hv : PSeg w v ps) (hM : M ≤ 16) :
    Calls Tryz.prog 97 #[geo M C S, .int .i64 par, v] w fun e w' => ∃ u, e = .returned u ∧ w'.ownsRow w.heap.size 3 1 u (whichTo (isOld ps par) M).length (mcells (whichTo (isOld ps par) M)) ∧ Below w.heap.size w w' := by
  have hb0 : Below w.heap.size w (w.alloc (.cells #[.int .i64 M, .int .i64 C, .int .i64 S] 23)) := (Below.refl _ _).alloc (Nat.le_refl _) _
  have HB0 := Lib.hid hb0
  have HA : Hid (At (w.alloc (.cells #[.int .i64 M, .int .i64 C, .int .i64 S] 23)) w.heap.size #[.int .i64 M, .int .i64 C, .int .i64 S] 23) := At.new _ _ _
  have HH : Hid (∀ (m : Nat) W, Below w.heap.size w W → Calls Tryz.prog 95 #[v, .int .i64 m] W _) := fun m W hW => ref_has v ps m W (hv.below hW)
  obtain ⟨va, vc, rfl⟩ := hv.shape
  clear hv hb0
  unfold geo
  go_enter Tryz.func97, Tryz.ntmps97
  go_wp2
  go_loopw [7, 8] (fun x z wr => ∃ k : Nat, k ≤ M ∧ z = .int .i64 k ∧ wr.ownsRow (w.heap.size + 1) 3 1 x (whichTo (isOld ps par) k).length (mcells (whichTo (isOld ps par) k)) ∧ At wr w.heap.size #[.int .i64 M, .int .i64 C, .int .i64 S] 23 ∧ Below w.heap.size w wr) (fun _ z _ => M - (intOf z).toNat)
  case atStart => exact ⟨0, by omega, rfl, World.ownsRow_nil _ _ _ _, HA.out, HB0.out⟩
  case round =>
    obtain ⟨k, hk', rfl, hown, hag, hbw⟩ := hrel
    have HO := Lib.hid hown
    have HG := Lib.hid hag
    have HBW := Lib.hid hbw
    have c0 := hag.cell 0
    have hb1 := hbw.size
    clear hown hag hbw HA HB0
    by_cases hkn : k < M
    · have K1 : Hid (k + 1 ≤ M) := hkn
      have hc := Lib.hid (HH.out k wr HBW.out)
      have hs := Lib.hid (whichTo_succ (isOld ps par) k)
      have hwl := whichTo_length (isOld ps par) k
      have HF : Hid (isOld ps par k = ((k == par) || givenIn ps (k : Int))) := rfl
      by_cases hp : k = par
      · have hp1 : ((k : Int) == (par : Int)) = true := by simp; omega
        have hp2 : ((k : Int) != (par : Int)) = false := by simp; omega
        have hp3 : (k == par) = true := by simp [hp]
        rw [hp3] at HF
        clear hp hp3
        cases hgv : givenIn ps (k : Int)
        · rw [hgv] at hc HF
          have HR : Hid (isOld ps par k = true) := HF.out
          rw [HR.out] at hs
          clear hgv HF
          simp only [if_true] at hs
          go_wp2_with (first
            | (go_at_call 95; (with_reducible refine hc.out.mono ?_); rintro e w2 ⟨rfl, hb2⟩; have HO2 := Lib.hid (ownsRow_below HO.out hb2 (Nat.le_refl _)); have HG2 := Lib.hid (HG.out.below hb2 HG.out.lt); have HB2 := Lib.hid (below_then HBW.out hb2); have hsz : w.heap.size + 1 ≤ w2.heap.size := HG2.out.lt; clear hb2)
            | (refine wpList_append_one rfl _ _ 27 3 8 rfl slice_members (w.heap.size + 1) u7 (whichTo (isOld ps par) k).length _ rfl HO2.out _ rfl rfl (by unfold maxLen; omega) (by omega) hsz ?_; intro v' w5 hown5 hb5 hgr5; have HO5 := Lib.hid hown5; have HB5 := Lib.hid (HB2.out.trans (hb5.mono (Nat.le_succ _))); have HX5 := Lib.hid hb5; clear hown5 hb5))
          refine ⟨⟨k + 1, K1.out, by go_num, ?_, ?_, HB5.out⟩, by simp [intOf]; omega⟩
          · rw [hs.out, mcells_snoc, List.length_append]
            exact HO5.out
          · exact HG2.out.below HX5.out (Nat.lt_succ_self _)
        · rw [hgv] at hc HF
          have HR : Hid (isOld ps par k = true) := HF.out
          rw [HR.out] at hs
          clear hgv HF
          simp only [if_true] at hs
          go_wp2_with (first
            | (go_at_call 95; (with_reducible refine hc.out.mono ?_); rintro e w2 ⟨rfl, hb2⟩; have HO2 := Lib.hid (ownsRow_below HO.out hb2 (Nat.le_refl _)); have HG2 := Lib.hid (HG.out.below hb2 HG.out.lt); have HB2 := Lib.hid (below_then HBW.out hb2); have hsz : w.heap.size + 1 ≤ w2.heap.size := HG2.out.lt; clear hb2)
            | (refine wpList_append_one rfl _ _ 27 3 8 rfl slice_members (w.heap.size + 1) u7 (whichTo (isOld ps par) k).length _ rfl HO2.out _ rfl rfl (by unfold maxLen; omega) (by omega) hsz ?_; intro v' w5 hown5 hb5 hgr5; have HO5 := Lib.hid hown5; have HB5 := Lib.hid (HB2.out.trans (hb5.mono (Nat.le_succ _))); have HX5 := Lib.hid hb5; clear hown5 hb5))
          refine ⟨⟨k + 1, K1.out, by go_num, ?_, ?_, HB5.out⟩, by simp [intOf]; omega⟩
          · rw [hs.out, mcells_snoc, List.length_append]
            exact HO5.out
          · exact HG2.out.below HX5.out (Nat.lt_succ_self _)
      · have hp1 : ((k : Int) == (par : Int)) = false := by simp; omega
        have hp2 : ((k : Int) != (par : Int)) = true := by simp; omega
        have hp3 : (k == par) = false := by simp [hp]
        rw [hp3] at HF
        clear hp hp3
        cases hgv : givenIn ps (k : Int)
        · rw [hgv] at hc HF
          have HR : Hid (isOld ps par k = false) := HF.out
          rw [HR.out] at hs
          clear hgv HF
          simp only [Bool.false_eq_true, if_false] at hs
          go_wp2_with (go_at_call 95; (with_reducible refine hc.out.mono ?_); rintro e w2 ⟨rfl, hb2⟩; have HO2 := Lib.hid (ownsRow_below HO.out hb2 (Nat.le_refl _)); have HG2 := Lib.hid (HG.out.below hb2 HG.out.lt); have HB2 := Lib.hid (below_then HBW.out hb2); have hsz : w.heap.size + 1 ≤ w2.heap.size := HG2.out.lt; clear hb2)
          refine ⟨⟨k + 1, K1.out, by go_num, ?_, HG2.out, HB2.out⟩, by simp [intOf]; omega⟩
          rw [hs.out]
          exact HO2.out
        · rw [hgv] at hc HF
          have HR : Hid (isOld ps par k = true) := HF.out
          rw [HR.out] at hs
          clear hgv HF
          simp only [if_true] at hs
          go_wp2_with (first
            | (go_at_call 95; (with_reducible refine hc.out.mono ?_); rintro e w2 ⟨rfl, hb2⟩; have HO2 := Lib.hid (ownsRow_below HO.out hb2 (Nat.le_refl _)); have HG2 := Lib.hid (HG.out.below hb2 HG.out.lt); have HB2 := Lib.hid (below_then HBW.out hb2); have hsz : w.heap.size + 1 ≤ w2.heap.size := HG2.out.lt; clear hb2)
            | (refine wpList_append_one rfl _ _ 27 3 8 rfl slice_members (w.heap.size + 1) u7 (whichTo (isOld ps par) k).length _ rfl HO2.out _ rfl rfl (by unfold maxLen; omega) (by omega) hsz ?_; intro v' w5 hown5 hb5 hgr5; have HO5 := Lib.hid hown5; have HB5 := Lib.hid (HB2.out.trans (hb5.mono (Nat.le_succ _))); have HX5 := Lib.hid hb5; clear hown5 hb5))
          refine ⟨⟨k + 1, K1.out, by go_num, ?_, ?_, HB5.out⟩, by simp [intOf]; omega⟩
          · rw [hs.out, mcells_snoc, List.length_append]
            exact HO5.out
          · exact HG2.out.below HX5.out (Nat.lt_succ_self _)
    · obtain rfl : k = M := by omega
      go_wp2
      go_ret
      exact ⟨_, rfl, rebase_row HO.out (Nat.le_succ _), HBW.out⟩

end Go.Proofs.YtpegbgomnpinfaaGreat
