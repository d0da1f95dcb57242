/- A row is mended: the walk, of a geometry. -/
import Derived.Test.YtkcfmkhakghniaaLawJ
set_option linter.unusedVariables false
namespace Go.Proofs.Ytkcfmkhakghniaa
open Go.RowKit

theorem one_new (w : World) (u : Value) (e : TypeId) : ∀ j u', [u][j]? = some u' → (w.alloc (.cells #[u] e)).cell? ((⟨w.heap.size, 0, none⟩ : Addr).add j) = some u' := fun j u' hj => by
  match j, hj with
  | 0, hj =>
    rw [Go.WideShapes.add_plain]
    exact ((At.new w #[u] e).cell 0).trans (by simpa using hj)
  | j + 1, hj => simp at hj

theorem olds_nil (w : World) (T : Nat → Nat) (f : Nat → Sec) : Olds w T (.slice none 0 0) [] 0 f :=
  ⟨rfl, ⟨⟨0, World.ownsRow_nil _ _ _ _⟩, fun g hg => by simp [Value.ownBlock] at hg⟩, fun j hj => by simp at hj⟩

/-- Whole numbers but one. -/
def butOne (l : List Nat) (k : Nat) : List Nat := l.filter fun x => decide (x ≠ k)
theorem butOne_take (l : List Nat) (k i : Nat) (h : i < l.length) : butOne (l.take (i + 1)) k = if l[i] = k then butOne (l.take i) k else butOne (l.take i) k ++ [l[i]] := by
  unfold butOne
  rw [List.take_succ_eq_append_getElem h, List.filter_append]
  by_cases hk : l[i] = k
  · rw [if_pos hk]; simp [hk]
  · rw [if_neg hk]; simp [hk]
theorem butOne_length (l : List Nat) (k : Nat) : (butOne l k).length ≤ l.length := List.length_filter_le _ _

set_option maxRecDepth 100000 in
set_option maxHeartbeats 16000000 in
theorem mends_ok (M C S : Nat) (a : Int) (v : Value) (l : List (Int × Int × List UInt8)) (w : World) (hv : Acts w v l) (hg : geoIs M C S = true) :
    Calls Try.prog 4 #[geo M C S, .int .i64 a, v] w fun e w' => e = .returned (.bool true) ∧ Below w.heap.size w w' := by
  obtain ⟨g1, g2, g3, g4, g5, g6⟩ := (geoIs_iff M C S).1 hg
  have hbd := geo_bounds hg
  have hR1 : S * C ≤ 4096 := by have := hbd.2; exact_mod_cast this
  have hR0 : 0 < S * C := Nat.mul_pos (by omega) (by omega)
  have hb0 : Below w.heap.size w (w.alloc (.cells #[.int .i64 M, .int .i64 C, .int .i64 S] 23)) := (Below.refl _ _).alloc (Nat.le_refl _) _
  have ha0 : At (w.alloc (.cells #[.int .i64 M, .int .i64 C, .int .i64 S] 23)) w.heap.size #[.int .i64 M, .int .i64 C, .int .i64 S] 23 := At.new _ _ _
  have KU := Lib.hid (law_much M C S v l _ (hv.below hb0) hg)
  have KC : Hid (∀ W, Calls Try.prog 9 #[geo M C S] W fun e w' => e = .returned (.int .i64 0) ∧ Below W.heap.size W w') := fun W => (ref_check M C S W).mono fun e w' ⟨x1, x2⟩ => ⟨by rw [x1]; unfold geoCode; rw [if_pos hg], x2⟩
  have KS : Hid (∀ W, Calls Try.prog 12 #[geo M C S] W fun e w' => ∃ v, e = .returned v ∧ w'.ownsRow (W.heap.size + 1) 3 1 v (sizeL M (S * C)).length (kcells (sizeL M (S * C))) ∧ Below W.heap.size W w') := fun W => law_sizes M C S W hg
  have KN : Hid (∀ W v B, W.ownsRow B 3 1 v (sizeL M (S * C)).length (kcells (sizeL M (S * C))) → Calls Try.prog 11 #[v] W fun e w' => ∃ b T, e = .returned (.tuple #[.pointer (some ⟨b, 0, none⟩), .int .u16 0]) ∧ BayAt w' T b (newBay M (S * C)) ∧ (∀ q, q < W.heap.size → T q = 0) ∧ Below W.heap.size W w') := fun W v B hv => law_newBay M (S * C) v B W (by omega) hR1 hv
  have KK : Hid (∀ W, Calls Try.prog 13 #[] W fun e w' => e = .returned (.bool true) ∧ Below W.heap.size W w') := law_known
  have KR : Hid (∀ W, Calls Try.prog 14 #[geo M C S] W fun e w' => e = .returned (.int .i64 ((S * C : Nat) : Int)) ∧ Below W.heap.size W w') := fun W => (ref_rows M C S W).mono fun e w' ⟨x1, x2⟩ => ⟨by rw [x1]; unfold geoRows; rw [if_pos hg, Int.natCast_mul], x2⟩
  have HA0 := Lib.hid ha0
  have HAL := Lib.hid ha0.lt
  have HV := Lib.hid hv
  have hwork0 := Lib.hid (newBay_work (M := M) hR1)
  have hlen : l.length ≤ 9223372036854775807 := by obtain ⟨_, _, _, h, _⟩ := hv; exact h
  obtain ⟨va, vc, rfl⟩ := hv.shape
  clear ha0 hbd hv
  have hRS : Hid (∀ m, m < M → newSz M (S * C) m = 1 + S * C) := fun m hm => newSz_at m hm
  generalize hR : S * C = R at *
  have HRR := Lib.hid hR
  unfold geo at *
  go_enter Try.func4, Try.ntmps4
  go_wp2_with (first
    | (go_at_call 10; refine KU.out.mono ?_; rintro e w1 ⟨r, rfl, hr, -, hb1⟩; have ha1 := HA0.out.below hb1 HAL.out; have c0 := ha1.cell 0; have c1 := ha1.cell 1; have c2 := ha1.cell 2; have HA1 := Lib.hid ha1; have HMU := Lib.hid hr; clear ha1 hr)
    | (go_at_call 9; (with_reducible refine (KC.out _).mono ?_); rintro e w2 ⟨rfl, hb2⟩; have HA2 := Lib.hid (HA1.out.below hb2 HA1.out.lt))
    | (go_at_call 13; (with_reducible refine (KK.out _).mono ?_); rintro e w3 ⟨rfl, hb3⟩; have ha3 := HA2.out.below hb3 HA2.out.lt; have c0 := ha3.cell 0; have c1 := ha3.cell 1; have c2 := ha3.cell 2; have HA3 := Lib.hid ha3; clear ha3)
    | (go_at_call 12; (with_reducible refine (KS.out _).mono ?_); rintro e w4 ⟨vz, rfl, hvz, hb4⟩; have HA4 := Lib.hid (HA3.out.below hb4 HA3.out.lt))
    | (go_at_call 11; refine (KN.out _ _ _ hvz).mono ?_; rintro e w5 ⟨b, T, rfl, hB5, hT, hb5⟩; have HST := Lib.hid (⟨hB5, ⟨HA4.out.below hb5 HA4.out.lt, hT _ HA4.out.lt⟩, (fun q hq => Nat.le_of_not_lt fun hlt => hq (hT q (Nat.lt_trans hlt HA4.out.lt))), below_then (below_then (below_then (below_then (below_then hb0 hb1) hb2) hb3) hb4) hb5⟩ : Stand w w5 T b (newBay M R) M C S); clear hB5 hT))
  any_goals (first | (go_ret; exact ⟨rfl, below_then hb0 hb1⟩) | skip)
  have HL20 : Hid (l.length ≤ 20000) := HMU.out (by first | assumption | (exact Bool.eq_false_iff.2 (by assumption)) | (cases r <;> simp_all))
  go_loopw [9] (fun q wr => ∃ k : Nat, k ≤ l.length ∧ q = .int .i64 k ∧ ∃ T s, Stand w wr T b s M C S ∧ Work s M R k ∧ s.cnt 0 = 0 ∧ s.cnt 2 = 0) (fun q _ => l.length - (intOf q).toNat)
  case atStart => exact ⟨0, by omega, rfl, T, newBay M R, HST.out, hwork0.out, rfl, rfl⟩
  case round =>
    clear HST T
    obtain ⟨k, hk, rfl, T, s, hst, hw, hc0, hc2⟩ := hrel
    have HST := Lib.hid hst
    have HW := Lib.hid hw
    have HC := Lib.hid hc0
    have HC2 := Lib.hid hc2
    clear hst hw hc0 hc2
    have hl2 : l.length ≤ 20000 := HL20.out
    by_cases hkl : k < l.length
    · have K1 : Hid (k + 1 ≤ l.length) := hkl
      obtain ⟨bb, off, rfl, hlt, hx⟩ := HV.out.full (by omega)
      obtain ⟨u, x1, x2, x3, x4, x5⟩ := hx k hkl
      clear hx
      obtain ⟨ua, uc, rfl⟩ := x4.shape
      generalize hz1 : (l[k]).1 = z1 at *
      generalize hz2 : (l[k]).2.1 = z2 at *
      generalize hB : (l[k]).2.2 = B at *
      clear hz1 hz2 hB
      have htb : T bb = 0 := Classical.byContradiction fun e => absurd (HST.out.low bb e) (by omega)
      have hseg : Seg wr (.slice ua B.length uc) B := x4.below HST.out.bel
      have htag : B.length = 128 → ∀ a n c, (Value.slice ua B.length uc) = .slice (some a) n c → T a.block = 0 := fun hB a n c he => by
        obtain ⟨vb, vo, vc', hve, hvb, -⟩ := x4.full (by omega)
        rw [he] at hve
        simp only [Value.slice.injEq, Option.some.injEq] at hve
        rw [hve.1]
        exact Classical.byContradiction fun e => absurd (HST.out.low _ e) (by show ¬ w.heap.size ≤ vb; omega)
      have HSA : Hid (wr.drew.cell? ⟨bb, off + k * 4 + 1, none⟩ = some (.int .i64 z1) ∧ wr.drew.cell? ⟨bb, off + k * 4 + 2, none⟩ = some (.int .i64 z2) ∧ wr.drew.cell? ⟨bb, off + k * 4 + 3, none⟩ = some (.slice ua B.length uc)) :=
        ⟨(HST.out.bel.cell (p := ⟨bb, off + k * 4 + 1, none⟩) hlt).trans x1, (HST.out.bel.cell (p := ⟨bb, off + k * 4 + 2, none⟩) hlt).trans x2, (HST.out.bel.cell (p := ⟨bb, off + k * 4 + 3, none⟩) hlt).trans x3⟩
      have hcn := HW.out.c1
      have KWR : Hid (Calls Try.prog 15 #[.pointer (some ⟨b, 0, none⟩), .int .i64 z1, .int .i64 z2, .slice ua B.length uc] wr.drew fun e w' => ∃ cc : Nat, e = .returned (.int .u16 (cc : Int)) ∧ BayPost wr.drew T b (s.write z1 z2 B).2 w') :=
        (bay_write_if (HST.out.bay.keep (S := fun _ => False) ((Chg.refl _ _).drew) (fun _ _ h => h)) z1 z2 _ B (by omega) (fun i hi x hx => Nat.le_trans (HW.out.small i hi x hx) (by omega)) hseg htag).mono fun e w' ⟨h1, h2⟩ => ⟨_, h1, h2⟩
      have hbl : bb < wr.heap.size := Nat.lt_of_lt_of_le hlt HST.out.bel.size
      clear x1 x2 x3 x4 x5 hseg htag
      as_aux_lemma =>
        go_wp2
        go_region_held3 (fun w' => w'.cell? ⟨bb, off + k * 4 + 1, none⟩ = some (.int .i64 z1) ∧ w'.cell? ⟨bb, off + k * 4 + 2, none⟩ = some (.int .i64 z2) ∧ w'.cell? ⟨bb, off + k * 4 + 3, none⟩ = some (.slice ua B.length uc))
          (first | exact HSA.out | exact HSB.out)
          (first | (go_at_call 15; refine KWR.out.mono ?_; rintro e w2 ⟨cc, rfl, T2, hB2, hT2, hc2⟩; have HSB : Hid (w2.cell? ⟨bb, off + k * 4 + 1, none⟩ = some (.int .i64 z1) ∧ w2.cell? ⟨bb, off + k * 4 + 2, none⟩ = some (.int .i64 z2) ∧ w2.cell? ⟨bb, off + k * 4 + 3, none⟩ = some (.slice ua B.length uc)) := ⟨(hc2.cell (p := ⟨bb, off + k * 4 + 1, none⟩) hbl (by simp [htb])).trans HSA.out.1, (hc2.cell (p := ⟨bb, off + k * 4 + 2, none⟩) hbl (by simp [htb])).trans HSA.out.2.1, (hc2.cell (p := ⟨bb, off + k * 4 + 3, none⟩) hbl (by simp [htb])).trans HSA.out.2.2⟩))
        go_wp2
        have hsd : Stand w wr.drew T b s M C S := HST.out.chg (HST.out.bay.keep (S := fun _ => False) ((Chg.refl _ _).drew) (fun _ _ h => h)) ((Chg.refl _ _).drew)
        obtain ⟨y1, y2, y3⟩ := HW.out.write z1 z2 B
        exact ⟨⟨k + 1, K1.out, by go_num, T2, _, hsd.post hB2 hT2 hc2, y1, y2.trans HC.out, y3.trans HC2.out⟩, by simp [intOf]; omega⟩
    · obtain rfl : k = l.length := by omega
      obtain ⟨c0, c1, c2⟩ := HST.out.cells
      go_wp2
      go_loopw [10] (fun q wr => ∃ k : Nat, k ≤ M ∧ q = .int .i64 k ∧ ∃ T s, Stand w wr T b s M C S ∧ Work s M R l.length ∧ s.cnt 0 = 0 ∧ s.cnt 2 = k ∧ ∀ j, j < k → s.dry j) (fun q _ => M - (intOf q).toNat)
      case atStart => exact ⟨0, by omega, rfl, T, s, HST.out, HW.out, HC.out, HC2.out, fun j hj => by omega⟩
      case round =>
        clear HST HW HC HC2 T s c0 c1 c2
        obtain ⟨k, hk, rfl, T, s, hst, hw, hc0, hc2, hdry⟩ := hrel
        have HST := Lib.hid hst
        have HW := Lib.hid hw
        have HC := Lib.hid hc0
        have HC2 := Lib.hid hc2
        have HD := Lib.hid hdry
        obtain ⟨c0, c1, c2⟩ := hst.cells
        clear hst hw hc0 hc2 hdry
        by_cases hkM : k < M
        · have K1 : Hid (k + 1 ≤ M) := hkM
          have KF : Hid (Calls Try.prog 20 #[.pointer (some ⟨b, 0, none⟩), .int .i64 k] wr fun e w' => ∃ cc : Nat, e = .returned (.int .u16 (cc : Int)) ∧ BayPost wr T b (s.flush k).2 w') :=
            (bay_flush HST.out.bay k (by rw [HC2.out]; omega) (fun i hi x hx => Nat.le_trans (HW.out.small i hi x hx) (by omega))).mono fun e w' ⟨h1, h2⟩ => ⟨_, h1, h2⟩
          as_aux_lemma =>
            go_wp2_with (go_at_call 20; refine KF.out.mono ?_; rintro e w2 ⟨cc, rfl, T2, hB2, hT2, hc2⟩)
            obtain ⟨-, y1, y2, y3, y4⟩ := HW.out.flush k K1.out HD.out
            exact ⟨⟨k + 1, K1.out, by go_num, T2, _, HST.out.post hB2 hT2 hc2, y1, y2.trans HC.out, y3.trans (by rw [HC2.out]; omega), y4⟩, by simp [intOf]; omega⟩
        · obtain rfl : M = k := by omega
          have tm : ∀ (a : Int) (n : Nat), 0 < n → -(n : Int) < Int.tmod a n ∧ Int.tmod a n < n ∧ ((Int.tmod a n).natAbs < n) := fun a n hn => by
            have h1 := Int.natAbs_tmod a n
            have h2 : a.natAbs % n < n := Nat.mod_lt _ hn
            have h3 : (Int.tmod a n).natAbs < n := by rw [h1, Int.natAbs_natCast]; exact h2
            omega
          obtain ⟨r2a, r2b, hkk⟩ := tm a R hR0
          have hmx : ∀ z : Int, ((z.natAbs : Nat) : Int) = if z < -z then -z else z := fun z => by split <;> omega
          have hmx2 := Lib.hid (hmx (Int.tmod a R))
          clear tm hmx
          generalize hek : (Int.tmod a R).natAbs = kk at *
          clear hek
          have m0b : ¬ R = 0 := by omega
          have m0d : ¬ (R : Int) = 0 := by omega
          have hp : parOf M C kk < M := parOf_lt (by omega)
          have KP : Hid (∀ W, Calls Try.prog 21 #[geo M C S, .int .i64 kk] W fun e w' => e = .returned (.tuple #[.int .i64 (parOf M C kk : Int), .int .i64 0]) ∧ Below W.heap.size W w') := fun W => ref_parity M C S kk W hg (by rw [HRR.out]; exact hkk)
          have hpe := Lib.hid (rfl : parOf M C kk = parOf M C kk)
          obtain ⟨sD, eD, hsmD, hcut⟩ := mends_plain HW.out HD.out hp hkk
          have hRM : R * M ≤ 4096 * 16 := Nat.mul_le_mul hR1 (by omega)
          have hsz : ∀ m, m < M → newSz M R m = 1 + S * C := fun m hm => by rw [HRR.out]; exact newSz_at m hm
          have hl6 : l.length ≤ 1000000 := by omega
          have KRw : Hid (∀ W, BayAt W T b s → Calls Try.prog 16 #[.pointer (some ⟨b, 0, none⟩), geo M C S] W fun e w' => ∃ v, e = .returned (.tuple #[v, noTrouble]) ∧ w'.ownsRow W.heap.size 3 1 v (uneven s M R).length (kcells (uneven s M R)) ∧ BayAt w' T b (s.ticks 0 (R * M)) ∧ Chg (fun q => T q ≠ 0) W w') := fun W hB => by
            have := calm_rows hB HW.out.calm M C S hg HW.out.n hsz (by rw [HC.out]; omega) (fun i hi x hx => Nat.le_trans (HW.out.small i hi x hx) (by omega))
            rw [HRR.out] at this
            exact this
          have KRd : Hid (∀ W j, j < M → BayAt W T b ((s.ticks 0 (R * M)).ticks 0 j) → Calls Try.prog 22 #[.pointer (some ⟨b, 0, none⟩), .int .i64 j, .int .i64 (1 + (kk : Int))] W fun e w' => ∃ v, e = .returned (.tuple #[v, .int .u16 0]) ∧ w'.ownsRow W.heap.size 5 1 v 128 (ucells (s.sec j (1 + kk))) ∧ BayAt w' T b ((s.ticks 0 (R * M)).ticks 0 (j + 1)) ∧ Chg (fun q => T q ≠ 0) W w') := fun W j hj hB => by
            have hr := read_calm ((HW.out.calm.ticks 0 (R * M)).ticks 0 j) j (1 + kk) (by show j < s.n; rw [HW.out.n]; omega) (by rw [newSz_at j hj]; omega)
            rw [show ((1 + kk : Nat) : Int) = 1 + (kk : Int) by omega] at hr
            refine (bay_read hB j (1 + (kk : Int)) (by rw [cnt_ticks, cnt_ticks, HC.out]; omega) (fun i hi x hx => Nat.le_trans (HW.out.small i hi x hx) (by omega))).mono fun e w' ⟨v, h1, h2, h3, h4, h5⟩ => ?_
            rw [hr] at h1 h2 h4
            change BayAt w' T b (((s.ticks 0 (R * M)).ticks 0 j).ticks 0 1) at h2
            rw [ticks_ticks (s.ticks 0 (R * M)) 0 j 1] at h2
            exact ⟨v, h1, h4 _ rfl, h2, h3⟩
          have KM : Hid (∀ W, BayAt W T b ((s.ticks 0 (R * M)).ticks 0 M) → Calls Try.prog 23 #[.pointer (some ⟨b, 0, none⟩), geo M C S, .int .i64 kk] W fun e w' => e = .returned noTrouble ∧ BayPost W T b sD w') := fun W hB =>
            calm_mend hB M C S kk hg HW.out.n (by rw [HRR.out]; exact hkk) (by rw [cnt_ticks, cnt_ticks, HC.out]; omega) (by rw [cnt_ticks_ne _ _ _ 1 (by omega), cnt_ticks_ne _ _ _ 1 (by omega)]; have := HW.out.c1; omega) (by rw [cnt_ticks_ne _ _ _ 2 (by omega), cnt_ticks_ne _ _ _ 2 (by omega), HC2.out]; omega) (fun i hi x hx => Nat.le_trans (HW.out.small i hi x hx) (by omega)) eD
          have KCut : Hid (∀ W T', BayAt W T' b sD → Calls Try.prog 24 #[.pointer (some ⟨b, 0, none⟩), .slice none 0 0] W fun e w' => e = .returned (.tuple #[]) ∧ BayAt w' T' b (sD.cut []) ∧ Chg (fun q => T' q ≠ 0) W w') := fun W T' hB =>
            bay_cut hB (.slice none 0 0) [] (Bitss.nil _ _) (BaySt.small.in (fun i hi x hx => Nat.le_trans (hsmD i hi x hx) (by omega)))
          have hE0 : (sD.cut []).cnt 0 ≤ 200000 := by rw [hcut.c0, HC.out]; omega
          have KRw2 : Hid (∀ W T', BayAt W T' b (sD.cut []) → Calls Try.prog 16 #[.pointer (some ⟨b, 0, none⟩), geo M C S] W fun e w' => ∃ v, e = .returned (.tuple #[v, noTrouble]) ∧ w'.ownsRow W.heap.size 3 1 v (butOne (uneven s M R) kk).length (kcells (butOne (uneven s M R) kk)) ∧ BayAt w' T' b ((sD.cut []).ticks 0 (R * M)) ∧ Chg (fun q => T' q ≠ 0) W w') := fun W T' hB => by
            have := calm_rows hB hcut.work.calm M C S hg hcut.work.n hsz (by omega) (fun i hi x hx => Nat.le_trans (hcut.work.small i hi x hx) (by omega))
            rw [HRR.out, hcut.un] at this
            exact this
          have hjM : ∀ j, j < M → j * M ≤ 16 * 16 := fun j hj => Nat.mul_le_mul (by omega) (by omega)
          have KRd2 : Hid (∀ W T' j, j < M → BayAt W T' b (((sD.cut []).ticks 0 (R * M)).ticks 0 (j * M)) → Calls Try.prog 22 #[.pointer (some ⟨b, 0, none⟩), .int .i64 j, .int .i64 (1 + (kk : Int))] W fun e w' => ∃ v, e = .returned (.tuple #[v, .int .u16 0]) ∧ w'.ownsRow W.heap.size 5 1 v 128 (ucells ((sD.cut []).sec j (1 + kk))) ∧ BayAt w' T' b (((sD.cut []).ticks 0 (R * M)).ticks 0 (j * M + 1)) ∧ Chg (fun q => T' q ≠ 0) W w') := fun W T' j hj hB => by
            have hr := read_calm ((hcut.work.calm.ticks 0 (R * M)).ticks 0 (j * M)) j (1 + kk) (by show j < (sD.cut []).n; rw [hcut.work.n]; omega) (by rw [newSz_at j hj]; omega)
            rw [show ((1 + kk : Nat) : Int) = 1 + (kk : Int) by omega] at hr
            have := hjM j hj
            refine (bay_read hB j (1 + (kk : Int)) (by rw [cnt_ticks, cnt_ticks]; omega) (fun i hi x hx => Nat.le_trans (hcut.work.small i hi x hx) (by omega))).mono fun e w' ⟨v, h1, h2, h3, h4, h5⟩ => ?_
            rw [hr] at h1 h2 h4
            change BayAt w' T' b ((((sD.cut []).ticks 0 (R * M)).ticks 0 (j * M)).ticks 0 1) at h2
            rw [ticks_ticks ((sD.cut []).ticks 0 (R * M)) 0 (j * M) 1] at h2
            exact ⟨v, h1, h4 _ rfl, h2, h3⟩
          have KLo : Hid (∀ W T' j, j < M → BayAt W T' b (((sD.cut []).ticks 0 (R * M)).ticks 0 (j * M + 1)) → Calls Try.prog 17 #[.pointer (some ⟨b, 0, none⟩), geo M C S, .int .i64 j, .int .i64 kk] W fun e w' => ∃ v, e = .returned (.tuple #[v, noTrouble]) ∧ w'.ownsRow W.heap.size 5 1 v 128 (ucells ((sD.cut []).sec j (1 + kk))) ∧ BayAt w' T' b (((sD.cut []).ticks 0 (R * M)).ticks 0 ((j + 1) * M)) ∧ Chg (fun q => T' q ≠ 0) W w') := fun W T' j hj hB => by
            have h0 := hjM j hj
            have := calm_lost hB ((hcut.work.calm.ticks 0 (R * M)).ticks 0 (j * M + 1)) M C S j kk hg hcut.work.n hsz hj (by rw [HRR.out]; exact hkk) (by rw [cnt_ticks, cnt_ticks]; omega) (fun i hi x hx => Nat.le_trans (hcut.work.small i hi x hx) (by omega))
            rw [ticks_ticks ((sD.cut []).ticks 0 (R * M)) 0 (j * M + 1) (M - 1), show j * M + 1 + (M - 1) = (j + 1) * M by rw [Nat.succ_mul]; omega] at this
            rw [show sumL (xorTo (fun m => (((sD.cut []).ticks 0 (R * M)).ticks 0 (j * M + 1)).sec m (1 + kk)) (j : Int) M) 128 = (sD.cut []).sec j (1 + kk) from hcut.lost j hj] at this
            exact this
          have HUN := Lib.hid hcut.un
          have HKEEP := Lib.hid hcut.keep
          have hlen0 := uneven_length s M R
          have hsl : ∀ j, j < M → (s.sec j (1 + kk)).length = 128 := fun j hj => HW.out.calm.sec_length j _ (by rw [HW.out.n]; omega)
          have hsl2 : ∀ j, j < M → ((sD.cut []).sec j (1 + kk)).length = 128 := fun j hj => hcut.work.calm.sec_length j _ (by rw [hcut.work.n]; omega)
          have HSL := Lib.hid hsl
          have HSL2 := Lib.hid hsl2
          clear hcut hsl hsl2 hjM hE0 hsz eD hsmD
          generalize uneven s M R = L at *
          generalize sD.cut [] = sE at *
          generalize parOf M C kk = p at *
          unfold geo at *
          go_wp2_with (first
            | (go_at_call 16; refine (KRw.out wr HST.out.bay).mono ?_; rintro e w1 ⟨vl, rfl, hown1, hB1, hc1⟩; obtain ⟨al, cl, rfl⟩ := ownsRow_shape hown1; have st1 := (HST.out.chg hB1 hc1).alloc (.cells #[.int .i64 0, .int .u16 0] 37); have hl1 := (Held.new hown1 HST.out.bay.virgin).alloc (.cells #[.int .i64 0, .int .u16 0] 37); obtain ⟨c0, c1, c2⟩ := st1.cells; have ST1 := Lib.hid st1; have HL1 := Lib.hid hl1; clear st1 hl1)
            | (go_at_call 14; (with_reducible refine (KR.out _).mono ?_); rintro e w2 ⟨rfl, hb2⟩; have st2 := ST1.out.below hb2; have HL2 := Lib.hid (HL1.out.below hb2); obtain ⟨c0, c1, c2⟩ := st2.cells; have ST2 := Lib.hid st2; clear st2)
            | (refine wpList_max rfl _ _ 3 rfl _ _ (kk : Int) rfl rfl hmx2.out ?_)
            | (go_at_call 21; (with_reducible refine (KP.out _).mono ?_); rintro e w3 ⟨rfl, hb3⟩; have st3 := ST2.out.below hb3; have HL3 := Lib.hid (HL2.out.below hb3); obtain ⟨c0, c1, c2⟩ := st3.cells; have ST3 := Lib.hid st3; clear st3))
          go_loopw [16, 17] (fun v q wr => ∃ j : Nat, j ≤ M ∧ q = .int .i64 j ∧ ∃ us, Olds wr T v us j (fun m => s.sec m (1 + kk)) ∧ (∀ g, v.ownBlock = some g → w.heap.size ≤ g) ∧ Stand w wr T b ((s.ticks 0 (R * M)).ticks 0 j) M C S ∧ Held wr T (.slice al L.length cl) 3 L.length (kcells L)) (fun _ q _ => M - (intOf q).toNat)
          case atStart => exact ⟨0, by omega, rfl, [], olds_nil _ _ _, fun g hg => by simp [Value.ownBlock] at hg, by rw [ticks_zero]; exact ST3.out, HL3.out⟩
          case round =>
            clear c0 c1 c2
            obtain ⟨j, hj, rfl, us, hol, hog, hst3, hhl⟩ := hrel
            have HOL := Lib.hid hol
            have HOG := Lib.hid hog
            have HST3 := Lib.hid hst3
            have HHL := Lib.hid hhl
            obtain ⟨c0, c1, c2⟩ := hst3.cells
            clear hol hog hst3 hhl
            by_cases hjM : j < M
            · have K1 : Hid (j + 1 ≤ M) := hjM
              have KRd1 := Lib.hid (KRd.out wr j hjM HST3.out.bay)
              as_aux_lemma =>
                go_wp2_with (first
                  | (go_at_call 22; refine KRd1.out.mono ?_; rintro e w1 ⟨u, rfl, hown, hB1, hc1⟩; obtain ⟨gu, cu, rfl, -, -⟩ := ownsRow_full hown (by omega); have hrow : (w1.alloc (.cells #[.slice (some ⟨gu, 0, none⟩) 128 cu] 34)).ownsRow 0 34 1 u16 j us := (by obtain ⟨⟨B, ho⟩, -⟩ := ((HOL.out.chg hc1).row).alloc (.cells #[.slice (some ⟨gu, 0, none⟩) 128 cu] 34); exact ownsRow_lower ho (Nat.zero_le _)); have HOW := Lib.hid hown; have HRW := Lib.hid hrow; clear hown hrow)
                  | (refine wpList_append_keeps rfl _ _ 51 34 1 24 rfl slice_rows 0 u16 j us rfl HRW.out ⟨w1.heap.size, 0, none⟩ 1 1 [.slice (some ⟨gu, 0, none⟩) 128 cu] rfl rfl (one_new _ _ _) (fun x hx => by rw [List.mem_singleton.1 hx]; rfl) (by unfold maxLen; omega) (by omega) (by omega) (by omega) ?_; intro v' w5 hown5 hloc hch5 _))
                have hol5 := HOL.out.more hc1 HOW.out HST3.out.bay.virgin hown5 hloc hch5
                have hst1 : Stand w w1 T b ((s.ticks 0 (R * M)).ticks 0 (j + 1)) M C S := HST3.out.chg hB1 hc1
                have hst5 := (hst1.alloc (.cells #[.slice (some ⟨gu, 0, none⟩) 128 cu] 34)).other hch5 (fun q hq => HOL.out.row.tag q hq) (fun e => ownsRow_noCell HRW.out (hst1.alloc (.cells #[.slice (some ⟨gu, 0, none⟩) 128 cu] 34)).box.at' (by decide) e) (fun q hq => HOG.out q hq)
                have hhl5 := ((HHL.out.chg hc1).alloc (.cells #[.slice (some ⟨gu, 0, none⟩) 128 cu] 34)).other hch5 (fun g hg e => by
                  obtain ⟨⟨B, ho⟩, -⟩ := (HHL.out.chg hc1).alloc (.cells #[.slice (some ⟨gu, 0, none⟩) 128 cu] 34)
                  exact ownsRow_apart HRW.out ho (by decide) e hg)
                refine ⟨⟨j + 1, K1.out, by go_num, us ++ [.slice (some ⟨gu, 0, none⟩) 128 cu], hol5, fun g hg => ?_, hst5, hhl5⟩, by simp [intOf]; omega⟩
                rcases hloc with e | e
                · exact HOG.out g (e ▸ hg)
                · rw [e] at hg
                  simp only [Option.some.injEq] at hg
                  subst hg
                  exact (hst1.alloc (.cells #[.slice (some ⟨gu, 0, none⟩) 128 cu] 34)).bel.size
            · obtain rfl : M = j := by omega
              have KM1 := Lib.hid (KM.out wr HST3.out.bay)
              go_wp2_with (first
                | (go_at_call 23; refine KM1.out.mono ?_; rintro e w1 ⟨rfl, T1, hB1, hT1, hc1⟩; have ST4 := Lib.hid (HST3.out.post hB1 hT1 hc1); have OL4 := Lib.hid (HOL.out.post hT1 hc1); have HL4 := Lib.hid (HHL.out.post hT1 hc1); clear hB1)
                | (go_at_call 24; refine (KCut.out w1 T1 ST4.out.bay).mono ?_; rintro e w2 ⟨rfl, hB2, hc2⟩; have st5 := ST4.out.chg hB2 hc2; have OL5 := Lib.hid (OL4.out.chg hc2); have HL5 := Lib.hid (HL4.out.chg hc2); obtain ⟨c0, c1, c2⟩ := st5.cells; have ST5 := Lib.hid st5; clear st5 hB2)
                | (go_at_call 16; refine (KRw2.out w2 T1 ST5.out.bay).mono ?_; rintro e w3 ⟨vn, rfl, hown3, hB3, hc3⟩; obtain ⟨an, cn, rfl⟩ := ownsRow_shape hown3; have st6 := (ST5.out.chg hB3 hc3).alloc (.cells #[.int .i64 0, .int .u16 0] 37); have OL6 := Lib.hid ((OL5.out.chg hc3).below ((Below.refl _ _).alloc (Nat.le_refl _) (.cells #[.int .i64 0, .int .u16 0] 37))); have HL6 := Lib.hid ((HL5.out.chg hc3).alloc (.cells #[.int .i64 0, .int .u16 0] 37)); have HN6 := Lib.hid ((Held.new hown3 ST5.out.bay.virgin).alloc (.cells #[.int .i64 0, .int .u16 0] 37)); have KT6 := Lib.hid (At.new w3 #[.int .i64 0, .int .u16 0] 37); have ST6 := Lib.hid st6; clear st6 hB3 hown3))
              clear c0 c1 c2
              have hsm := butOne_length L kk
              have KSI : Hid (∀ W u v (l : List Nat), l.length ≤ 1000000 → ISeg W u l → ISeg W v l → Calls Try.prog 18 #[u, v] W fun e w' => e = .returned (.bool true) ∧ Below W.heap.size W w') := fun W u v l hl h1 h2 => (same_ints u v l l W hl hl h1 h2).mono fun e w' ⟨x1, x2⟩ => ⟨by rw [x1]; simp, x2⟩
              have KSB : Hid (∀ W u v (l : List UInt8), l.length = 128 → Seg W u l → Seg W v l → Calls Try.prog 19 #[u, v] W fun e w' => e = .returned (.bool true) ∧ Below W.heap.size W w') := fun W u v l hl h1 h2 => (same_any u v l l W (by rw [hl]; omega) (by rw [hl]; omega) h1 h2).mono fun e w' ⟨x1, x2⟩ => ⟨by rw [x1]; simp, x2⟩
              go_loopw [22, 23] (fun v q wr => ∃ i : Nat, i ≤ L.length ∧ q = .int .i64 i ∧ wr.ownsRow (w3.alloc (.cells #[.int .i64 0, .int .u16 0] 37)).heap.size 3 1 v (butOne (L.take i) kk).length (kcells (butOne (L.take i) kk)) ∧ Below (w3.alloc (.cells #[.int .i64 0, .int .u16 0] 37)).heap.size (w3.alloc (.cells #[.int .i64 0, .int .u16 0] 37)) wr) (fun _ q _ => L.length - (intOf q).toNat)
              case atStart => exact ⟨0, by omega, rfl, World.ownsRow_nil _ _ _ _, Below.refl _ _⟩
              case round =>
                obtain ⟨i, hi, rfl, hwant, hb4⟩ := hrel
                have HWN := Lib.hid hwant
                clear hwant
                by_cases hiL : i < L.length
                · have K1 : Hid (i + 1 ≤ L.length) := hiL
                  obtain ⟨⟨B, ho⟩, -⟩ := HL6.out
                  obtain ⟨gl, cap, hvv, -, hgl, hcc, -⟩ := ownsRow_cell ho (by omega)
                  simp only [Value.slice.injEq] at hvv
                  obtain ⟨rfl, -, rfl⟩ := hvv
                  have d0 : wr.cell? ⟨gl, i, none⟩ = some (.int .i64 ((L[i] : Nat) : Int)) := (hb4.cell (p := ⟨gl, i, none⟩) hgl).trans ((hcc i hiL).trans (kcells_at L i hiL))
                  have hbt := Lib.hid (butOne_take L kk i hiL)
                  clear ho hcc
                  generalize L[i] = x at *
                  have htl : (butOne (L.take i) kk).length ≤ i := by
                    have := butOne_length (L.take i) kk
                    rw [List.length_take] at this
                    omega
                  by_cases hxk : x = kk
                  · rw [if_pos hxk] at hbt
                    have hne : ((x : Int) != (kk : Int)) = false := by rw [hxk]; simp
                    clear hxk
                    as_aux_lemma =>
                      go_wp2
                      exact ⟨⟨i + 1, K1.out, by go_num, by rw [hbt.out]; exact HWN.out, hb4⟩, by simp [intOf]; omega⟩
                  · rw [if_neg hxk] at hbt
                    have hne : ((x : Int) != (kk : Int)) = true := by simp only [bne_iff_ne, ne_eq]; omega
                    clear hxk
                    as_aux_lemma =>
                      go_wp2_with (refine wpList_append_one rfl _ _ 31 3 8 rfl slice_ints (w3.alloc (.cells #[.int .i64 0, .int .u16 0] 37)).heap.size u22 (butOne (L.take i) kk).length _ rfl HWN.out _ rfl rfl (by unfold maxLen; omega) (by omega) hb4.size ?_; intro v' w5 hown5 hb5 hgr5)
                      refine ⟨⟨i + 1, K1.out, by go_num, ?_, hb4.trans hb5⟩, by simp [intOf]; omega⟩
                      rw [hbt.out, kcells_snoc, List.length_append]
                      exact hown5
                · obtain rfl : i = L.length := by omega
                  rw [List.take_length] at HWN
                  have hkt := KT6.out.below hb4 KT6.out.lt
                  have x0 : wr.cell? ⟨w3.heap.size, 0, none⟩ = some (.int .i64 0) := hkt.cell 0
                  have x1 : wr.cell? ⟨w3.heap.size, 1, none⟩ = some (.int .u16 0) := hkt.cell 1
                  clear hkt
                  have KS1 : Hid (Calls Try.prog 18 #[.slice an (butOne L kk).length cn, u22] wr fun e w' => e = .returned (.bool true) ∧ Below wr.heap.size wr w') := by
                    obtain ⟨⟨B, ho⟩, -⟩ := HN6.out.below hb4
                    exact KSI.out wr _ _ (butOne L kk) (by omega) (iseg_of_owns ho) (iseg_of_owns HWN.out)
                  have HST7 := Lib.hid (ST6.out.below hb4)
                  have HOL7 := Lib.hid (OL6.out.below hb4)
                  go_wp2_with (go_at_call 18; refine KS1.out.mono ?_; rintro e w6 ⟨rfl, hb6⟩; have HST8 := Lib.hid (HST7.out.below hb6); have HOL8 := Lib.hid (HOL7.out.below hb6))
                  clear x0 x1
                  obtain ⟨⟨B, hold⟩, -⟩ := HOL8.out.row
                  obtain ⟨go, co, rfl, -, -⟩ := ownsRow_full hold (by omega)
                  clear hold B
                  go_loopw [24] (fun q wr => ∃ j : Nat, j ≤ M ∧ q = .int .i64 j ∧ Stand w wr T1 b ((sE.ticks 0 (R * M)).ticks 0 (j * M)) M C S ∧ Olds wr T1 (.slice (some ⟨go, 0, none⟩) M co) us M (fun m => s.sec m (1 + kk))) (fun q _ => M - (intOf q).toNat)
                  case atStart => exact ⟨0, by omega, rfl, by rw [Nat.zero_mul, ticks_zero]; exact HST8.out, HOL8.out⟩
                  case round =>
                    obtain ⟨j, hj, rfl, hst, hol⟩ := hrel
                    have HST9 := Lib.hid hst
                    have HOL9 := Lib.hid hol
                    obtain ⟨c0, c1, c2⟩ := hst.cells
                    clear hst hol
                    by_cases hjM : j < M
                    · have K1 : Hid (j + 1 ≤ M) := hjM
                      have hju : j < us.length := by rw [HOL9.out.len]; exact hjM
                      have KA := Lib.hid (KRd2.out wr T1 j hjM HST9.out.bay)
                      have KB := Lib.hid (fun W => KLo.out W T1 j hjM)
                      have HS1 := Lib.hid (HSL2.out j hjM)
                      have HK1 := Lib.hid (fun hne => HKEEP.out j hjM hne)
                      by_cases hjp : j = p
                      · have hne : ((j : Int) != (p : Int)) = false := by rw [hjp]; simp
                        clear hjp
                        as_aux_lemma =>
                          go_wp2_with (first
                            | (go_at_call 22; refine KA.out.mono ?_; rintro e w1 ⟨u1, rfl, hown1, hB1, hc1⟩; obtain ⟨gu, cu, rfl, -, -⟩ := ownsRow_full hown1 (by omega); have st1 := HST9.out.chg hB1 hc1; have OL1 := Lib.hid (HOL9.out.chg hc1); have HD1 := Lib.hid (Held.new hown1 HST9.out.bay.virgin); obtain ⟨c0, c1, c2⟩ := st1.cells; have ST1 := Lib.hid st1; clear st1 hown1 hB1)
                            | (go_at_call 17; refine (KB.out w1 ST1.out.bay).mono ?_; rintro e w2 ⟨x, rfl, hown2, hB2, hc2⟩; obtain ⟨gx, cx, rfl, -, -⟩ := ownsRow_full hown2 (by omega); have ST2 := Lib.hid ((ST1.out.chg hB2 hc2).alloc (.cells #[.int .i64 0, .int .u16 0] 37)); have OL2 := Lib.hid ((OL1.out.chg hc2).below ((Below.refl _ _).alloc (Nat.le_refl _) (.cells #[.int .i64 0, .int .u16 0] 37))); have HD2 := Lib.hid ((HD1.out.chg hc2).alloc (.cells #[.int .i64 0, .int .u16 0] 37)); have HX2 := Lib.hid ((Held.new hown2 ST1.out.bay.virgin).alloc (.cells #[.int .i64 0, .int .u16 0] 37)); clear hown2 hB2)
                            | (go_at_call 19; refine (KSB.out (w2.alloc (.cells #[.int .i64 0, .int .u16 0] 37)) _ _ _ HS1.out (by obtain ⟨⟨B, ho⟩, -⟩ := HD2.out; exact seg_of_sec ho) (by obtain ⟨⟨B, ho⟩, -⟩ := HX2.out; exact seg_of_sec ho)).mono ?_; rintro e w5 ⟨rfl, hb5⟩; have ST5 := Lib.hid (ST2.out.below hb5); have ol5 := OL2.out.below hb5; have HD5 := Lib.hid (HD2.out.below hb5); obtain ⟨⟨B5, ho5⟩, -⟩ := ol5.each j hju; obtain ⟨gj, cj, hshp, -, -⟩ := ownsRow_full ho5 (by omega); have d0 : w5.cell? ⟨go, j, none⟩ = some (.slice (some ⟨gj, 0, none⟩) 128 cj) := (ol5.row.cell (by omega) j (by omega)).trans (by rw [List.getElem?_eq_getElem hju, hshp]); have HSJ := Lib.hid (hshp ▸ seg_of_sec ho5 : Seg w5 (.slice (some ⟨gj, 0, none⟩) 128 cj) (s.sec j (1 + kk))); have OL5 := Lib.hid ol5; clear ol5 ho5 hshp))
                          exact ⟨⟨j + 1, K1.out, by go_num, ST5.out, OL5.out⟩, by simp [intOf]; omega⟩
                      · have hne : ((j : Int) != (p : Int)) = true := by simp only [bne_iff_ne, ne_eq]; omega
                        have HK2 := Lib.hid (HK1.out hjp)
                        clear hjp
                        as_aux_lemma =>
                          go_wp2_with (first
                            | (go_at_call 19; refine (KSB.out w5 _ _ _ HS1.out (by obtain ⟨⟨B, ho⟩, -⟩ := HD5.out; exact seg_of_sec ho) (by rw [HK2.out]; exact HSJ.out)).mono ?_; rintro e w7 ⟨rfl, hb7⟩)
                            | (go_at_call 22; refine KA.out.mono ?_; rintro e w1 ⟨u1, rfl, hown1, hB1, hc1⟩; obtain ⟨gu, cu, rfl, -, -⟩ := ownsRow_full hown1 (by omega); have st1 := HST9.out.chg hB1 hc1; have OL1 := Lib.hid (HOL9.out.chg hc1); have HD1 := Lib.hid (Held.new hown1 HST9.out.bay.virgin); obtain ⟨c0, c1, c2⟩ := st1.cells; have ST1 := Lib.hid st1; clear st1 hown1 hB1)
                            | (go_at_call 17; refine (KB.out w1 ST1.out.bay).mono ?_; rintro e w2 ⟨x, rfl, hown2, hB2, hc2⟩; obtain ⟨gx, cx, rfl, -, -⟩ := ownsRow_full hown2 (by omega); have ST2 := Lib.hid ((ST1.out.chg hB2 hc2).alloc (.cells #[.int .i64 0, .int .u16 0] 37)); have OL2 := Lib.hid ((OL1.out.chg hc2).below ((Below.refl _ _).alloc (Nat.le_refl _) (.cells #[.int .i64 0, .int .u16 0] 37))); have HD2 := Lib.hid ((HD1.out.chg hc2).alloc (.cells #[.int .i64 0, .int .u16 0] 37)); have HX2 := Lib.hid ((Held.new hown2 ST1.out.bay.virgin).alloc (.cells #[.int .i64 0, .int .u16 0] 37)); clear hown2 hB2)
                            | (go_at_call 19; refine (KSB.out (w2.alloc (.cells #[.int .i64 0, .int .u16 0] 37)) _ _ _ HS1.out (by obtain ⟨⟨B, ho⟩, -⟩ := HD2.out; exact seg_of_sec ho) (by obtain ⟨⟨B, ho⟩, -⟩ := HX2.out; exact seg_of_sec ho)).mono ?_; rintro e w5 ⟨rfl, hb5⟩; have ST5 := Lib.hid (ST2.out.below hb5); have ol5 := OL2.out.below hb5; have HD5 := Lib.hid (HD2.out.below hb5); obtain ⟨⟨B5, ho5⟩, -⟩ := ol5.each j hju; obtain ⟨gj, cj, hshp, -, -⟩ := ownsRow_full ho5 (by omega); have d0 : w5.cell? ⟨go, j, none⟩ = some (.slice (some ⟨gj, 0, none⟩) 128 cj) := (ol5.row.cell (by omega) j (by omega)).trans (by rw [List.getElem?_eq_getElem hju, hshp]); have HSJ := Lib.hid (hshp ▸ seg_of_sec ho5 : Seg w5 (.slice (some ⟨gj, 0, none⟩) 128 cj) (s.sec j (1 + kk))); have OL5 := Lib.hid ol5; clear ol5 ho5 hshp))
                          exact ⟨⟨j + 1, K1.out, by go_num, ST5.out.below hb7, OL5.out.below hb7⟩, by simp [intOf]; omega⟩
                    · obtain rfl : M = j := by omega
                      go_wp2
                      go_ret
                      exact ⟨rfl, HST9.out.bel⟩

end Go.Proofs.Ytkcfmkhakghniaa
