/- The document's scrub: Rows. -/
import Derived.Test.YtleicmmbaacbmaaGreatMrg16
set_option linter.unusedVariables false
namespace Go.Proofs.YtleicmmbaacbmaaGreat
open Go.RowKit

set_option maxRecDepth 100000 in
set_option maxHeartbeats 4000000 in
theorem ref_rows20_no {w : World} {R : Nat → Prop} {b : Nat} {st : BaySt} (h : RBayAt w R b st) (m c s : Int) (cd : Int) (hcd : mayCode st.n m c s 0 0 = cd) (h0 : cd ≠ 0) :
    Calls Tryz.prog 26 #[.pointer (some ⟨b, 0, none⟩), geo m c s] w fun e w' =>
      e = .returned (.tuple #[.slice none 0 0, .agg #[.int .i64 0, .int .u16 cd]]) ∧ Below w.heap.size w w' := by
  have HF : Hid (∀ W, Below w.heap.size w W → Calls Tryz.prog 68 #[.pointer (some ⟨b, 0, none⟩), geo m c s, .int .i64 0, .int .i64 0] W fun e w' => e = .returned (.agg #[.int .i64 0, .int .u16 cd]) ∧ Below W.heap.size W w') := fun W hW => by
    have := ref_first (h.below hW) m c s 0 0
    rw [hcd] at this
    exact this
  have e1 : (w.alloc (ObjG m c s)).heap.size = w.heap.size + 1 := size_alloc _ _
  have e2 : ((w.alloc (ObjG m c s)).alloc (ObjT 0 0)).heap.size = w.heap.size + 2 := by rw [size_alloc, e1]
  have HB0 : Hid (Below w.heap.size w ((w.alloc (ObjG m c s)).alloc (ObjT 0 0))) := ((Below.refl _ _).alloc (Nat.le_refl _) _).alloc (by omega) _
  have HA : Hid (At ((w.alloc (ObjG m c s)).alloc (ObjT 0 0)) w.heap.size #[.int .i64 m, .int .i64 c, .int .i64 s] 23) := (At.new _ _ _).alloc _
  have HR : Hid (At ((w.alloc (ObjG m c s)).alloc (ObjT 0 0)) (w.heap.size + 1) #[.int .i64 0, .int .u16 0] 72) := At.new2 _ _ _ _
  have x0 := HA.out.cell 0
  have x1 := HA.out.cell 1
  have x2 := HA.out.cell 2
  have hne : (cd != 0) = true := by simp [h0]
  clear h hcd
  unfold ObjG ObjT geo at *
  go_enter Tryz.func26, Tryz.ntmps26
  go_wp2_with (first
    | (go_at_call 68; (with_reducible refine (HF.out _ HB0.out).mono ?_); rintro e w1 ⟨rfl, hb1⟩; have hR1 := HR.out.below hb1 HR.out.lt; have hR2 := hR1.alloc (.cells #[.int .i64 0, .int .u16 cd] 72); have hT2 := At.new w1 #[.int .i64 0, .int .u16 cd] 72; have d0 := hR2.cell 0; have d1 := hR2.cell 1; have f0 := hR2.free 0; have f1 := hR2.free 1; have y0 := hT2.cell 0; have y1 := hT2.cell 1; have HB1 : Hid (Below w.heap.size w (w1.alloc (.cells #[.int .i64 0, .int .u16 cd] 72))) := (HB0.out.trans (hb1.mono (by rw [e2]; omega))).alloc (by have := hb1.size; omega) _; have HR2 := Lib.hid hR2; have HLE : Hid (w.heap.size + 2 ≤ w1.heap.size) := by { have := hb1.size; rw [e2] at this; exact this }; clear hb1 hR1 hR2 hT2 x0 x1 x2))
  go_region
  obtain ⟨r0, r1, hset⟩ := trouble_set HR2.out (.int .i64 0) (.int .u16 cd)
  go_wp2
  clear d0 d1 f0 f1 y0 y1
  (try simp only [Exit.inBlock, Exit.then])
  refine bodyPost_ret (v := .tuple #[.slice none 0 0, .agg #[.int .i64 0, .int .u16 cd]]) ?_ rfl ⟨rfl, (trouble_below HB1.out (by omega) _ _).drew⟩
  rw [results_tmp_cell rfl]
  go_simp

/-- Where the document's Rows stands behind some rows. -/
structure RRowsAt (w : World) (R : Nat → Prop) (b : Nat) (M C S : Int) (L : Looked) (v : Value) (wx : World) : Prop where
  none' : L.t = none
  bay : ∃ R', RBayAt wx R' b L.s ∧ (∀ q, R' q → R q ∨ w.heap.size + 3 ≤ q) ∧ ∀ g, v.ownBlock = some g → ¬ R' g
  row : wx.ownsRow (w.heap.size + 3) 3 1 v L.l.length (kcells L.l)
  box : At wx w.heap.size #[.int .i64 M, .int .i64 C, .int .i64 S] 23
  res : At wx (w.heap.size + 1) #[.int .i64 0, .int .u16 0] 72
  size : w.heap.size + 3 ≤ wx.heap.size
  chg : Chg R w wx

theorem RRowsAt.did {w wx w2 : World} {R R' : Nat → Prop} {b : Nat} {M C S : Int} {L : Looked} {v : Value} {s2 : BaySt} (h : RRowsAt w R b M C S L v wx) (hlt : ∀ q, R q → q < w.heap.size) (k2 : ∀ q, R' q → R q ∨ w.heap.size + 3 ≤ q) (k3 : ∀ g, v.ownBlock = some g → ¬ R' g) (hp : RBPost wx R' b s2 w2) :
    RRowsAt w R b M C S ⟨none, L.l, s2⟩ v w2 := by
  obtain ⟨R2, p1, p2, p3⟩ := hp
  have hs := h.size
  have hno : ∀ q, q < w.heap.size + 3 → w.heap.size ≤ q → ¬ R' q := fun q h1 h2 h3 => by
    rcases k2 q h3 with e | e
    · have := hlt q e; omega
    · omega
  refine ⟨rfl, ⟨R2, p1, fun q hq => ?_, fun g hg e => ?_⟩, ownsRow_chg h.row p3 k3, h.box.mod p3 (hno _ (by omega) (by omega)), h.res.mod p3 (hno _ (by omega) (by omega)), Nat.le_trans hs p3.size, chg_and h.chg p3 (fun q hq e => (k2 q e).resolve_right (by omega))⟩
  · rcases p2 q hq with e | e
    · exact k2 q e
    · exact .inr (by omega)
  · rcases p2 g e with e | e
    · exact k3 g hg e
    · have := (h.row.lt g hg).2; omega
theorem RRowsAt.more {w wx w2 : World} {R : Nat → Prop} {b : Nat} {M C S : Int} {L : Looked} {v : Value} (h : RRowsAt w R b M C S L v wx) (hc : Chg (fun _ => False) wx w2) : RRowsAt w R b M C S L v w2 := by
  obtain ⟨R', k1, k2, k3⟩ := h.bay
  exact ⟨h.none', ⟨R', k1.keep hc (fun _ _ e => e), k2, k3⟩, ownsRow_chg h.row hc (fun _ _ e => e), h.box.mod hc (fun e => e), h.res.mod hc (fun e => e), Nat.le_trans h.size hc.size, h.chg.trans (hc.mono fun _ e => e.elim)⟩
/-- .. one row more is told. -/
theorem RRowsAt.tell {w wx w2 : World} {R : Nat → Prop} {b : Nat} {M C S : Int} {L : Looked} {v v' : Value} {l' : List Nat} (h : RRowsAt w R b M C S L v wx) (hc : Chg (fun q => v.ownBlock = some q) wx w2)
    (hrow : w2.ownsRow (w.heap.size + 3) 3 1 v' l'.length (kcells l')) (hv' : v'.ownBlock = v.ownBlock ∨ v'.ownBlock = some wx.heap.size) : RRowsAt w R b M C S ⟨none, l', L.s⟩ v' w2 := by
  obtain ⟨R', k1, k2, k3⟩ := h.bay
  have hs := h.size
  have hvl : ∀ q, v.ownBlock = some q → w.heap.size + 3 ≤ q := fun q hq => (h.row.lt q hq).1
  refine ⟨rfl, ⟨R', k1.keep hc (fun q hq e => k3 q e hq), k2, fun g hg e => ?_⟩, hrow, h.box.mod hc (fun e => by have := hvl _ e; omega), h.res.mod hc (fun e => by have := hvl _ e; omega), Nat.le_trans hs hc.size, chg_and h.chg hc (fun q hq e => by have := hvl _ e; omega)⟩
  rcases hv' with e' | e'
  · exact k3 g (e' ▸ hg) e
  · rw [e'] at hg
    obtain rfl := Option.some.inj hg
    have := k1.lt _ e
    omega
theorem RRowsAt.end {w wx w2 : World} {R : Nat → Prop} {b : Nat} {M C S : Int} {L : Looked} {v : Value} (h : RRowsAt w R b M C S L v wx) (hlt : ∀ q, R q → q < w.heap.size) (hc : Chg (fun q => q = w.heap.size + 1) wx w2) : RBPost w R b L.s w2 ∧ w2.ownsRow w.heap.size 3 1 v L.l.length (kcells L.l) := by
  obtain ⟨R', k1, k2, k3⟩ := h.bay
  refine ⟨⟨R', k1.keep hc (fun q hq e => ?_), fun q hq => (k2 q hq).imp id (fun e => by omega), chg_and h.chg hc (fun q hq e => by omega)⟩, ownsRow_lower (ownsRow_chg h.row hc (fun q hq e => by have := (h.row.lt q hq).1; omega)) (by omega)⟩
  rcases k2 q hq with e' | e'
  · have := hlt q e'; omega
  · omega

theorem zero_step (f : Nat → UInt8) (j : Nat) : decide (allZero f (j + 1)) = (decide (allZero f (j)) && decide (f j = 0)) := by
  rw [Bool.eq_iff_iff]
  simp only [decide_eq_true_eq, Bool.and_eq_true]
  constructor
  · intro h
    exact ⟨fun i hi => h i (by omega), h j (by omega)⟩
  · rintro ⟨h1, h2⟩ i hi
    by_cases e : i = j
    · rw [e]; exact h2
    · exact h1 i (by omega)

set_option maxRecDepth 100000 in
set_option maxHeartbeats 8000000 in
theorem ref_rows20 {w : World} {R : Nat → Prop} {b : Nat} {st : BaySt} (h : RBayAt w R b st) (M C S : Nat) (hg : geoIs M C S = true) (hn : st.n = M + 1) (hcnt : st.cnt 0 ≤ 999998000000) :
    Calls Tryz.prog 26 #[.pointer (some ⟨b, 0, none⟩), geo M C S] w fun e w' =>
      ∃ v, e = .returned (.tuple #[v, trVal (st.look M (S * C)).t]) ∧ ((st.look M (S * C)).t = none → w'.ownsRow w.heap.size 3 1 v (st.look M (S * C)).l.length (kcells (st.look M (S * C)).l)) ∧ ((st.look M (S * C)).t ≠ none → v = .slice none 0 0) ∧ RBPost w R b (st.look M (S * C)).s w' := by
  obtain ⟨g1, g2, g3, g4, g5, g6⟩ := (geoIs_iff M C S).1 hg
  have hbd := geo_bounds hg
  have hM16 : M ≤ 16 := by omega
  have hR0 : 0 < S * C := Nat.mul_pos (by omega) (by omega)
  have hR1 : S * C ≤ 4096 := by have := hbd.2; exact_mod_cast this
  have hcode0 : mayCode st.n M C S 0 0 = 0 := by
    unfold mayCode
    rw [if_pos hg, if_pos (by rw [hn]; omega), if_pos ⟨by omega, by omega, by omega, by exact_mod_cast hR0⟩]
  have HLT := Lib.hid h.lt
  have HF : Hid (∀ W, Below w.heap.size w W → Calls Tryz.prog 68 #[.pointer (some ⟨b, 0, none⟩), geo M C S, .int .i64 0, .int .i64 0] W fun e w' => e = .returned (.agg #[.int .i64 0, .int .u16 0]) ∧ Below W.heap.size W w') := fun W hW => by
    have := ref_first (h.below hW) M C S 0 0
    rw [hcode0] at this
    exact this
  have hrows : Hid (∀ W, Calls Tryz.prog 18 #[geo M C S] W fun e w' => e = .returned (.int .i64 ((S * C : Nat) : Int)) ∧ Below W.heap.size W w') := fun W => (ref_rows M C S W).mono fun e w' ⟨x1, x2⟩ => ⟨by rw [x1]; unfold geoRows; rw [if_pos hg, Int.natCast_mul], x2⟩
  have HSM : Hid (∀ k W R', k ≤ 4096 → RBayAt W R' b (st.look M k).s → Calls Tryz.prog 69 #[.pointer (some ⟨b, 0, none⟩), geo M C S, .int .i64 k, .int .i64 (-1)] W fun e w' => ∃ v, e = .returned (.tuple #[v, trVal ((st.look M k).s.hand ((1 + k : Nat) : Int) (-1) M).t]) ∧ lostVal ((st.look M k).s.hand ((1 + k : Nat) : Int) (-1) M) v w' W.heap.size ∧ RBPost W R' b ((st.look M k).s.hand ((1 + k : Nat) : Int) (-1) M).s w') := fun k W R' hk hB => by
    have hlr := look_reads st M k
    have hkM : k * M ≤ 4096 * 16 := Nat.mul_le_mul hk hM16
    have := ref_sum hB M C S k (-1) hM16 hk (by have := hlr.hi; omega)
    rw [show (1 + (k : Int)) = ((1 + k : Nat) : Int) by omega] at this
    exact this
  have e1 : (w.alloc (ObjG M C S)).heap.size = w.heap.size + 1 := size_alloc _ _
  have e2 : ((w.alloc (ObjG M C S)).alloc (ObjT 0 0)).heap.size = w.heap.size + 2 := by rw [size_alloc, e1]
  have HB0 : Hid (Below w.heap.size w ((w.alloc (ObjG M C S)).alloc (ObjT 0 0))) := ((Below.refl _ _).alloc (Nat.le_refl _) _).alloc (by omega) _
  have HA : Hid (At ((w.alloc (ObjG M C S)).alloc (ObjT 0 0)) w.heap.size #[.int .i64 M, .int .i64 C, .int .i64 S] 23) := (At.new _ _ _).alloc _
  have HR : Hid (At ((w.alloc (ObjG M C S)).alloc (ObjT 0 0)) (w.heap.size + 1) #[.int .i64 0, .int .u16 0] 72) := At.new2 _ _ _ _
  have x0 := HA.out.cell 0
  have x1 := HA.out.cell 1
  have x2 := HA.out.cell 2
  have HST : Hid (∀ W, Below w.heap.size w W → w.heap.size + 3 ≤ W.heap.size → At W w.heap.size #[.int .i64 M, .int .i64 C, .int .i64 S] 23 → At W (w.heap.size + 1) #[.int .i64 0, .int .u16 0] 72 → RRowsAt w R b M C S (st.look M 0) (.slice none 0 0) W) := fun W hW hs a1 a2 =>
    ⟨rfl, ⟨R, h.below hW, fun q hq => .inl hq, fun g hg => by simp [Value.ownBlock] at hg⟩, World.ownsRow_nil _ _ _ _, a1, a2, hs, Chg.ofBelow hW R⟩
  clear h hcode0 hbd hcnt hg g1 g2 g3 g4 g5 g6
  generalize hRR : S * C = RR at *
  clear hRR
  unfold ObjG ObjT geo at *
  go_enter Tryz.func26, Tryz.ntmps26
  go_wp2_with (first
    | (go_at_call 68; (with_reducible refine (HF.out _ HB0.out).mono ?_); rintro e w1 ⟨rfl, hb1⟩; have hA2 := (HA.out.below hb1 HA.out.lt).alloc (.cells #[.int .i64 0, .int .u16 0] 72); have hR2 := (HR.out.below hb1 HR.out.lt).alloc (.cells #[.int .i64 0, .int .u16 0] 72); have hT2 := At.new w1 #[.int .i64 0, .int .u16 0] 72; have y1 := hT2.cell 1; have HLE : Hid (w.heap.size + 2 ≤ w1.heap.size) := by { have := hb1.size; rw [e2] at this; exact this }; have HB1 : Hid (Below w.heap.size w (w1.alloc (.cells #[.int .i64 0, .int .u16 0] 72))) := (HB0.out.trans (hb1.mono (by rw [e2]; omega))).alloc (by have := HLE.out; omega) _; have HS1 := Lib.hid (HST.out _ HB1.out (by rw [size_alloc]; have := HLE.out; omega) hA2 hR2); clear hb1 hA2 hR2 hT2 x0 x1 x2))
  clear y1
  obtain ⟨w2, hw2⟩ : ∃ w2, w2 = w1.alloc (.cells #[.int .i64 0, .int .u16 0] 72) := ⟨_, rfl⟩
  rw [← hw2] at HS1 ⊢
  clear hw2 HB1
  go_loopw [7, 8, 9, 10, 11, 12] (fun v q _ _ _ _ wx => ∃ k : Nat, k ≤ RR ∧ q = .int .i64 k ∧ RRowsAt w R b M C S (st.look M k) v wx) (fun _ q _ _ _ _ _ => RR - (intOf q).toNat)
  case atStart => exact ⟨0, by omega, rfl, HS1.out⟩
  case round =>
    obtain ⟨k, hk, rfl, hL⟩ := hrel
    have HL := Lib.hid hL
    have c0 := hL.box.cell 0
    have c1 := hL.box.cell 1
    have c2 := hL.box.cell 2
    have HSZ := Lib.hid hL.size
    clear hL
    by_cases hkR : k < RR
    · have K1 : Hid (k + 1 ≤ RR) := hkR
      have HBX := Lib.hid HL.out.box
      go_upto_region 8 with (first
        | (go_at_call 18; (with_reducible refine (hrows.out _).mono ?_); rintro e w2 ⟨rfl, hb2⟩; have HL2 := Lib.hid (HL.out.more (Chg.ofBelow hb2 _)); clear c0 c1 c2; have c0 := HL2.out.box.cell 0; have c1 := HL2.out.box.cell 1; have c2 := HL2.out.box.cell 2; clear hb2))
      obtain ⟨R', k1, k2, k3⟩ := HL2.out.bay
      have HK2 := Lib.hid k2
      have HK3 := Lib.hid k3
      have HK := Lib.hid (HSM.out k w2 R' (by omega) k1)
      clear k1 k2 k3
      cases ht : ((st.look M k).s.hand ((1 + k : Nat) : Int) (-1) M).t with
      | some t =>
        have hbad := Lib.hid (look_bad st M k HL.out.none' (by rw [ht]; simp))
        have hst := Lib.hid (look_stop st M (k + 1) (by rw [hbad.out]; show ((st.look M k).s.hand ((1 + k : Nat) : Int) (-1) M).t ≠ none; rw [ht]; simp) RR hkR)
        obtain ⟨m, cd⟩ := t
        obtain ⟨-, hcd0, -⟩ := hand_code _ _ _ _ (m, cd) ht
        have hcd2 : ((cd : Int) != 0) = true := by simp; exact hcd0
        have HT := Lib.hid ht
        rw [ht] at HK hbad
        clear ht hcd0
        unfold trVal at *
        simp only [Option.getD_some] at *
        generalize (st.look M k).s.hand ((1 + k : Nat) : Int) (-1) M = H at *
        as_aux_lemma =>
          go_wp2_with (first
            | (go_at_call 69; (with_reducible refine HK.out.mono ?_); rintro e w3 ⟨p, rfl, hv, hp⟩; obtain rfl := hv.2 (by rw [HT.out]; simp); have HL3 := Lib.hid ((HL2.out.did HLT.out HK2.out HK3.out hp).more ((Chg.refl _ _).alloc (.cells #[.int .i64 (m : Int), .int .u16 (cd : Int)] 72))); have d0 := HL3.out.res.cell 0; have d1 := HL3.out.res.cell 1; have f0 := HL3.out.res.free 0; have f1 := HL3.out.res.free 1; clear hv hp c0 c1 c2))
          go_region
          go_wp2
          obtain ⟨r0, r1, hset⟩ := trouble_set HL3.out.res (.int .i64 (m : Int)) (.int .u16 (cd : Int))
          clear d0 d1 f0 f1
          (try simp only [Exit.inBlock, Exit.then])
          refine bodyPost_ret (v := .tuple #[.slice none 0 0, .agg #[.int .i64 (m : Int), .int .u16 (cd : Int)]]) ?_ rfl ⟨.slice none 0 0, ?_, ?_⟩
          · rw [results_tmp_cell rfl]
            go_simp
          · rw [hst.out, hbad.out]
            rfl
          · rw [hst.out, hbad.out]
            exact ⟨fun e => (by cases e), fun _ => rfl, (HL3.out.end HLT.out hset.drew).1⟩
      | none =>
        have hok := Lib.hid (look_ok st M k HL.out.none' ht)
        have HT := Lib.hid ht
        rw [ht] at HK
        clear ht
        unfold trVal at *
        simp only [Option.getD_none] at *
        generalize (st.look M k).s.hand ((1 + k : Nat) : Int) (-1) M = H at *
        go_upto_region 12 with (first
          | (go_at_call 69; (with_reducible refine HK.out.mono ?_); rintro e w3 ⟨p, rfl, hv, hp⟩; have hv1 := hv.1 HT.out; obtain ⟨gv, cv, rfl, hgv, hgl⟩ := ownsRow_full hv1 (by omega); have HV := Lib.hid (hv1.alloc (.cells #[.int .i64 0, .int .u16 0] 72)); have HL3 := Lib.hid ((HL2.out.did HLT.out HK2.out HK3.out hp).more ((Chg.refl _ _).alloc (.cells #[.int .i64 0, .int .u16 0] 72))); clear hv hv1 hp c0 c1 c2))
        obtain ⟨w4, hw4⟩ : ∃ w4, w4 = w3.alloc (.cells #[.int .i64 0, .int .u16 0] 72) := ⟨_, rfl⟩
        rw [← hw4] at HV HL3 ⊢
        clear hw4
        obtain ⟨wo, rfl⟩ : ∃ wo : World, wo = wr := ⟨_, rfl⟩
        go_wp2
        go_loopw [11, 12] (fun c q wx => ∃ j : Nat, j ≤ 128 ∧ q = .int .i64 j ∧ c = .bool (decide (allZero H.f (j))) ∧ wx = w4) (fun _ q _ => 128 - (intOf q).toNat)
        case atStart => exact ⟨0, by omega, rfl, by rw [decide_eq_true (p := allZero H.f 0) (fun i hi => absurd hi (Nat.not_lt_zero i))], rfl⟩
        case round =>
          obtain ⟨j, hj, rfl, rfl, rfl⟩ := hrel
          by_cases hj2 : j < 128
          · have J1 : Hid (j + 1 ≤ 128) := hj2
            have d0 : wr.cell? ⟨gv, j, none⟩ = some (.int .u8 (((H.f j).toNat : Nat) : Int)) := by
              have := HV.out.cellAt j (by omega)
              rw [this]
              simp [ucells, sumL, hj2]
            have HZ := Lib.hid (zero_step H.f j)
            have hz : (((H.f j).toNat : Nat) : Int) = 0 ↔ H.f j = 0 := by
              constructor
              · intro e
                exact UInt8.toNat_inj.1 (by simpa using e)
              · intro e; rw [e]; rfl
            obtain ⟨y, hy⟩ : ∃ y : Int, y = (((H.f j).toNat : Nat) : Int) := ⟨_, rfl⟩
            rw [← hy] at d0 hz
            have HZ2 : Hid ((y == 0) = decide (H.f j = 0)) := by
              show _ = _
              rw [Bool.eq_iff_iff, decide_eq_true_eq, beq_iff_eq]
              exact hz
            clear hz hy
            rw [HZ2.out.symm] at HZ
            generalize decide (allZero H.f (j)) = c at *
            generalize hc2 : decide (allZero H.f (j + 1)) = c2 at *
            clear HZ2
            cases c
            · go_wp2
              go_roundw
              case rel => exact ⟨j + 1, J1.out, by go_num, by rw [hc2, HZ.out]; rfl, (by trivial)⟩
              case measure => simp [intOf]; have := J1.out; omega
            · go_wp2
              go_roundw
              case rel => exact ⟨j + 1, J1.out, by go_num, by rw [hc2, HZ.out]; simp, (by trivial)⟩
              case measure => simp [intOf]; have := J1.out; omega
          · obtain rfl : j = 128 := by omega
            by_cases hz : allZero H.f 128
            · rw [if_pos hz] at hok
              have hz2 : decide (allZero H.f (128)) = true := decide_eq_true hz
              rw [hz2]
              clear hz hz2
              go_wp2
              go_roundw
              case rel => exact ⟨k + 1, K1.out, by go_num, by rw [hok.out]; exact HL3.out⟩
              case measure => simp [intOf]; have := K1.out; omega
            · rw [if_neg hz] at hok
              have hz2 : decide (allZero H.f (128)) = false := decide_eq_false hz
              rw [hz2]
              clear hz hz2
              have hll := look_length st M k
              have hsz4 := HL3.out.size
              have HW : Hid (Chg (fun _ => False) wr (wr.alloc (.cells #[.int .i64 (k : Int)] 3))) := (Chg.refl _ _).alloc _
              have HL4 := Lib.hid (HL3.out.more HW.out)
              have HN1 : Hid (∀ ad : Addr, some (⟨wr.heap.size, 0, none⟩ : Addr) = some ad → ∀ j u, [Value.int .i64 (k : Int)][j]? = some u → (wr.alloc (.cells #[.int .i64 (k : Int)] 3)).cell? (ad.add j) = some u) := by
                intro ad had j u hu
                obtain rfl := Option.some.inj had
                rw [Addr.add_lit, Nat.zero_add, (At.new wr #[.int .i64 (k : Int)] 3).cell j]
                simpa using hu
              go_wp2_with (first
                | (refine wpList_append_keeps rfl _ _ 27 3 1 8 rfl slice_ints (w.heap.size + 3) u7 (st.look M k).l.length _ rfl HL4.out.row _ 1 1 [.int .i64 (k : Int)] rfl rfl (HN1.out _ rfl) (by intro u hu; simp at hu; rw [hu]; rfl) (by unfold maxLen; omega) (by omega) (by rw [size_alloc]; omega) (by omega) ?_; intro v' w5 hrow hloc hch hkeep; have HROW := Lib.hid hrow; have HLOC := Lib.hid hloc; have HCH := Lib.hid hch; clear hrow hloc hch hkeep))
              go_roundw
              case rel =>
                refine ⟨k + 1, K1.out, by go_num, ?_⟩
                rw [hok.out]
                refine HL4.out.tell HCH.out ?_ HLOC.out
                rw [kcells_snoc, List.length_append]
                exact HROW.out
              case measure => simp [intOf]; have := K1.out; omega
    · obtain rfl : k = RR := by omega
      have d0 := HL.out.res.cell 0
      have d1 := HL.out.res.cell 1
      have f0 := HL.out.res.free 0
      have f1 := HL.out.res.free 1
      obtain ⟨r0, r1, hset⟩ := trouble_set HL.out.res (.int .i64 0) (.int .u16 0)
      go_wp2_with (first
        | (go_at_call 18; (with_reducible refine (hrows.out _).mono ?_); rintro e w2 ⟨rfl, hb2⟩; have HL2 := Lib.hid (HL.out.more (Chg.ofBelow hb2 _)); clear c0 c1 c2 d0 d1 f0 f1 r0 r1 hset; have d0 := HL2.out.res.cell 0; have d1 := HL2.out.res.cell 1; have f0 := HL2.out.res.free 0; have f1 := HL2.out.res.free 1; clear hb2))
      obtain ⟨r0, r1, hset⟩ := trouble_set HL2.out.res (.int .i64 0) (.int .u16 0)
      clear d0 d1 f0 f1
      (try simp only [Exit.inBlock, Exit.then])
      obtain ⟨p1, p2⟩ := HL2.out.end HLT.out hset
      refine bodyPost_ret (v := .tuple #[u7, trVal none]) ?_ rfl ⟨u7, ?_, ?_, ?_, p1⟩
      · rw [results_tmp_cell rfl]
        go_simp
        rfl
      · rw [HL2.out.none']
      · exact fun _ => p2
      · exact fun e => absurd HL2.out.none' e

end Go.Proofs.YtleicmmbaacbmaaGreat
