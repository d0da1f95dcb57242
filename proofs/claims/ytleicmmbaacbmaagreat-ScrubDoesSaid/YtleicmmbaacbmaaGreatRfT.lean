/- The scrub law's 'does'. -/
import Derived.Test.YtleicmmbaacbmaaGreatMrg18
import Derived.Test.YtleicmmbaacbmaaGreatMrg19
import Derived.Deep.CutRange
import Derived.Deep.CutBlock
import Derived.Deep.RegionHeld3
set_option linter.unusedVariables false
namespace Go.Proofs.YtleicmmbaacbmaaGreat
open Go.RowKit

/-- Behind the calls: both bays have come to one state; trouble, bytes, rows are the same. -/
def DidAt (w : World) (b c : Nat) (s : BaySt) (T : Nat → Nat) (R : Nat → Prop) (G O : Array Value) (x y l m : Value) (wx : World) : Prop :=
  ∃ s' T' R' t1 t2 X L, DAt w b c s' s' T T' R R' G O t1 t2 t1 t2 wx ∧ Grow s s' ∧ List.length X ≤ 128 ∧ List.length L ≤ 4096 ∧
    wx.ownsRow (w.heap.size + 4) 5 1 x X.length (ucells X) ∧ wx.ownsRow (w.heap.size + 4) 5 1 y X.length (ucells X) ∧ wx.ownsRow (w.heap.size + 4) 3 1 l L.length (kcells L) ∧ wx.ownsRow (w.heap.size + 4) 3 1 m L.length (kcells L) ∧
    (∀ q, x.ownBlock = some q → T' q = 0 ∧ ¬ R' q) ∧ ∀ q, l.ownBlock = some q → T' q = 0 ∧ ¬ R' q

/-- What a call leaves. -/
def DonePost (W0 : World) (b c K : Nat) (s : BaySt) (bs is : List Value) (w' : World) : Prop :=
  ∃ s' T' R' bs' is' vb' vi', SAt W0 w' b c K s' T' R' bs' is' vb' vi' ∧ Grow s s' ∧ bs'.length ≤ bs.length + 1 ∧ is'.length ≤ is.length + 1

set_option maxRecDepth 100000 in
set_option maxHeartbeats 8000000 in
theorem law_does {W0 w : World} {b c K : Nat} {s : BaySt} {T : Nat → Nat} {R : Nat → Prop} {bs is : List Value} {vb vi : Value} (h : SAt W0 w b c K s T R bs is vb vi) (mg cg sg k m n : Int) (v : Value) (B : List UInt8) (hv : Seg w v B) (hv0 : B ≠ [] → ∀ a q cc, v = .slice (some a) q cc → a.block < W0.heap.size) (hn : n ≤ 9223372036854775807)
    (hs : s.still) (hcnt : ∀ j, j < 3 → s.cnt j ≤ 999998000000) (hsm : s.small 999998) (hbl : bs.length ≤ 900000) (hil : is.length ≤ 900000) :
    Calls Tryz.prog 9 #[.pointer (some ⟨b, 0, none⟩), .pointer (some ⟨c, 0, none⟩), geo mg cg sg, .agg #[.int .i64 k, .int .i64 m, .int .i64 n, v], .pointer (some ⟨K, 0, none⟩)] w fun e w' => e = .returned (.bool true) ∧ DonePost W0 b c K s bs is w' := by
  have HS := Lib.hid h
  have HST := Lib.hid hs
  have HCN := Lib.hid hcnt
  have HSM := Lib.hid hsm
  have HBL := Lib.hid hbl
  have HIL := Lib.hid hil
  have HV0 : Hid (∀ q, w.heap.size ≤ q → T q = 0) := h.bay.virgin
  obtain ⟨va, vc, rfl⟩ := hv.shape
  have HV := Lib.hid hv
  have HVO : Hid (∀ (S : Nat → Prop) W, Chg S w W → (∀ q, q < W0.heap.size → ¬ S q) → Seg W (.slice va B.length vc) B) := fun S W hc hS => seg_out hv hc (fun hB ad e => hS _ (hv0 hB ad _ _ (by rw [e])))
  have hvl := hv.le
  have HVB : Hid (B ≠ [] → ∀ a nn cc, (Value.slice va B.length vc) = .slice (some a) nn cc → a.block < W0.heap.size) := hv0
  have HCW0 : Hid (Chg (fun _ => False) w ((((w.alloc (ObjG mg cg sg)).alloc (ObjO k m n (.slice va B.length vc))).alloc (ObjT 0 0)).alloc (ObjT 0 0))) := ((((Chg.refl _ _).alloc _).alloc _).alloc _).alloc _
  have HD := Lib.hid (dat_start h mg cg sg k m n (.slice va B.length vc))
  have e1 : (w.alloc (ObjG mg cg sg)).heap.size = w.heap.size + 1 := size_alloc _ _
  have e2 : ((w.alloc (ObjG mg cg sg)).alloc (ObjO k m n (.slice va B.length vc))).heap.size = w.heap.size + 2 := by rw [size_alloc, e1]
  have e3 : (((w.alloc (ObjG mg cg sg)).alloc (ObjO k m n (.slice va B.length vc))).alloc (ObjT 0 0)).heap.size = w.heap.size + 3 := by rw [size_alloc, e2]
  clear h hs hcnt hsm hbl hil hv hv0
  unfold ObjG ObjT ObjO geo at *
  go_enter Tryz.func9, Tryz.ntmps9
  have k0 := HD.out.o.cell 0
  go_upto_block 0 with fail
  generalize hw1 : (((w.alloc (.cells #[.int .i64 mg, .int .i64 cg, .int .i64 sg] 23)).alloc (.cells #[.int .i64 k, .int .i64 m, .int .i64 n, .slice va B.length vc] 55)).alloc (.cells #[.int .i64 0, .int .u16 0] 72)).alloc (.cells #[.int .i64 0, .int .u16 0] 72) = W1 at *
  clear hw1 e1 e2 e3 k0
  have HCW := HCW0
  clear HCW0
  go_cut [13, 14, 15, 16] from 17 to 128 (fun x y l mm wx => DidAt w b c s T R #[.int .i64 mg, .int .i64 cg, .int .i64 sg] #[.int .i64 k, .int .i64 m, .int .i64 n, .slice va B.length vc] x y l mm wx)
  case first =>
    have HSAT : Hid (∀ s' T' R' t1 t2 u1 u2 wx, DAt w b c s' s' T T' R R' #[.int .i64 mg, .int .i64 cg, .int .i64 sg] #[.int .i64 k, .int .i64 m, .int .i64 n, .slice va B.length vc] t1 t2 u1 u2 wx → Grow s s' → DonePost W0 b c K s bs is wx) := fun s' T' R' t1 t2 u1 u2 wx hd hg => ⟨s', T', R', bs, is, vb, vi, hd.sat HS.out, hg, by omega, by omega⟩
    have g0 := HD.out.g.cell 0
    have g1 := HD.out.g.cell 1
    have g2 := HD.out.g.cell 2
    have o1 := HD.out.o.cell 1
    have o2 := HD.out.o.cell 2
    have o3 := HD.out.o.cell 3
    have t0 := HD.out.t.cell 0
    have t1 := HD.out.t.cell 1
    have t0f := HD.out.t.free 0
    have t1f := HD.out.t.free 1
    have HSZ := Lib.hid HD.out.size
    have hk : k = 1 ∨ k = 2 ∨ k = 3 ∨ k = 4 ∨ k = 5 ∨ k = 6 ∨ k = 7 ∨ k = 8 ∨ (¬ k = 1 ∧ ¬ k = 2 ∧ ¬ k = 3 ∧ ¬ k = 4 ∧ ¬ k = 5 ∧ ¬ k = 6 ∧ ¬ k = 7 ∧ ¬ k = 8) := by omega
    rcases hk with rfl | rfl | rfl | rfl | rfl | rfl | rfl | rfl | hk
    · have HPC := Lib.hid (prog_rows HD.out.bay mg cg sg HCN.out HSM.out)
      have HGR := Lib.hid (rowsA_grow HST.out mg cg sg)
      have HDC : Hid (∀ W R', RBayAt W R' c s → Calls Tryz.prog 26 #[.pointer (some ⟨c, 0, none⟩), geo mg cg sg] W fun e w' => ∃ v, e = .returned (.tuple #[v, TV (rowsA s mg cg sg).t1 (rowsA s mg cg sg).t2]) ∧ w'.ownsRow W.heap.size 3 1 v (rowsA s mg cg sg).l.length (kcells (rowsA s mg cg sg).l) ∧ RBPost W R' c (rowsA s mg cg sg).s w') := fun W R' hR => doc_rows hR mg cg sg HCN.out
      generalize rowsA s mg cg sg = A at *
      unfold TV geo at *
      go_wp2_with (first
        | (go_at_call 21; (with_reducible refine HPC.out.mono ?_); rintro e w1 ⟨v1, rfl, hown, hb, hc⟩; have HD1 := HD.out.prog hb (fun _ _ => rfl) hc; obtain ⟨HD2', hc2'⟩ := HD1.putT A.t1 A.t2; have HD2 := Lib.hid HD2'; have HO1 := Lib.hid (ownsRow_chg hown hc2' (fun g hg e => by have := (hown.lt g hg).1; have := HSZ.out; omega)); clear t0 t1 t0f t1f g0 g1 g2 o1 o2 o3; have t0 := HD1.t.cell 0; have t1 := HD1.t.cell 1; have t0f := HD1.t.free 0; have t1f := HD1.t.free 1; have g0 := HD1.g.cell 0; have g1 := HD1.g.cell 1; have g2 := HD1.g.cell 2; have o1 := HD1.o.cell 1; have o2 := HD1.o.cell 2; clear HD1 HD2' hc2' hown hb hc)
        | (go_at_call 26; (with_reducible refine (HDC.out _ _ HD2.out.ref).mono ?_); rintro e w2 ⟨v2, rfl, hown2, hp2⟩; obtain ⟨R2, HD3', hR2, hc3⟩ := HD2.out.doc hp2; have HD3 := Lib.hid HD3'; have HR2 := Lib.hid hR2; have HC3 := Lib.hid hc3; have HO2 := Lib.hid hown2; clear t0 t1 t0f t1f g0 g1 g2 o1 o2; have t0 := HD3'.u.cell 0; have t1 := HD3'.u.cell 1; have t0f := HD3'.u.free 0; have t1f := HD3'.u.free 1; clear HD3' hR2 hc3 hown2 hp2))
      go_meet
      obtain ⟨HD4, hc4⟩ := HD3.out.putU A.t1 A.t2
      have hz := HSZ.out
      have hz2 := HD2.out.size
      have hw1 : ∀ q, v1.ownBlock = some q → w.heap.size + 4 ≤ q ∧ q < _ := fun q hq => ⟨by have := (HO1.out.lt q hq).1; omega, (HO1.out.lt q hq).2⟩
      have r1 := ownsRow_chg (ownsRow_chg HO1.out HC3.out (fun g hg e => by have := (hw1 g hg).1; have := HS.out.ref.lt g e; omega)) hc4 (fun g hg e => by have := (hw1 g hg).1; omega)
      have r2 := ownsRow_chg HO2.out hc4 (fun g hg e => by have := (HO2.out.lt g hg).1; omega)
      have hf : ∀ q, v1.ownBlock = some q → T q = 0 ∧ ¬ R2 q := fun q hq => by
        obtain ⟨a1, a2⟩ := hw1 q hq
        refine ⟨HV0.out q (by omega), fun e => ?_⟩
        rcases HR2.out q e with e' | e'
        · have := HS.out.ref.lt q e'; omega
        · omega
      exact ⟨A.s, T, R2, A.t1, A.t2, [], A.l, HD4, HGR.out.1, Nat.zero_le _, HGR.out.2, World.ownsRow_nil _ _ _ _, World.ownsRow_nil _ _ _ _, ownsRow_lower r1 (by omega), ownsRow_lower r2 (by omega), fun q hq => by simp [Value.ownBlock] at hq, hf⟩
    · have HPC := Lib.hid (prog_mend HD.out.bay mg cg sg n HCN.out HSM.out)
      have HGR := Lib.hid (mendA_grow HST.out mg cg sg n)
      have HDC : Hid (∀ W R', RBayAt W R' c s → Calls Tryz.prog 27 #[.pointer (some ⟨c, 0, none⟩), geo mg cg sg, .int .i64 n] W fun e w' => e = .returned (TV (mendA s mg cg sg n).t1 (mendA s mg cg sg n).t2) ∧ RBPost W R' c (mendA s mg cg sg n).s w') := fun W R' hR => doc_mend hR mg cg sg n HCN.out HSM.out
      generalize mendA s mg cg sg n = A at *
      unfold TV geo at *
      go_wp2_with (first
        | (go_at_call 23; (with_reducible refine HPC.out.mono ?_); rintro e w1 ⟨rfl, hp⟩; obtain ⟨T2, HD1⟩ := HD.out.prog' hp; have HD2 := Lib.hid (HD1.putT A.t1 A.t2).1; clear t0 t1 t0f t1f g0 g1 g2 o1 o2 o3; have t0 := HD1.t.cell 0; have t1 := HD1.t.cell 1; have t0f := HD1.t.free 0; have t1f := HD1.t.free 1; have g0 := HD1.g.cell 0; have g1 := HD1.g.cell 1; have g2 := HD1.g.cell 2; have o2 := HD1.o.cell 2; clear HD1 hp)
        | (go_at_call 27; (with_reducible refine (HDC.out _ _ HD2.out.ref).mono ?_); rintro e w2 ⟨rfl, hp2⟩; obtain ⟨R2, HD3', -, -⟩ := HD2.out.doc hp2; have HD3 := Lib.hid HD3'; clear t0 t1 t0f t1f g0 g1 g2 o2; have t0 := HD3'.u.cell 0; have t1 := HD3'.u.cell 1; have t0f := HD3'.u.free 0; have t1f := HD3'.u.free 1; clear HD3' hp2))
      go_meet
      obtain ⟨HD4, hc4⟩ := HD3.out.putU A.t1 A.t2
      exact ⟨A.s, T2, R2, A.t1, A.t2, [], [], HD4, HGR.out, Nat.zero_le _, Nat.zero_le _, World.ownsRow_nil _ _ _ _, World.ownsRow_nil _ _ _ _, World.ownsRow_nil _ _ _ _, World.ownsRow_nil _ _ _ _, fun q hq => by simp [Value.ownBlock] at hq, fun q hq => by simp [Value.ownBlock] at hq⟩
    · have HPC := Lib.hid (prog_lost HD.out.bay mg cg sg m n HCN.out HSM.out)
      have HGR := Lib.hid (lostA_grow HST.out mg cg sg m n)
      have HDC : Hid (∀ W R', RBayAt W R' c s → Calls Tryz.prog 28 #[.pointer (some ⟨c, 0, none⟩), geo mg cg sg, .int .i64 m, .int .i64 n] W fun e w' => ∃ v, e = .returned (.tuple #[v, TV (lostA s mg cg sg m n).t1 (lostA s mg cg sg m n).t2]) ∧ w'.ownsRow W.heap.size 5 1 v (lostA s mg cg sg m n).x.length (ucells (lostA s mg cg sg m n).x) ∧ RBPost W R' c (lostA s mg cg sg m n).s w') := fun W R' hR => doc_lost hR mg cg sg m n HCN.out
      generalize lostA s mg cg sg m n = A at *
      unfold TV geo at *
      go_wp2_with (first
        | (go_at_call 22; (with_reducible refine HPC.out.mono ?_); rintro e w1 ⟨v1, rfl, hown, hb, hc⟩; have HD1 := HD.out.prog hb (fun _ _ => rfl) hc; obtain ⟨HD2', hc2'⟩ := HD1.putT A.t1 A.t2; have HD2 := Lib.hid HD2'; have HO1 := Lib.hid (ownsRow_chg hown hc2' (fun g hg e => by have := (hown.lt g hg).1; have := HSZ.out; omega)); clear t0 t1 t0f t1f g0 g1 g2 o1 o2 o3; have t0 := HD1.t.cell 0; have t1 := HD1.t.cell 1; have t0f := HD1.t.free 0; have t1f := HD1.t.free 1; have g0 := HD1.g.cell 0; have g1 := HD1.g.cell 1; have g2 := HD1.g.cell 2; have o1 := HD1.o.cell 1; have o2 := HD1.o.cell 2; clear HD1 HD2' hc2' hown hb hc)
        | (go_at_call 28; (with_reducible refine (HDC.out _ _ HD2.out.ref).mono ?_); rintro e w2 ⟨v2, rfl, hown2, hp2⟩; obtain ⟨R2, HD3', hR2, hc3⟩ := HD2.out.doc hp2; have HD3 := Lib.hid HD3'; have HR2 := Lib.hid hR2; have HC3 := Lib.hid hc3; have HO2 := Lib.hid hown2; clear t0 t1 t0f t1f g0 g1 g2 o1 o2; have t0 := HD3'.u.cell 0; have t1 := HD3'.u.cell 1; have t0f := HD3'.u.free 0; have t1f := HD3'.u.free 1; clear HD3' hR2 hc3 hown2 hp2))
      go_meet
      obtain ⟨HD4, hc4⟩ := HD3.out.putU A.t1 A.t2
      have hz := HSZ.out
      have hz2 := HD2.out.size
      have hw1 : ∀ q, v1.ownBlock = some q → w.heap.size + 4 ≤ q ∧ q < _ := fun q hq => ⟨by have := (HO1.out.lt q hq).1; omega, (HO1.out.lt q hq).2⟩
      have r1 := ownsRow_chg (ownsRow_chg HO1.out HC3.out (fun g hg e => by have := (hw1 g hg).1; have := HS.out.ref.lt g e; omega)) hc4 (fun g hg e => by have := (hw1 g hg).1; omega)
      have r2 := ownsRow_chg HO2.out hc4 (fun g hg e => by have := (HO2.out.lt g hg).1; omega)
      have hf : ∀ q, v1.ownBlock = some q → T q = 0 ∧ ¬ R2 q := fun q hq => by
        obtain ⟨a1, a2⟩ := hw1 q hq
        refine ⟨HV0.out q (by omega), fun e => ?_⟩
        rcases HR2.out q e with e' | e'
        · have := HS.out.ref.lt q e'; omega
        · omega
      exact ⟨A.s, T, R2, A.t1, A.t2, A.x, [], HD4, HGR.out.1, HGR.out.2, Nat.zero_le _, ownsRow_lower r1 (by omega), ownsRow_lower r2 (by omega), World.ownsRow_nil _ _ _ _, World.ownsRow_nil _ _ _ _, hf, fun q hq => by simp [Value.ownBlock] at hq⟩
    · have HGR := Lib.hid (grow_write HST.out m n B)
      have HPC : Hid (∀ W, BayAt W T b s → Chg (fun q => T q ≠ 0) w W → Calls Tryz.prog 19 #[.pointer (some ⟨b, 0, none⟩), .int .i64 m, .int .i64 n, .slice va B.length vc] W fun e w' => e = .returned (.int .u16 (((s.write m n B).1 : Nat) : Int)) ∧ BayPost W T b (s.write m n B).2 w') := fun W hW hc => bay_write_if hW m n (.slice va B.length vc) B (by have := HCN.out 1 (by omega); omega) (small_up HSM.out (by omega)) (HVO.out _ W hc (fun q hq e => e (HS.out.t0 q hq))) (fun hl a nn cc e => HS.out.t0 _ (HVB.out (by intro e0; rw [e0] at hl; simp at hl) a nn cc e))
      have HDC : Hid (∀ W, RBayAt W R c s → Chg (fun q => T q ≠ 0 ∨ R q) w W → Calls Tryz.prog 29 #[.pointer (some ⟨c, 0, none⟩), .int .i64 m, .int .i64 n, .slice va B.length vc] W fun e w' => e = .returned (.int .u16 (((s.write m n B).1 : Nat) : Int)) ∧ RBPost W R c (s.write m n B).2 w') := fun W hW hc => rbay_write hW m n (.slice va B.length vc) B (by have := HCN.out 1 (by omega); omega) (small_up HSM.out (by omega)) (HVO.out _ W hc (fun q hq e => by rcases e with e | e; exact e (HS.out.t0 q hq); have := HS.out.r0 q e; omega)) (fun hl a nn cc e e2 => by have := HVB.out hl a nn cc e; have := HS.out.r0 _ e2; omega)
      generalize s.write m n B = A at *
      obtain ⟨cd, s'⟩ := A
      have HH : Hid (∀ X : World, At X (w.heap.size + 1) #[.int .i64 4, .int .i64 m, .int .i64 n, .slice va B.length vc] 55 → X.cell? ⟨w.heap.size + 1, 1, none⟩ = some (.int .i64 m) ∧ X.cell? ⟨w.heap.size + 1, 2, none⟩ = some (.int .i64 n) ∧ X.cell? ⟨w.heap.size + 1, 3, none⟩ = some (.slice va B.length vc)) := fun X h => ⟨h.cell 1, h.cell 2, h.cell 3⟩
      have HH0 := Lib.hid (HH.out W1 HD.out.o)
      have HDD := Lib.hid HD.out.drew
      have HH1 := Lib.hid (HH.out W1.drew HDD.out.o)
      have HCD : Hid (Chg (fun q => T q ≠ 0) w W1.drew) := by
        refine ⟨HD.out.chg.os, HD.out.chg.tape, HD.out.chg.output, HD.out.chg.size, fun q hq hn => ?_⟩
        exact HCW.out.block q hq (fun e => e.elim)
      clear g0 g1 g2 o1 o2 o3 t0 t1 t0f t1f
      go_wp2
      go_region_held3 (fun w' => w'.cell? ⟨w.heap.size + 1, 1, none⟩ = some (.int .i64 m) ∧ w'.cell? ⟨w.heap.size + 1, 2, none⟩ = some (.int .i64 n) ∧ w'.cell? ⟨w.heap.size + 1, 3, none⟩ = some (.slice va B.length vc))
        (first | with_reducible exact HH0.out | with_reducible exact HH1.out | with_reducible exact HH2.out | with_reducible exact HH3.out)
        (first
          | (go_at_call 19; (with_reducible refine (HPC.out _ HDD.out.bay HCD.out).mono ?_); rintro e w2 ⟨rfl, hp⟩; obtain ⟨T2, hD2⟩ := HDD.out.prog' hp; have HD2 := Lib.hid hD2; have HH2 := Lib.hid (HH.out w2 HD2.out.o); clear hp hD2)
          | (go_at_call 29; (with_reducible refine (HDC.out _ HD2.out.ref HD2.out.chg).mono ?_); rintro e w3 ⟨rfl, hp⟩; obtain ⟨R2, hD3, -, -⟩ := HD2.out.doc hp; have HD3 := Lib.hid hD3; have HH3 := Lib.hid (HH.out w3 HD3.out.o); clear hp hD3))
      go_wp2
      go_ret
      exact ⟨by simp, HSAT.out _ _ _ _ _ _ _ _ HD3.out HGR.out⟩
    · have HGR := Lib.hid (grow_fails HST.out m)
      have HPC : Hid (∀ W, BayAt W T b s → Chg (fun q => T q ≠ 0) w W → Calls Tryz.prog 30 #[.pointer (some ⟨b, 0, none⟩), .int .i64 m] W fun e w' => e = .returned (.int .u16 (((s.fails m).1 : Nat) : Int)) ∧ BayPost W T b (s.fails m).2 w') := fun W hW hc => bay_fails hW m (small_up HSM.out (by omega))
      have HDC : Hid (∀ W, RBayAt W R c s → Chg (fun q => T q ≠ 0 ∨ R q) w W → Calls Tryz.prog 31 #[.pointer (some ⟨c, 0, none⟩), .int .i64 m] W fun e w' => e = .returned (.int .u16 (((s.fails m).1 : Nat) : Int)) ∧ RBPost W R c (s.fails m).2 w') := fun W hW hc => rbay_fails hW m
      generalize s.fails m = A at *
      obtain ⟨cd, s'⟩ := A
      have HH : Hid (∀ X : World, At X (w.heap.size + 1) #[.int .i64 5, .int .i64 m, .int .i64 n, .slice va B.length vc] 55 → X.cell? ⟨w.heap.size + 1, 1, none⟩ = some (.int .i64 m)) := fun X h => h.cell 1
      have HH0 := Lib.hid (HH.out W1 HD.out.o)
      have HDD := Lib.hid HD.out.drew
      have HH1 := Lib.hid (HH.out W1.drew HDD.out.o)
      have HCD : Hid (Chg (fun q => T q ≠ 0) w W1.drew) := by
        refine ⟨HD.out.chg.os, HD.out.chg.tape, HD.out.chg.output, HD.out.chg.size, fun q hq hn => ?_⟩
        exact HCW.out.block q hq (fun e => e.elim)
      clear g0 g1 g2 o1 o2 o3 t0 t1 t0f t1f
      go_wp2
      go_region_held3 (fun w' => w'.cell? ⟨w.heap.size + 1, 1, none⟩ = some (.int .i64 m))
        (first | with_reducible exact HH0.out | with_reducible exact HH1.out | with_reducible exact HH2.out | with_reducible exact HH3.out)
        (first
          | (go_at_call 30; (with_reducible refine (HPC.out _ HDD.out.bay HCD.out).mono ?_); rintro e w2 ⟨rfl, hp⟩; obtain ⟨T2, hD2⟩ := HDD.out.prog' hp; have HD2 := Lib.hid hD2; have HH2 := Lib.hid (HH.out w2 HD2.out.o); clear hp hD2)
          | (go_at_call 31; (with_reducible refine (HDC.out _ HD2.out.ref HD2.out.chg).mono ?_); rintro e w3 ⟨rfl, hp⟩; obtain ⟨R2, hD3, -, -⟩ := HD2.out.doc hp; have HD3 := Lib.hid hD3; have HH3 := Lib.hid (HH.out w3 HD3.out.o); clear hp hD3))
      go_wp2
      go_ret
      exact ⟨by simp, HSAT.out _ _ _ _ _ _ _ _ HD3.out HGR.out⟩
    · have HGR := Lib.hid (grow_wears HST.out m n)
      have HPC : Hid (∀ W, BayAt W T b s → Chg (fun q => T q ≠ 0) w W → Calls Tryz.prog 32 #[.pointer (some ⟨b, 0, none⟩), .int .i64 m, .int .i64 n] W fun e w' => e = .returned (.int .u16 (((s.wears m n).1 : Nat) : Int)) ∧ BayPost W T b (s.wears m n).2 w') := fun W hW hc => bay_wears hW m n hn
      have HDC : Hid (∀ W, RBayAt W R c s → Chg (fun q => T q ≠ 0 ∨ R q) w W → Calls Tryz.prog 33 #[.pointer (some ⟨c, 0, none⟩), .int .i64 m, .int .i64 n] W fun e w' => e = .returned (.int .u16 (((s.wears m n).1 : Nat) : Int)) ∧ RBPost W R c (s.wears m n).2 w') := fun W hW hc => rbay_wears hW m n hn
      generalize s.wears m n = A at *
      obtain ⟨cd, s'⟩ := A
      have HH : Hid (∀ X : World, At X (w.heap.size + 1) #[.int .i64 6, .int .i64 m, .int .i64 n, .slice va B.length vc] 55 → X.cell? ⟨w.heap.size + 1, 1, none⟩ = some (.int .i64 m) ∧ X.cell? ⟨w.heap.size + 1, 2, none⟩ = some (.int .i64 n)) := fun X h => ⟨h.cell 1, h.cell 2⟩
      have HH0 := Lib.hid (HH.out W1 HD.out.o)
      have HDD := Lib.hid HD.out.drew
      have HH1 := Lib.hid (HH.out W1.drew HDD.out.o)
      have HCD : Hid (Chg (fun q => T q ≠ 0) w W1.drew) := by
        refine ⟨HD.out.chg.os, HD.out.chg.tape, HD.out.chg.output, HD.out.chg.size, fun q hq hn => ?_⟩
        exact HCW.out.block q hq (fun e => e.elim)
      clear g0 g1 g2 o1 o2 o3 t0 t1 t0f t1f
      go_wp2
      go_region_held3 (fun w' => w'.cell? ⟨w.heap.size + 1, 1, none⟩ = some (.int .i64 m) ∧ w'.cell? ⟨w.heap.size + 1, 2, none⟩ = some (.int .i64 n))
        (first | with_reducible exact HH0.out | with_reducible exact HH1.out | with_reducible exact HH2.out | with_reducible exact HH3.out)
        (first
          | (go_at_call 32; (with_reducible refine (HPC.out _ HDD.out.bay HCD.out).mono ?_); rintro e w2 ⟨rfl, hp⟩; obtain ⟨T2, hD2⟩ := HDD.out.prog' hp; have HD2 := Lib.hid hD2; have HH2 := Lib.hid (HH.out w2 HD2.out.o); clear hp hD2)
          | (go_at_call 33; (with_reducible refine (HDC.out _ HD2.out.ref HD2.out.chg).mono ?_); rintro e w3 ⟨rfl, hp⟩; obtain ⟨R2, hD3, -, -⟩ := HD2.out.doc hp; have HD3 := Lib.hid hD3; have HH3 := Lib.hid (HH.out w3 HD3.out.o); clear hp hD3))
      go_wp2
      go_ret
      exact ⟨by simp, HSAT.out _ _ _ _ _ _ _ _ HD3.out HGR.out⟩
    · have HGR := Lib.hid (grow_trips HST.out n)
      have HPC : Hid (∀ W, BayAt W T b s → Chg (fun q => T q ≠ 0) w W → Calls Tryz.prog 34 #[.pointer (some ⟨b, 0, none⟩), .int .i64 n] W fun e w' => e = .returned (.int .u16 (((s.trips n).1 : Nat) : Int)) ∧ BayPost W T b (s.trips n).2 w') := fun W hW hc => bay_trips hW n hn
      have HDC : Hid (∀ W, RBayAt W R c s → Chg (fun q => T q ≠ 0 ∨ R q) w W → Calls Tryz.prog 35 #[.pointer (some ⟨c, 0, none⟩), .int .i64 n] W fun e w' => e = .returned (.int .u16 (((s.trips n).1 : Nat) : Int)) ∧ RBPost W R c (s.trips n).2 w') := fun W hW hc => rbay_trips hW n hn
      generalize s.trips n = A at *
      obtain ⟨cd, s'⟩ := A
      have HH : Hid (∀ X : World, At X (w.heap.size + 1) #[.int .i64 7, .int .i64 m, .int .i64 n, .slice va B.length vc] 55 → X.cell? ⟨w.heap.size + 1, 2, none⟩ = some (.int .i64 n)) := fun X h => h.cell 2
      have HH0 := Lib.hid (HH.out W1 HD.out.o)
      have HDD := Lib.hid HD.out.drew
      have HH1 := Lib.hid (HH.out W1.drew HDD.out.o)
      have HCD : Hid (Chg (fun q => T q ≠ 0) w W1.drew) := by
        refine ⟨HD.out.chg.os, HD.out.chg.tape, HD.out.chg.output, HD.out.chg.size, fun q hq hn => ?_⟩
        exact HCW.out.block q hq (fun e => e.elim)
      clear g0 g1 g2 o1 o2 o3 t0 t1 t0f t1f
      go_wp2
      go_region_held3 (fun w' => w'.cell? ⟨w.heap.size + 1, 2, none⟩ = some (.int .i64 n))
        (first | with_reducible exact HH0.out | with_reducible exact HH1.out | with_reducible exact HH2.out | with_reducible exact HH3.out)
        (first
          | (go_at_call 34; (with_reducible refine (HPC.out _ HDD.out.bay HCD.out).mono ?_); rintro e w2 ⟨rfl, hp⟩; obtain ⟨T2, hD2⟩ := HDD.out.prog' hp; have HD2 := Lib.hid hD2; have HH2 := Lib.hid (HH.out w2 HD2.out.o); clear hp hD2)
          | (go_at_call 35; (with_reducible refine (HDC.out _ HD2.out.ref HD2.out.chg).mono ?_); rintro e w3 ⟨rfl, hp⟩; obtain ⟨R2, hD3, -, -⟩ := HD2.out.doc hp; have HD3 := Lib.hid hD3; have HH3 := Lib.hid (HH.out w3 HD3.out.o); clear hp hD3))
      go_wp2
      go_ret
      exact ⟨by simp, HSAT.out _ _ _ _ _ _ _ _ HD3.out HGR.out⟩
    · have HPC : Hid (∀ W, BayAt W T b s → Calls Tryz.prog 11 #[.pointer (some ⟨b, 0, none⟩), .slice none 0 0] W fun e w' => e = .returned (.tuple #[]) ∧ BayPost W T b (s.cut []) w') := fun W hW => (bay_cut hW (.slice none 0 0) [] (Bitss.nil W T) (BaySt.small.in (small_up HSM.out (by omega)))).mono fun e w' ⟨q1, q2, q3⟩ => ⟨q1, .same q2 q3⟩
      have HDC : Hid (∀ W R', RBayAt W R' c s → Calls Tryz.prog 12 #[.pointer (some ⟨c, 0, none⟩), .slice none 0 0] W fun e w' => e = .returned (.tuple #[]) ∧ RBPost W R' c (s.cut []) w') := fun W R' hW => rbay_cut hW HST.out
      have HGR := Lib.hid (grow_cut HST.out)
      generalize s.cut [] = s' at *
      go_wp2_with (first
        | (go_at_call 11; (with_reducible refine (HPC.out _ HD.out.bay).mono ?_); rintro e w1 ⟨rfl, hp⟩; obtain ⟨T2, HD1⟩ := HD.out.prog' hp; have HD2 := Lib.hid HD1; clear t0 t1 t0f t1f g0 g1 g2 o1 o2 o3 HD1 hp)
        | (go_at_call 12; (with_reducible refine (HDC.out _ _ HD2.out.ref).mono ?_); rintro e w2 ⟨rfl, hp2⟩; obtain ⟨R2, HD3', -, -⟩ := HD2.out.doc hp2; have HD3 := Lib.hid HD3'; clear HD3' hp2))
      go_meet
      exact ⟨s', T2, R2, 0, 0, [], [], HD3.out, HGR.out, Nat.zero_le _, Nat.zero_le _, World.ownsRow_nil _ _ _ _, World.ownsRow_nil _ _ _ _, World.ownsRow_nil _ _ _ _, World.ownsRow_nil _ _ _ _, fun q hq => by simp [Value.ownBlock] at hq, fun q hq => by simp [Value.ownBlock] at hq⟩
    · obtain ⟨n1, n2, n3, n4, n5, n6, n7, n8⟩ := hk
      go_wp2
      go_meet
      exact ⟨s, T, R, 0, 0, [], [], HD.out, .same HST.out, Nat.zero_le _, Nat.zero_le _, World.ownsRow_nil _ _ _ _, World.ownsRow_nil _ _ _ _, World.ownsRow_nil _ _ _ _, World.ownsRow_nil _ _ _ _, fun q hq => by simp [Value.ownBlock] at hq, fun q hq => by simp [Value.ownBlock] at hq⟩
  case rest =>
    obtain ⟨s', T', R', t1, t2, X, L, hd, hg, hX, hL, rx, ry, rl, rm, fx, fl⟩ := hcut
    have HSA := Lib.hid (hd.sat HS.out)
    have HG := Lib.hid hg
    have hFL : ∀ q, Foot K vb vi bs is q → q < w.heap.size := foot_lt HS.out.bk
    have HFL := Lib.hid hFL
    have HW0 : Hid (W0.heap.size ≤ w.heap.size) := HS.out.old.size
    have HOB : Hid (OffAll bs u13) := fun y hy g hg e => by
      have a1 := hFL g (.inr (.inr (.inr (.inl ⟨y, hy, hg⟩))))
      have a2 := (rx.lt g e).1
      omega
    have HOI : Hid (OffAll is u15) := fun y hy g hg e => by
      have a1 := hFL g (.inr (.inr (.inr (.inr ⟨y, hy, hg⟩))))
      have a2 := (rl.lt g e).1
      omega
    have HBK : Hid (Calls Tryz.prog 36 #[.pointer (some ⟨K, 0, none⟩), u13] wc fun e W' => e = .returned (.tuple #[]) ∧ ∃ vn, BkAt W' K (bs ++ [u13]) is [] vn vi (.slice none 0 0) ∧ (vn.ownBlock = vb.ownBlock ∨ ∃ g, vn.ownBlock = some g ∧ wc.heap.size ≤ g) ∧ Chg (fun q => q = K ∨ vb.ownBlock = some q) wc W') := book_bytesX HSA.out.bk (by have := HBL.out; omega) (ownsRow_lower0 rx) (by rw [ucells_length]; omega) HOB.out
    have HIK : Hid (∀ W vn, BkAt W K (bs ++ [u13]) is [] vn vi (.slice none 0 0) → W.ownsRow (w.heap.size + 4) 3 1 u15 L.length (kcells L) → Calls Tryz.prog 37 #[.pointer (some ⟨K, 0, none⟩), u15] W fun e W' => e = .returned (.tuple #[]) ∧ ∃ vm, BkAt W' K (bs ++ [u13]) (is ++ [u15]) [] vn vm (.slice none 0 0) ∧ (vm.ownBlock = vi.ownBlock ∨ ∃ g, vm.ownBlock = some g ∧ W.heap.size ≤ g) ∧ Chg (fun q => q = K ∨ vi.ownBlock = some q) W W') := fun W vn hb hr => book_intsX hb (by have := HIL.out; omega) (ownsRow_lower0 hr) (by rw [kcells_length]; omega) HOI.out
    have HSB : Hid (∀ W, W.ownsRow (w.heap.size + 4) 5 1 u13 X.length (ucells X) → W.ownsRow (w.heap.size + 4) 5 1 u14 X.length (ucells X) → Calls Tryz.prog 15 #[u13, u14] W fun e w' => e = .returned (.bool true) ∧ Below W.heap.size W w') := fun W h1 h2 => (same_any u13 u14 X X W (by omega) (by omega) (seg_of_owns h1) (seg_of_owns h2)).mono fun e w' ⟨q1, q2⟩ => ⟨by rw [q1]; simp, q2⟩
    have HSI : Hid (∀ W, W.ownsRow (w.heap.size + 4) 3 1 u15 L.length (kcells L) → W.ownsRow (w.heap.size + 4) 3 1 u16 L.length (kcells L) → Calls Tryz.prog 38 #[u15, u16] W fun e w' => e = .returned (.bool true) ∧ Below W.heap.size W w') := fun W h1 h2 => (same_ints u15 u16 L L W (by omega) (by omega) (iseg_of_owns h1) (iseg_of_owns h2)).mono fun e w' ⟨q1, q2⟩ => ⟨by rw [q1]; simp, q2⟩
    -- what lies above stands beside the book
    have HKE : Hid (∀ (S : Nat → Prop) W W' e sz u nn xs, Chg S W W' → (∀ q, S q → q < w.heap.size) → World.ownsRow W (w.heap.size + 4) e sz u nn xs → World.ownsRow W' (w.heap.size + 4) e sz u nn xs) := fun S W W' e sz u nn xs hc hS hr => ownsRow_chg hr hc (fun g hg hs => by have := (hr.lt g hg).1; have := hS g hs; omega)
    have HX1 : Hid (∀ q, u13.ownBlock = some q → T' q = 0 ∧ ¬ R' q ∧ W0.heap.size ≤ q) := fun q hq => ⟨(fx q hq).1, (fx q hq).2, by have := (rx.lt q hq).1; have := HW0.out; omega⟩
    have HL1 : Hid (∀ q, u15.ownBlock = some q → T' q = 0 ∧ ¬ R' q ∧ W0.heap.size ≤ q) := fun q hq => ⟨(fl q hq).1, (fl q hq).2, by have := (rl.lt q hq).1; have := HW0.out; omega⟩
    have HRX := Lib.hid rx
    have HRY := Lib.hid ry
    have HRL := Lib.hid rl
    have HRM := Lib.hid rm
    have HTT := Lib.hid hd.t
    have HUU := Lib.hid hd.u
    clear hd hg rx ry rl rm fx fl hFL
    go_wp2_with (first
      | (go_at_call 36; (with_reducible refine HBK.out.mono ?_); rintro e w1 ⟨rfl, vn, hb, hvn, hc⟩; have hS1 : ∀ q, (q = K ∨ vb.ownBlock = some q) → q < w.heap.size := fun q hq => HFL.out q (hq.imp id .inl); have HS1 := Lib.hid (HSA.out.enterB HX1.out hb hvn hc); have HB1 := Lib.hid hb; have RX1 := Lib.hid (HKE.out _ _ _ _ _ _ _ _ hc hS1 HRX.out); have RY1 := Lib.hid (HKE.out _ _ _ _ _ _ _ _ hc hS1 HRY.out); have RL1 := Lib.hid (HKE.out _ _ _ _ _ _ _ _ hc hS1 HRL.out); have RM1 := Lib.hid (HKE.out _ _ _ _ _ _ _ _ hc hS1 HRM.out); have T1 := Lib.hid (HTT.out.mod hc (fun e => by have := hS1 _ e; omega)); have U1 := Lib.hid (HUU.out.mod hc (fun e => by have := hS1 _ e; omega)); clear hb hvn hc hS1)
      | (go_at_call 37; (with_reducible refine (HIK.out _ _ HB1.out RL1.out).mono ?_); rintro e w2 ⟨rfl, vm, hb, hvm, hc⟩; have hS2 : ∀ q, (q = K ∨ vi.ownBlock = some q) → q < w.heap.size := fun q hq => HFL.out q (hq.imp id (fun e => .inr (.inl e))); have HS2 := Lib.hid (HS1.out.enterI HL1.out hb hvm hc); have RX2 := Lib.hid (HKE.out _ _ _ _ _ _ _ _ hc hS2 RX1.out); have RY2 := Lib.hid (HKE.out _ _ _ _ _ _ _ _ hc hS2 RY1.out); have RL2 := Lib.hid (HKE.out _ _ _ _ _ _ _ _ hc hS2 RL1.out); have RM2 := Lib.hid (HKE.out _ _ _ _ _ _ _ _ hc hS2 RM1.out); have hT2 := T1.out.mod hc (fun e => by have := hS2 _ e; omega); have hU2 := U1.out.mod hc (fun e => by have := hS2 _ e; omega); have t0 := hT2.cell 0; have t1 := hT2.cell 1; have v0 := hU2.cell 0; have v1 := hU2.cell 1; clear hb hvm hc hS2 hT2 hU2)
      | (go_at_call 15; (with_reducible refine (HSB.out _ RX2.out RY2.out).mono ?_); rintro e w3 ⟨rfl, hb3⟩; have HB3 := Lib.hid hb3; have RL3 := Lib.hid (ownsRow_below RL2.out hb3 (Nat.le_refl _)); have RM3 := Lib.hid (ownsRow_below RM2.out hb3 (Nat.le_refl _)); clear hb3)
      | (go_at_call 38; (with_reducible refine (HSI.out _ RL3.out RM3.out).mono ?_); rintro e w4 ⟨rfl, hb4⟩; have HB4 := Lib.hid hb4; clear hb4))
    go_ret
    exact ⟨rfl, s', T', R', _, _, _, _, (HS2.out.more HB3.out).more HB4.out, HG.out, by simp, by simp⟩

end Go.Proofs.YtleicmmbaacbmaaGreat
