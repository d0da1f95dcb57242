/- PlanSplits: the walk. -/
import Derived.Test.YtkcfmkhakghniaaGreatMrg12
set_option linter.unusedVariables false
namespace Go.Proofs.YtkcfmkhakghniaaGreat
open Go.RowKit

theorem splitCode_bounds (m c s : Int) (us : List (Int × List UInt8)) : 0 ≤ splitCode m c s us ∧ splitCode m c s us ≤ 60 := by
  unfold splitCode
  repeat (first | split | omega)
theorem lent_low {w : World} {lo : Nat} {v : Value} {Y : List OU} (h : LPuts w lo v Y) : ∀ y ∈ Y, ∀ q, y.1.ownBlock = some q → q < w.heap.size := fun y hy q hq => by
  obtain ⟨g, -, e, ha⟩ := h.dat y hy
  rw [e] at hq
  simp only [Value.ownBlock, Option.some.injEq] at hq
  exact hq ▸ ha.lt

/-- What the lent batch gives. -/
structure LentUse (w0 w1 : World) (vu : Value) (us : List (Int × List UInt8)) (go co : Nat) : Prop where
  seg : PutSeg w1 (.slice (some ⟨go, 0, none⟩) us.length co) us
  whole : ∀ W, Below w1.heap.size w1 W → Calls Tryz.prog 24 #[.slice (some ⟨go, 0, none⟩) us.length co, vu] W fun e w' => e = .returned (.bool true) ∧ Below W.heap.size W w'
  spoil : ∀ W, Below w1.heap.size w1 W → Calls Tryz.prog 25 #[.slice (some ⟨go, 0, none⟩) us.length co] W fun e w' => e = .returned (.tuple #[]) ∧ Chg (fun k => w0.heap.size ≤ k ∧ k < w1.heap.size) W w'
theorem lent_use {w0 w1 : World} {vu : Value} {us : List (Int × List UInt8)} {go co : Nat} {Y : List OU} (hY : Y.map (·.2) = us) (hL : LPuts w1 w0.heap.size (.slice (some ⟨go, 0, none⟩) (Y.length + 2) co) Y) (hn : us.length ≤ 300000) (hl : ∀ u ∈ us, u.2.length ≤ 300000) (hv : PutSeg w1 vu us) : LentUse w0 w1 vu us go co := by
  have hyl : Y.length = us.length := by rw [← hY, List.length_map]
  have hy2 : ∀ y ∈ Y, y.2.2.length ≤ 300000 := fun y hy => hl _ (by rw [← hY]; exact List.mem_map_of_mem hy)
  have hs := hL.pseg (by omega) hy2
  rw [hY, hyl] at hs
  refine ⟨hs, fun W hW => ?_, fun W hW => ?_⟩
  · have h := whole_puts w0.heap.size go co vu Y W (hL.below hW) (by rw [hY]; exact hv.below hW) (by omega) hy2
    rw [hyl] at h
    exact h
  · have h := spoil_puts w0.heap.size w1.heap.size go co Y W (hL.below hW) (by omega) hy2 hL.lt (lent_low hL)
    rw [hyl] at h
    exact h

set_option maxRecDepth 100000 in
set_option maxHeartbeats 16000000 in
theorem splits_ok (M C S : Nat) (vu : Value) (us : List (Int × List UInt8)) (w : World) (hu : PutSeg w vu us) (ok : BatchOk M C S us)
    (hknown : ∀ W, Calls Tryz.prog 28 #[] W fun e w' => e = .returned (.bool true) ∧ Below W.heap.size W w')
    (hm1 : muchIs (us.map (·.2.length)) = false) :
    Calls Tryz.prog 4 #[geo M C S, vu] w fun e w' => e = .returned (.bool true) ∧ Below w.heap.size w w' := by
  obtain ⟨w0, hw0⟩ : ∃ w0, w0 = w.alloc (.cells #[.int .i64 M, .int .i64 C, .int .i64 S] 23) := ⟨_, rfl⟩
  have hb0 : Below w.heap.size w w0 := by rw [hw0]; exact (Below.refl _ _).alloc (Nat.le_refl _) _
  have HG0 : Hid (At w0 w.heap.size #[.int .i64 M, .int .i64 C, .int .i64 S] 23) := by rw [hw0]; exact At.new _ _ _
  have hmp : Hid (∀ W, Below w.heap.size w W → _) := fun W hW => much_puts vu us W (hu.below hW)
  rw [hm1] at hmp
  obtain ⟨hfew, hlen0⟩ := much_few hm1
  rw [List.length_map] at hfew
  have hl3 : ∀ u ∈ us, u.2.length ≤ 300000 := fun u hu => hlen0 _ (List.mem_map_of_mem hu)
  have HL3 := Lib.hid hl3
  have hlent : Hid (∀ W, Below w.heap.size w W → _) := fun W hW => lent_puts vu us W (hu.below hW) hfew hl3
  have hsp : Hid (∀ W v, PutSeg W v us → Calls Tryz.prog 22 #[geo M C S, v] W _) := fun W v hv => plan_SplitA M C S v us W ok hv
  have hmo : Hid (∀ W v, PutSeg W v us → Calls Tryz.prog 23 #[geo M C S, v] W _) := fun W v hv => plan_Most M C S v us W ok hv
  have hrs : Hid (∀ W v, PutSeg W v us → Calls Tryz.prog 26 #[geo M C S, v] W _) := fun W v hv => ref_Split_ok M C S v us W ok hv
  have hrm : Hid (∀ W v, PutSeg W v us → Calls Tryz.prog 27 #[geo M C S, v] W _) := fun W v hv => ref_Most_ok M C S v us W ok hv
  have HSI : Hid (∀ L, SplitIs M C S us L → L.map (fun x => x.2.map (·.1)) = (rowsIn M (S * C) (tabAll M C us)).map (patsIn M (tabAll M C us))) := fun L h => h
  have hPS : Hid (((rowsIn M (S * C) (tabAll M C us)).map (patsIn M (tabAll M C us))).length ≤ 512 ∧ ∀ ps ∈ (rowsIn M (S * C) (tabAll M C us)).map (patsIn M (tabAll M C us)), ps.length ≤ 16) := by
    refine ⟨?_, fun ps hps => ?_⟩
    · have := most_few (M := M) (C := C) (S := S) ok.few
      rw [List.length_map]
      unfold mostIn at this
      omega
    · obtain ⟨r, -, rfl⟩ := List.mem_map.1 hps
      have := (geoIs_iff M C S).1 ok.hg
      exact Nat.le_trans (patsIn_len _ _ _) (by omega)
  generalize hPe : (rowsIn M (S * C) (tabAll M C us)).map (patsIn M (tabAll M C us)) = PS at *
  generalize mostIn M (S * C) (tabAll M C us) = T at *
  have HKN := Lib.hid hknown
  have HU := Lib.hid hu
  have HB0 := Lib.hid hb0
  have hw0l : w.heap.size < w0.heap.size := by rw [hw0, size_alloc]; omega
  have HW0L := Lib.hid hw0l
  obtain ⟨ua, uc, rfl⟩ := hu.shape
  have hTT : ((T : Int) != (T : Int)) = false := by simp
  have hPP : ((PS.length : Int) != (PS.length : Int)) = false := by simp
  clear hu hm1 hknown hlen0 hl3 hb0 hPe ok hw0l
  unfold geo at *
  go_enter Tryz.func4, Tryz.ntmps4
  go_upto_region 1 with fail
  rw [← hw0]
  clear hw0
  have c0 := HG0.out.cell 0
  have c1 := HG0.out.cell 1
  have c2 := HG0.out.cell 2
  go_upto_region 11 with (first
    | (go_at_call 20; (with_reducible refine (hmp.out _ HB0.out).mono ?_); rintro e w1 ⟨rfl, rfl⟩)
    | (go_at_call 21; (with_reducible refine (hlent.out _ HB0.out).mono ?_); rintro e w1 ⟨⟨go, co, Y, rfl, hY, hL⟩, hb1⟩; have HB1 := Lib.hid (below_then HB0.out hb1); have HLU := Lib.hid (lent_use hY hL hfew HL3.out (HU.out.below HB1.out)); have HS1 := Lib.hid hb1.size; have HG1 := Lib.hid (HG0.out.below hb1 HG0.out.lt); clear c0 c1 c2 hY hL hb1; have c0 := HG1.out.cell 0; have c1 := HG1.out.cell 1; have c2 := HG1.out.cell 2)
    | (go_at_call 22; (with_reducible refine (hsp.out _ _ (HU.out.below HB5.out)).mono ?_); rintro e w6 ⟨⟨vb, LB, rfl, hrb, hsb, hab⟩, hb6⟩; obtain ⟨ba, bc, rfl⟩ := ownsRow_shape hrb.row; have HLB := Lib.hid hrb; have HSB := Lib.hid (HSI.out _ hsb); have HAB := Lib.hid hab; have HB6 := Lib.hid (below_then HB5.out hb6); have HW6 := Lib.hid hb6; have HG6 := Lib.hid (HG5.out.below hb6 HG5.out.lt); clear c0 c1 c2 hrb hsb hab hb6; have c0 := HG6.out.cell 0; have c1 := HG6.out.cell 1; have c2 := HG6.out.cell 2)
    | (go_at_call 22; (with_reducible refine (hsp.out _ _ HLU.out.seg).mono ?_); rintro e w2 ⟨⟨va, LA, rfl, hra, hsa, haa⟩, hb2⟩; obtain ⟨aa, ac, rfl⟩ := ownsRow_shape hra.row; have HLA := Lib.hid hra; have HSA := Lib.hid (HSI.out _ hsa); have HAA := Lib.hid haa; have HW2 := Lib.hid hb2; have HG2 := Lib.hid (HG1.out.below hb2 HG1.out.lt); clear c0 c1 c2 hra hsa haa hb2; have c0 := HG2.out.cell 0; have c1 := HG2.out.cell 1; have c2 := HG2.out.cell 2)
    | (go_at_call 23; (with_reducible refine (hmo.out _ _ (HLU.out.seg.below HW2.out)).mono ?_); rintro e w3 ⟨rfl, hb3⟩; have HW3 := Lib.hid hb3; clear hb3)
    | (go_at_call 24; (with_reducible refine (HLU.out.whole _ (below_then HW2.out HW3.out)).mono ?_); rintro e w4 ⟨rfl, hb4⟩; have HW4 := Lib.hid (below_then (below_then HW2.out HW3.out) hb4); have HLA4 := Lib.hid ((HLA.out.below HW3.out).below hb4); have HG4 := Lib.hid ((HG2.out.below HW3.out HG2.out.lt).below hb4 (HG2.out.below HW3.out HG2.out.lt).lt); clear hb4)
    | (go_at_call 25; (with_reducible refine (HLU.out.spoil _ HW4.out).mono ?_); rintro e w5 ⟨rfl, hc5⟩; have HLA5 := Lib.hid (HLA4.out.chg hc5 (fun k hk e => by omega)); have HG5 := Lib.hid (HG4.out.mod hc5 (fun e => by have := HW0L.out; omega)); have HB5 := Lib.hid (Chg.own (below_then HB1.out HW4.out) hc5 (fun k hk => by have := HW0L.out; omega)); clear hc5 c0 c1 c2; have c0 := HG5.out.cell 0; have c1 := HG5.out.cell 1; have c2 := HG5.out.cell 2)
    | (go_at_call 26; (with_reducible refine (hrs.out _ _ (HU.out.below HB6.out)).mono ?_); rintro e w7 ⟨⟨vw, rfl, hpw⟩, hb7⟩; obtain ⟨pa, pc, rfl⟩ := hpw.shape; have HPW := Lib.hid hpw; have HB7 := Lib.hid (below_then HB6.out hb7); have HW7 := Lib.hid hb7; have HG7 := Lib.hid (HG6.out.below hb7 HG6.out.lt); clear c0 c1 c2 hpw hb7; have c0 := HG7.out.cell 0; have c1 := HG7.out.cell 1; have c2 := HG7.out.cell 2)
    | (go_at_call 27; (with_reducible refine (hrm.out _ _ (HU.out.below HB7.out)).mono ?_); rintro e w8 ⟨rfl, hb8⟩; have HB8 := Lib.hid (below_then HB7.out hb8); have HW8 := Lib.hid hb8; clear c0 c1 c2 hb8))
  have hla : LA.length = PS.length := by have h := congrArg List.length HSA.out; rw [List.length_map] at h; exact h
  have hlb : LB.length = PS.length := by have h := congrArg List.length HSB.out; rw [List.length_map] at h; exact h
  have HTWO : Hid (Two LA LB w5.heap.size) := ⟨HAA.out, HAB.out, fun x hx => ⟨fun g hg => ((HLA5.out.each x hx).row.lt g hg).2, fun y hy g hg => (((HLA5.out.each x hx).dat y hy).lt g hg).2⟩, fun x hx => ⟨fun g hg => ((HLB.out.each x hx).row.lt g hg).1, fun y hy g hg => (((HLB.out.each x hx).dat y hy).lt g hg).1⟩, by rw [hla, hlb]⟩
  have HLA8 := Lib.hid (((HLA5.out.below HW6.out).below HW7.out).below HW8.out)
  have HLB8 := Lib.hid ((HLB.out.below HW7.out).below HW8.out)
  have HPW8 := Lib.hid (HPW.out.below HW8.out)
  have hw1 : w.heap.size ≤ w1.heap.size := HB1.out.size
  have hw5 : w.heap.size ≤ w5.heap.size := HB5.out.size
  have HLAL := Lib.hid hla
  have HLBL := Lib.hid hlb
  rw [hla] at HLA8 ⊢
  rw [hlb] at HLB8 ⊢
  have HW15 : Hid (w.heap.size ≤ w1.heap.size ∧ w.heap.size ≤ w5.heap.size) := ⟨hw1, hw5⟩
  clear hla hlb hw1 hw5 HG0 HG1 HG2 HG4 HG5 HG6 HG7 HLA HLA4 HLA5 HLB HPW HW2 HW3 HW4 HW6 HW7 HW8 HB1 HB5 HB6 HB7 HB0 HAA HAB HLU HU HL3 HS1 HW0L hsp hmo hrs hrm hmp hlent HSI
  generalize w1.heap.size = b1 at *
  generalize w5.heap.size = b5 at *
  go_wp2_with (first
    | (go_at_call 28; (with_reducible refine (HKN.out _).mono ?_); rintro e w9 ⟨rfl, hb9⟩; have HLA9 := Lib.hid (HLA8.out.below hb9); have HLB9 := Lib.hid (HLB8.out.below hb9); have HPW9 := Lib.hid (HPW8.out.below hb9); have HB9 := Lib.hid (below_then HB8.out hb9); clear hb9 HLA8 HLB8 HPW8 HB8))
  have HBK0 : Hid (Bk (w9.alloc (.cells (bookC (.slice none 0 0) (.slice none 0 0) (.slice none 0 0)) 51)) w9.heap.size (bsTo LA LB 0) [] (psTo LA LB 0)) :=
    ⟨_, _, _, At.new _ _ _, World.ownsRow_nil _ _ _ _, World.ownsRow_nil _ _ _ _, World.ownsRow_nil _ _ _ _, fun x hx => (by cases hx), fun x hx => (by cases hx), fun x hx => (by cases hx), List.Pairwise.nil, List.Pairwise.nil, List.Pairwise.nil⟩
  have HKB0 : Hid (Below w9.heap.size w9 (w9.alloc (.cells (bookC (.slice none 0 0) (.slice none 0 0) (.slice none 0 0)) 51))) := (Below.refl _ _).alloc (Nat.le_refl _) _
  go_loopw [18] (fun q wx => ∃ i : Nat, i ≤ PS.length ∧ q = .int .i64 i ∧ Bk wx w9.heap.size (bsTo LA LB i) [] (psTo LA LB i) ∧ Below w9.heap.size w9 wx) (fun q _ => PS.length - (intOf q).toNat)
  case atStart => exact ⟨0, by omega, rfl, HBK0.out, HKB0.out⟩
  case round =>
    obtain ⟨i, hi, rfl, hbk, hbel⟩ := hrel
    have HBK := Lib.hid hbk
    have HBEL := Lib.hid hbel
    clear hbk hbel HBK0 HKB0
    by_cases hi2 : i < PS.length
    · as_aux_lemma =>
        have I1 : Hid (i + 1 ≤ PS.length) := hi2
        have hPL : PS.length ≤ 512 := hPS.out.1
        have hia : i < LA.length := by rw [HLAL.out]; exact hi2
        have hib : i < LB.length := by rw [HLBL.out]; exact hi2
        obtain ⟨ga, rfl, -, -⟩ := rows_cell HLA9.out (by omega)
        obtain ⟨gb, rfl, -, -⟩ := rows_cell HLB9.out (by omega)
        obtain ⟨gw, rfl, hgw, hxw⟩ := HPW9.out.full (by omega)
        obtain ⟨uw, cw, hpw⟩ := hxw i hi2
        have hps16 := hPS.out.2 _ (List.getElem_mem hi2)
        obtain ⟨ps, hpe⟩ : ∃ ps, PS[i]'hi2 = ps := ⟨_, rfl⟩
        have hpa : (LA[i]'hia).2.map (·.1) = ps := by
          have h := congrArg (fun l => l[i]?) HSA.out
          simp only [List.getElem?_map, List.getElem?_eq_getElem hia, List.getElem?_eq_getElem hi2, Option.map_some, Option.some.injEq] at h
          rw [h, hpe]
        have hpb : (LB[i]'hib).2.map (·.1) = ps := by
          have h := congrArg (fun l => l[i]?) HSB.out
          simp only [List.getElem?_map, List.getElem?_eq_getElem hib, List.getElem?_eq_getElem hi2, Option.map_some, Option.some.injEq] at h
          rw [h, hpe]
        rw [hpe] at hpw hps16
        have hla16 : (LA[i]'hia).2.length ≤ 16 := by rw [← List.length_map (f := (·.1)), hpa]; exact hps16
        have hlb16 : (LB[i]'hib).2.length ≤ 16 := by rw [← List.length_map (f := (·.1)), hpb]; exact hps16
        have hqa : PSeg w9 (LA[i]'hia).1 ps := by rw [← hpa]; exact (HLA9.out.each _ (List.getElem_mem hia)).pseg (by omega)
        have hqb : PSeg w9 (LB[i]'hib).1 ps := by rw [← hpb]; exact (HLB9.out.each _ (List.getElem_mem hib)).pseg (by omega)
        have HOA := Lib.hid (HLA9.out.each _ (List.getElem_mem hia))
        have HOB := Lib.hid (HLB9.out.each _ (List.getElem_mem hib))
        have ca := rows_cellAt HLA9.out hia rfl
        have cb := rows_cellAt HLB9.out hib rfl
        have HPA := Lib.hid (HTWO.out.psA hia)
        have HPB := Lib.hid (HTWO.out.psB hia hib)
        have HDA := Lib.hid (HTWO.out.bsA hia)
        have HDB := Lib.hid (HTWO.out.bsB hia hib)
        have HSTP : Hid (psTo LA LB (i + 1) = (psTo LA LB i ++ [(LA[i]'hia).1]) ++ [(LB[i]'hib).1]) := by
          show (psTo LA LB i ++ [(LA.getD i lr0).1]) ++ [(LB.getD i lr0).1] = _
          rw [lr_at hia, lr_at hib]
        have HSTB : Hid (bsTo LA LB (i + 1) = (bsTo LA LB i ++ (LA[i]'hia).2.map (·.2)) ++ (LB[i]'hib).2.map (·.2)) := by
          show (bsTo LA LB i ++ (LA.getD i lr0).2.map (·.2)) ++ (LB.getD i lr0).2.map (·.2) = _
          rw [lr_at hia, lr_at hib]
        have hpl : (psTo LA LB i).length ≤ 1024 := by rw [ps_len]; have := hPS.out.1; omega
        have hAll : ∀ x ∈ LA, x.2.length ≤ 16 := fun x hx => by
          have h : x.2.map (·.1) ∈ LA.map fun x => x.2.map (·.1) := List.mem_map_of_mem hx
          rw [HSA.out] at h
          have := hPS.out.2 _ h
          rw [List.length_map] at this
          exact this
        have hBll : ∀ x ∈ LB, x.2.length ≤ 16 := fun x hx => by
          have h : x.2.map (·.1) ∈ LB.map fun x => x.2.map (·.1) := List.mem_map_of_mem hx
          rw [HSB.out] at h
          have := hPS.out.2 _ h
          rw [List.length_map] at this
          exact this
        have hbl : (bsTo LA LB i).length ≤ 20000 := by
          have h := bs_len hAll hBll i
          have := hPS.out.1
          have h2 : 2 * 16 * i ≤ 2 * 16 * 512 := Nat.mul_le_mul_left _ (by omega)
          omega
        clear hxw hpe hpa hpb hAll hBll
        generalize (LA[i]'hia).2 = XA at *
        generalize (LB[i]'hib).2 = XB at *
        generalize (LA[i]'hia).1 = xa at *
        generalize (LB[i]'hib).1 = xb at *
        have HSA1 : Hid (∀ W, Below w9.heap.size w9 W → Calls Tryz.prog 29 #[xa, uw] W _) := fun W hW => same_pats xa uw ps W (hqa.below hW) (hpw.below hW)
        have HSB1 : Hid (∀ W, Below w9.heap.size w9 W → Calls Tryz.prog 29 #[xb, uw] W _) := fun W hW => same_pats xb uw ps W (hqb.below hW) (hpw.below hW)
        obtain ⟨ya, yc, rfl⟩ := hqa.shape
        obtain ⟨za, zc, rfl⟩ := hqb.shape
        obtain ⟨va, vc, rfl⟩ := hpw.shape
        have HK : Hid (∀ X, Below w9.heap.size w9 X → X.cell? ⟨ga, i, none⟩ = some (.slice ya ps.length yc) ∧ X.cell? ⟨gb, i, none⟩ = some (.slice za ps.length zc) ∧ X.cell? ⟨gw, i, none⟩ = some (.slice va ps.length vc)) := fun X hX =>
          ⟨(hX.cell (p := ⟨ga, i, none⟩) (block_lt_of_cell ca)).trans ca, (hX.cell (p := ⟨gb, i, none⟩) (block_lt_of_cell cb)).trans cb, (hX.cell (p := ⟨gw, i, none⟩) hgw).trans cw⟩
        have hKle : w9.heap.size ≤ wr.heap.size := HBEL.out.size
        have HBD : Hid (Below w9.heap.size w9 wr.drew) := HBEL.out.drew
        have HBKD : Hid (Bk wr.drew w9.heap.size (bsTo LA LB i) [] (psTo LA LB i)) := HBK.out.below (Below.refl _ _).drew
        clear ca cb cw hqa hqb hpw
        go_wp2_with fail
        go_region_held3 (fun w' => w'.cell? ⟨ga, i, none⟩ = some (.slice ya ps.length yc) ∧ w'.cell? ⟨gb, i, none⟩ = some (.slice za ps.length zc) ∧ w'.cell? ⟨gw, i, none⟩ = some (.slice va ps.length vc))
          (first | exact HK.out _ HBEL.out | exact HK.out _ HBD.out | exact HK.out _ HB4.out | exact HK.out _ HB5.out)
          (first
            | (go_at_call 29; (with_reducible refine (HSB1.out _ HB4.out).mono ?_); rintro e w5' ⟨rfl, hb5⟩; have HB5 := Lib.hid (HB4.out.trans (hb5.mono HB4.out.size)); have HBK5 := Lib.hid (HBK4.out.below hb5); clear hb5)
            | (go_at_call 29; (with_reducible refine (HSA1.out _ HBD.out).mono ?_); rintro e w4' ⟨rfl, hb4⟩; have HB4 := Lib.hid (HBD.out.trans (hb4.mono HBD.out.size)); have HBK4 := Lib.hid (HBKD.out.below hb4); clear hb4))
        have HCA := Lib.hid (book_patches HBK5.out (by omega) (by omega) ((HOA.out.below HB5.out).lower (Nat.zero_le _)) (by omega) HPA.out HDA.out)
        obtain ⟨ca, -, -⟩ := HK.out _ HB5.out
        clear HBD HBKD HBK HB4 HBK4 HSA1 HSB1
        have HXL : Hid ((bsTo LA LB i ++ XA.map (·.2)).length + XB.length ≤ 1000000 ∧ (psTo LA LB i ++ [Value.slice ya ps.length yc]).length ≤ 1000000 ∧ XB.length ≤ 100000) := by
          refine ⟨?_, ?_, by omega⟩
          · rw [List.length_append, List.length_map]; omega
          · rw [List.length_append, List.length_singleton]; omega
        go_wp2_with (first
          | (go_at_call 30; (with_reducible refine HCB.out.mono ?_); rintro e w7' ⟨rfl, hk7, hc7⟩; have HK7 := Lib.hid hk7; have HB7 := Lib.hid (HB6.out.trans (bks_below hc7 HB6.out.size)); clear hk7 hc7)
          | (go_at_call 30; (with_reducible refine HCA.out.mono ?_); rintro e w6' ⟨rfl, hk6, hc6⟩; have HB6 := Lib.hid (HB5.out.trans (bks_below hc6 HB5.out.size)); have HCB := Lib.hid (book_patches hk6 HXL.out.1 HXL.out.2.1 ((HOB.out.below HB6.out).lower (Nat.zero_le _)) HXL.out.2.2 HPB.out HDB.out); obtain ⟨-, cb, -⟩ := HK.out _ HB6.out; clear hk6 hc6 ca))
        go_roundw
        case measure => simp [intOf]; omega
        exact ⟨i + 1, I1.out, by go_num, by rw [HSTB.out, HSTP.out]; exact HK7.out, HB7.out⟩
    · as_aux_lemma =>
        obtain rfl : i = PS.length := by omega
        have hpl : (psTo LA LB PS.length).length ≤ 1000000 := by rw [ps_len]; have := hPS.out.1; omega
        have hAll : ∀ x ∈ LA, x.2.length ≤ 16 := fun x hx => by
          have h : x.2.map (·.1) ∈ LA.map fun x => x.2.map (·.1) := List.mem_map_of_mem hx
          rw [HSA.out] at h
          have := hPS.out.2 _ h
          rw [List.length_map] at this
          exact this
        have hBll : ∀ x ∈ LB, x.2.length ≤ 16 := fun x hx => by
          have h : x.2.map (·.1) ∈ LB.map fun x => x.2.map (·.1) := List.mem_map_of_mem hx
          rw [HSB.out] at h
          have := hPS.out.2 _ h
          rw [List.length_map] at this
          exact this
        have hbl : (bsTo LA LB PS.length).length ≤ 1000000 := by
          have h := bs_len hAll hBll PS.length
          have := hPS.out.1
          have h2 : 2 * 16 * PS.length ≤ 2 * 16 * 512 := Nat.mul_le_mul_left _ (by omega)
          omega
        have HOWN := Lib.hid (book_own HBK.out hbl (Nat.zero_le _) hpl)
        have HLOW : Hid (∀ k, InAny (bsTo LA LB PS.length) k ∨ InAny [] k ∨ InAny (psTo LA LB PS.length) k → w.heap.size ≤ k) := fun k hk => by
          have h15 := HW15.out
          rcases hk with ⟨y, hy, e⟩ | ⟨y, hy, e⟩ | ⟨y, hy, e⟩
          · obtain ⟨j, hj, ⟨a, ha, rfl⟩ | ⟨a, ha, rfl⟩⟩ := bs_mem hy
            · have hja : j < LA.length := by rw [HLAL.out]; exact hj
              rw [lr_at hja] at ha
              have := (((HLA9.out.each _ (List.getElem_mem hja)).dat a ha).lt k e).1
              omega
            · have hjb : j < LB.length := by rw [HLBL.out]; exact hj
              rw [lr_at hjb] at ha
              have := (((HLB9.out.each _ (List.getElem_mem hjb)).dat a ha).lt k e).1
              omega
          · cases hy
          · obtain ⟨j, hj, rfl | rfl⟩ := ps_mem hy
            · have hja : j < LA.length := by rw [HLAL.out]; exact hj
              rw [lr_at hja] at e
              have := ((HLA9.out.each _ (List.getElem_mem hja)).row.lt k e).1
              omega
            · have hjb : j < LB.length := by rw [HLBL.out]; exact hj
              rw [lr_at hjb] at e
              have := ((HLB9.out.each _ (List.getElem_mem hjb)).row.lt k e).1
              omega
        clear hAll hBll hbl hpl
        go_wp2_with (first
          | (go_at_call 19; (with_reducible refine HOWN.out.mono ?_); rintro e w2' ⟨rfl, hc⟩; have HE := Lib.hid (Chg.own (below_then HB9.out HBEL.out) hc HLOW.out); clear hc))
        go_ret
        exact ⟨rfl, HE.out⟩

set_option maxRecDepth 100000 in
set_option maxHeartbeats 4000000 in
theorem splits_much (m c s : Int) (vu : Value) (us : List (Int × List UInt8)) (w : World) (hu : PutSeg w vu us) (hm1 : muchIs (us.map (·.2.length)) = true) :
    Calls Tryz.prog 4 #[geo m c s, vu] w fun e w' => e = .returned (.bool true) ∧ Below w.heap.size w w' := by
  have hb0 : Below w.heap.size w (w.alloc (.cells #[.int .i64 m, .int .i64 c, .int .i64 s] 23)) := (Below.refl _ _).alloc (Nat.le_refl _) _
  have HB0 := Lib.hid hb0
  have hmp : Hid (∀ W, Below w.heap.size w W → _) := fun W hW => much_puts vu us W (hu.below hW)
  rw [hm1] at hmp
  obtain ⟨ua, uc, rfl⟩ := hu.shape
  clear hu hm1 hb0
  unfold geo at *
  go_enter Tryz.func4, Tryz.ntmps4
  go_wp2_with (first
    | (go_at_call 20; (with_reducible refine (hmp.out _ HB0.out).mono ?_); rintro e w1 ⟨rfl, rfl⟩))
  go_ret
  exact ⟨rfl, HB0.out⟩

set_option maxRecDepth 100000 in
set_option maxHeartbeats 8000000 in
theorem splits_bad (m c s : Int) (vu : Value) (us : List (Int × List UInt8)) (w : World) (hu : PutSeg w vu us) (hz : splitCode m c s us ≠ 0)
    (hknown : ∀ W, Calls Tryz.prog 28 #[] W fun e w' => e = .returned (.bool true) ∧ Below W.heap.size W w')
    (hm1 : muchIs (us.map (·.2.length)) = false) :
    Calls Tryz.prog 4 #[geo m c s, vu] w fun e w' => e = .returned (.bool true) ∧ Below w.heap.size w w' := by
  obtain ⟨w0, hw0⟩ : ∃ w0, w0 = w.alloc (.cells #[.int .i64 m, .int .i64 c, .int .i64 s] 23) := ⟨_, rfl⟩
  have hb0 : Below w.heap.size w w0 := by rw [hw0]; exact (Below.refl _ _).alloc (Nat.le_refl _) _
  have HG0 : Hid (At w0 w.heap.size #[.int .i64 m, .int .i64 c, .int .i64 s] 23) := by rw [hw0]; exact At.new _ _ _
  have hmp : Hid (∀ W, Below w.heap.size w W → _) := fun W hW => much_puts vu us W (hu.below hW)
  rw [hm1] at hmp
  obtain ⟨hfew, hlen0⟩ := much_few hm1
  rw [List.length_map] at hfew
  have hl3 : ∀ u ∈ us, u.2.length ≤ 300000 := fun u hu => hlen0 _ (List.mem_map_of_mem hu)
  have HL3 := Lib.hid hl3
  have hlent : Hid (∀ W, Below w.heap.size w W → _) := fun W hW => lent_puts vu us W (hu.below hW) hfew hl3
  have hsp : Hid (∀ W v, PutSeg W v us → _) := fun W v hv => split_refused m c s v us W hv hz
  have hmo : Hid (∀ W v, PutSeg W v us → _) := fun W v hv => most_refused m c s v us W hv hz
  have hrs : Hid (∀ W v, PutSeg W v us → _) := fun W v hv => ref_Split_bad m c s v us W hv hz
  have hrm : Hid (∀ W v, PutSeg W v us → _) := fun W v hv => ref_Most_bad m c s v us W hv hz
  obtain ⟨hq0, hq1⟩ := splitCode_bounds m c s us
  have e1 : (splitCode m c s us != splitCode m c s us) = false := by simp
  have HKN := Lib.hid hknown
  have HU := Lib.hid hu
  have HB0 := Lib.hid hb0
  have hw0l : w.heap.size < w0.heap.size := by rw [hw0, size_alloc]; omega
  have HW0L := Lib.hid hw0l
  obtain ⟨ua, uc, rfl⟩ := hu.shape
  clear hu hm1 hknown hlen0 hl3 hb0 hw0l hz
  generalize splitCode m c s us = q at *
  unfold geo at *
  go_enter Tryz.func4, Tryz.ntmps4
  go_upto_region 1 with fail
  rw [← hw0]
  clear hw0
  have c0 := HG0.out.cell 0
  have c1 := HG0.out.cell 1
  have c2 := HG0.out.cell 2
  go_wp2_with (first
    | (go_at_call 20; (with_reducible refine (hmp.out _ HB0.out).mono ?_); rintro e w1 ⟨rfl, rfl⟩)
    | (go_at_call 21; (with_reducible refine (hlent.out _ HB0.out).mono ?_); rintro e w1 ⟨⟨go, co, Y, rfl, hY, hL⟩, hb1⟩; have HB1 := Lib.hid (below_then HB0.out hb1); have HLU := Lib.hid (lent_use hY hL hfew HL3.out (HU.out.below HB1.out)); have HG1 := Lib.hid (HG0.out.below hb1 HG0.out.lt); clear c0 c1 c2 hY hL hb1; have c0 := HG1.out.cell 0; have c1 := HG1.out.cell 1; have c2 := HG1.out.cell 2)
    | (go_at_call 22; (with_reducible refine (hsp.out _ _ (HU.out.below HB5.out)).mono ?_); rintro e w6 ⟨rfl, hb6⟩; have HB6 := Lib.hid (below_then HB5.out hb6); have HG6 := Lib.hid (HG5.out.below hb6 HG5.out.lt); clear c0 c1 c2 hb6; have c0 := HG6.out.cell 0; have c1 := HG6.out.cell 1; have c2 := HG6.out.cell 2)
    | (go_at_call 22; (with_reducible refine (hsp.out _ _ HLU.out.seg).mono ?_); rintro e w2 ⟨rfl, hb2⟩; have HW2 := Lib.hid hb2; have HG2 := Lib.hid (HG1.out.below hb2 HG1.out.lt); clear c0 c1 c2 hb2; have c0 := HG2.out.cell 0; have c1 := HG2.out.cell 1; have c2 := HG2.out.cell 2)
    | (go_at_call 23; (with_reducible refine (hmo.out _ _ (HLU.out.seg.below HW2.out)).mono ?_); rintro e w3 ⟨rfl, hb3⟩; have HW3 := Lib.hid hb3; clear hb3)
    | (go_at_call 24; (with_reducible refine (HLU.out.whole _ (below_then HW2.out HW3.out)).mono ?_); rintro e w4 ⟨rfl, hb4⟩; have HW4 := Lib.hid (below_then (below_then HW2.out HW3.out) hb4); have HG4 := Lib.hid ((HG2.out.below HW3.out HG2.out.lt).below hb4 (HG2.out.below HW3.out HG2.out.lt).lt); clear hb4)
    | (go_at_call 25; (with_reducible refine (HLU.out.spoil _ HW4.out).mono ?_); rintro e w5 ⟨rfl, hc5⟩; have HG5 := Lib.hid (HG4.out.mod hc5 (fun e => by have := HW0L.out; omega)); have HB5 := Lib.hid (Chg.own (below_then HB1.out HW4.out) hc5 (fun k hk => by have := HW0L.out; omega)); clear hc5 c0 c1 c2; have c0 := HG5.out.cell 0; have c1 := HG5.out.cell 1; have c2 := HG5.out.cell 2)
    | (go_at_call 26; (with_reducible refine (hrs.out _ _ (HU.out.below HB6.out)).mono ?_); rintro e w7 ⟨rfl, hb7⟩; have HB7 := Lib.hid (below_then HB6.out hb7); have HG7 := Lib.hid (HG6.out.below hb7 HG6.out.lt); clear c0 c1 c2 hb7; have c0 := HG7.out.cell 0; have c1 := HG7.out.cell 1; have c2 := HG7.out.cell 2)
    | (go_at_call 27; (with_reducible refine (hrm.out _ _ (HU.out.below HB7.out)).mono ?_); rintro e w8 ⟨rfl, hb8⟩; have HB8 := Lib.hid (below_then HB7.out hb8); clear c0 c1 c2 hb8)
    | (go_at_call 28; (with_reducible refine (HKN.out _).mono ?_); rintro e w9 ⟨rfl, hb9⟩; have HB9 := Lib.hid (below_then HB8.out hb9); clear hb9))
  have HBK : Hid (Bk (w9.alloc (.cells (bookC (.slice none 0 0) (.slice none 0 0) (.slice none 0 0)) 51)) w9.heap.size [] [] []) :=
    ⟨_, _, _, At.new _ _ _, World.ownsRow_nil _ _ _ _, World.ownsRow_nil _ _ _ _, World.ownsRow_nil _ _ _ _, fun x hx => (by cases hx), fun x hx => (by cases hx), fun x hx => (by cases hx), List.Pairwise.nil, List.Pairwise.nil, List.Pairwise.nil⟩
  have HKB : Hid (Below w.heap.size w (w9.alloc (.cells (bookC (.slice none 0 0) (.slice none 0 0) (.slice none 0 0)) 51))) := HB9.out.alloc HB9.out.size _
  have HOWN := Lib.hid (book_own HBK.out (Nat.zero_le _) (Nat.zero_le _) (Nat.zero_le _))
  go_loopw [18] (fun q wx => q = .int .i64 0 ∧ wx = w9.alloc (.cells (bookC (.slice none 0 0) (.slice none 0 0) (.slice none 0 0)) 51)) (fun _ _ => 0)
  case atStart => exact ⟨rfl, rfl⟩
  case round =>
    obtain ⟨rfl, rfl⟩ := hrel
    go_wp2_with (first
      | (go_at_call 19; (with_reducible refine HOWN.out.mono ?_); rintro e w2' ⟨rfl, hc⟩; have HE := Lib.hid (Chg.own HKB.out hc (fun k hk => by rcases hk with ⟨y, hy, _⟩ | ⟨y, hy, _⟩ | ⟨y, hy, _⟩ <;> cases hy)); clear hc))
    go_ret
    exact ⟨rfl, HE.out⟩

end Go.Proofs.YtkcfmkhakghniaaGreat
