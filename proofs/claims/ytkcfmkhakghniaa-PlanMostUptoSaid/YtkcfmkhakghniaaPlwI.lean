/- PlanEven: the walk, where 'known' tells true. -/
import Derived.Test.YtkcfmkhakghniaaPlwG
import Derived.Test.YtkcfmkhakghniaaMaxW
import Derived.Deep.Cut
import Derived.Deep.CutRange
set_option linter.unusedVariables false
namespace Go.Proofs.Ytkcfmkhakghniaa
open Go.RowKit

/-- Is block m given? -/
def bitAt (gv : Int) (m : Nat) : Bool := bits .and .u16 (gv / 2 ^ m) 1 == 1
abbrev cgeo (M : Nat) : Array Value := #[.int .i64 M, .int .i64 1, .int .i64 40]

set_option maxRecDepth 100000 in
set_option maxHeartbeats 8000000 in
theorem even_walk (A Bn Cn : Nat) (gv : Int) (v : Value) (ls : List (List UInt8)) (w : World) (hA : A < 256) (hBn : Bn < 256) (hCn : Cn < 256) (hg0 : 0 ≤ gv) (hg1 : gv ≤ 65535) (hv : Segs w v ls) (hll : ls.length ≤ 140737488351232) (hdl : ∀ l ∈ ls, l.length ≤ 140737488351232) (hknown : ∀ W, Calls Try.prog 27 #[] W fun e w' => e = .returned (.bool true) ∧ Below W.heap.size W w') :
    Calls Try.prog 7 #[.int .u8 (A : Int), .int .u8 (Bn : Int), .int .u8 (Cn : Int), v, .int .u16 gv] w fun e w' => e = .returned (.bool true) ∧ Below w.heap.size w w' := by
  have HV := Lib.hid hv
  have HDL := Lib.hid hdl
  have HKN := Lib.hid hknown
  obtain ⟨va, vc, rfl⟩ := hv.shape
  clear hv hdl hknown
  obtain ⟨q, M, row, kk, hM3, hM16, hr40, hkk, eA, eM, eB, eC⟩ : ∃ q M row kk : Nat, 3 ≤ M ∧ M ≤ 16 ∧ row < 40 ∧ kk ≤ M ∧ (A : Int) % 14 = (q : Int) ∧ (q : Int) + 3 = (M : Int) ∧ (Bn : Int) % 40 = (row : Int) ∧ (Cn : Int) % ((M : Int) + 1) = (kk : Int) :=
    ⟨A % 14, A % 14 + 3, Bn % 40, Cn % (A % 14 + 3 + 1), by omega, by omega, by omega, by have := Nat.mod_lt Cn (show 0 < A % 14 + 3 + 1 by omega); omega, by omega, by omega, by omega, (Int.natCast_emod Cn (A % 14 + 3 + 1)).symm⟩
  have hne : ¬ ((M : Int) + 1 = 0) := by omega
  have hg : Hid (geoIs (M : Int) ((1 : Nat) : Int) ((40 : Nat) : Int) = true) := (geoIs_iff _ _ _).2 (by omega)
  have hpar : Hid (∀ W, Calls Try.prog 21 #[.agg #[.int .i64 M, .int .i64 1, .int .i64 40], .int .i64 row] W fun e w' => e = .returned (.tuple #[.int .i64 (parOf M 1 row : Int), .int .i64 0]) ∧ Below W.heap.size W w') := fun W => ref_parity M 1 40 row W hg.out (by omega)
  have hpl : parOf M 1 row < M := by unfold parOf; omega
  generalize hpp : parOf M 1 row = par at *
  have HPP := Lib.hid hpp
  clear hpp
  go_enter Try.func7, Try.ntmps7
  go_upto_if 63 with (first
    | (go_at_call 21; (with_reducible refine (hpar.out _).mono ?_); rintro e w1 ⟨rfl, hb1⟩; have HL1 := Lib.hid ((((LawAt.start w M).newKept (g := w.heap.size) (cs := cgeo M) (t := 23) ((Below.refl _ _).alloc (Nat.le_refl _) _) (At.new _ _ _) (Nat.le_refl _) (by decide) (by decide)).below hb1)); clear hb1)
    | (refine wpList_make_same rfl _ _ 74 4 1 1 rfl slice_bools (.bool false) (by kernel_rfl) _ _ _ _ M rfl rfl rfl rfl (by omega) (by unfold maxLen; omega) ?_; intro w2 a2 b2; rw [bcells_zero] at a2; have HL2 := Lib.hid (((HL1.out.newKept b2 a2 (Nat.le_refl _) (by decide) (by decide)).base (B' := w2.heap.size) (Nat.le_trans HL1.out.bel.size b2.size) (Nat.le_refl _)).hold (Z := fun k => k = w1.heap.size) (fun k hk => (by cases hk)) (fun k hk => by subst hk; exact ⟨HL1.out.bel.size, a2.lt⟩)); have hgd : w1.heap.size < w2.heap.size := a2.lt; have HG1 := Lib.hid HL1.out.bel.size; clear a2 b2 HL1))
  generalize hgde : w1.heap.size = gd at *
  go_cut [17] from 61 to 66 (fun s17 wx => s17 = .int .i64 (kk : Int) ∧ LawAt w wx w2.heap.size M (fun k => k = gd) (.slice none 0 0) [] [] [(gd, bcells (goneAt kk) M, 4), (w.heap.size, cgeo M, 23)])
  case first =>
    by_cases hkM : kk < M
    · have a2 := HL2.out.keep 0 rfl
      have f0 := a2.free kk
      have d0 : w2.cell? ⟨gd, kk, none⟩ = some (.bool false) := (a2.cell kk).trans (bcells_at _ _ _ hkM)
      clear a2
      go_wp2_with fail
      go_meet
      have := HL2.out.setKept (i := 0) rfl rfl hgd kk (.bool true)
      rw [bcells_set] at this
      have e : bcells (fun i => if i = kk then true else false) M = bcells (goneAt kk) M := bcells_congr fun i _ => by
        unfold goneAt
        by_cases hi : i = kk <;> simp [hi]
      rw [e] at this
      exact ⟨by rw [eC], this⟩
    · go_wp2_with fail
      go_meet
      have e : bcells (fun _ => false) M = bcells (goneAt kk) M := bcells_congr fun i hi => by
        unfold goneAt
        simp
        omega
      rw [← e]
      exact ⟨by rw [eC], HL2.out⟩
  case rest =>
    obtain ⟨rfl, hcut⟩ := hcut
    have HL3 := Lib.hid (hcut.hold (Z := fun _ => False) (fun k hk => (by cases hk)) (fun k hk => False.elim hk))
    clear hcut HL2 hgde eA eM eB eC hne hpar hgd HG1
    clear hA hCn
    go_wp2_with (first
      | (refine wpList_make_zero rfl _ _ 51 34 24 rfl slice_rowsB (.slice none 0 0) (by kernel_rfl) rfl (fun _ => .slice none 0 0) _ _ _ _ M rfl rfl rfl rfl (by omega) (by unfold maxLen; omega) ?_; intro w5 a5 b5; have HL5 := Lib.hid (HL4.out.newRow b5 a5); clear HL4 a5 b5)
      | (refine wpList_make_zero rfl _ _ 51 34 24 rfl slice_rowsB (.slice none 0 0) (by kernel_rfl) rfl (fun _ => .slice none 0 0) _ _ _ _ M rfl rfl rfl rfl (by omega) (by unfold maxLen; omega) ?_; intro w4 a4 b4; have HL4 := Lib.hid (HL3.out.newRow b4 a4); clear HL3 a4 b4)
      | (refine wpList_make_same rfl _ _ 34 5 1 1 rfl slice_bytes (.int .u8 0) (by kernel_rfl) _ _ _ _ 128 rfl rfl rfl rfl (by omega) (by unfold maxLen; omega) ?_; intro w6 a6 b6; rw [zero_ufn] at a6; have HL6 := Lib.hid ((HL5.out.newHeld b6 a6 (Nat.le_refl _) (by decide) (by decide)).base (B' := w6.heap.size) (Nat.le_trans HL5.out.bel.size b6.size) (Nat.le_refl _)); have hs6 := a6.lt; clear a6 b6 HL5))
    have hgg : w4.heap.size ≠ wc.heap.size := List.rel_of_pairwise_cons HL6.out.rsep List.mem_cons_self
    have hgs0 : w.heap.size ≤ w5.heap.size := HL6.out.klow _ List.mem_cons_self
    have hg00 : w.heap.size ≤ wc.heap.size := HL6.out.rlow _ (List.mem_cons_of_mem _ List.mem_cons_self)
    have hgsB : w5.heap.size < w6.heap.size := hs6
    generalize w5.heap.size = gs at *
    generalize wc.heap.size = g0 at *
    generalize w4.heap.size = gw at *
    have hBw : w.heap.size ≤ w6.heap.size := HL6.out.lowB
    generalize hBe : w6.heap.size = B at *
    obtain ⟨R0, HR⟩ : ∃ R0 : Nat → List UInt8, Hid (∀ j, R0 j = if j < ls.length ∧ (ls.getD j []).length = 128 then ls.getD j [] else secOf (UInt8.ofNat (7 * (j : Int)).toNat)) := ⟨_, fun j => rfl⟩
    obtain ⟨qq, HQ⟩ : ∃ qq : Nat → Bool, Hid (∀ j, qq j = (decide (j ≠ par) && bitAt gv j)) := ⟨_, fun j => rfl⟩
    obtain ⟨dd, HD⟩ : ∃ dd : Nat → List UInt8, Hid (∀ j, dd j = secOf (UInt8.ofNat (((Bn : Int) + (j : Int)) % 256).toNat)) := ⟨_, fun j => rfl⟩
    obtain ⟨W0, HW⟩ : ∃ W0 : Nat → List UInt8, Hid (∀ j, W0 j = if qq j = true then dd j else R0 j) := ⟨_, fun j => rfl⟩
    obtain ⟨sm, HS⟩ : ∃ sm : Nat → Nat → UInt8, Hid (∀ k i, sm k i = xsum (fun j => if j = par then 0 else (R0 j).getD i 0) k) := ⟨_, fun k i => rfl⟩
    have hRlen : ∀ j, (R0 j).length = 128 := fun j => by
      rw [HR.out j]
      split
      · rename_i h; exact h.2
      · exact secOf_length _
    have HRLEN := Lib.hid hRlen
    clear hRlen
    go_loopw [19, 22] (fun vp q wr => ∃ (k : Nat) (X : Nat → Prop) (Y : List OP), k ≤ M ∧ q = .int .i64 k ∧ X gs ∧ Y.map (·.1) = putsOf qq dd row k ∧ LawAt w wr B M X vp Y [(gw, fun j => if j < k then W0 j else []), (g0, fun j => if j < k then R0 j else [])] [(gs, ufn (sm k) 128, 5), (gd, bcells (goneAt kk) M, 4), (w.heap.size, cgeo M, 23)]) (fun _ q _ => M - (intOf q).toNat)
    case atStart =>
      refine ⟨0, fun x => False ∨ x = gs, [], by omega, rfl, .inr rfl, rfl, ?_⟩
      have e1 : ∀ F : Nat → List UInt8, (fun j => if j < 0 then F j else []) = fun _ => [] := fun F => by funext j; rw [if_neg (by omega)]
      rw [e1, e1, ufn_eq (g := fun _ => 0) (fun i _ => HS.out 0 i)]
      exact HL6.out
    case round =>
      obtain ⟨k, X, Y, hk, rfl, hXs, hY, hL⟩ := hrel
      have HL := Lib.hid hL
      have HX := Lib.hid hXs
      have HY := Lib.hid hY
      clear hL hXs hY HL6
      by_cases hkn : k < M
      · as_aux_lemma =>
          have K1 : Hid (k + 1 ≤ M) := hkn
          have HSEC := Lib.hid (fun W => sec13i (7 * (k : Int)) W (by omega) (by omega))
          go_upto_region 17 with (first
            | (go_at_call 33; (with_reducible refine (HSEC.out _).mono ?_); rintro e w7 ⟨rfl, hu7, hb7⟩; have HL7 := Lib.hid (HL.out.below hb7); have HU7 := Lib.hid hu7; have f0 := (HL7.out.row 1 rfl).free k; obtain ⟨u0, d0, -⟩ := (HL7.out.row 1 rfl).cell hkn; clear hb7 hu7))
          have HL8 := Lib.hid (HL7.out.setRow (i := 1) rfl hkn (seg_sec HU7.out (secOf_length _)) (HL.out.offNew HU7.out))
          clear f0 d0
          have hsecl := Lib.hid (secOf_length (UInt8.ofNat (7 * (k : Int)).toNat))
          go_cut [95] from 72 to 155 (fun s95 wx => s95 = .bool (decide (k < ls.length ∧ (ls.getD k []).length = 128)) ∧ LawAt w wx B M X u19 Y [(gw, fun j => if j < k then W0 j else []), (g0, fun j => if j = k then secOf (UInt8.ofNat (7 * (k : Int)).toNat) else if j < k then R0 j else [])] [(gs, ufn (sm k) 128, 5), (gd, bcells (goneAt kk) M, 4), (w.heap.size, cgeo M, 23)])
          case first =>
            by_cases h1 : k < ls.length
            · obtain ⟨b, o, c', hve, hlt, hx⟩ := Segs.full (HV.out.below HL8.out.bel) (by omega)
              simp only [Value.slice.injEq] at hve
              obtain ⟨rfl, -, rfl⟩ := hve
              obtain ⟨u, d1, hu⟩ := hx k h1
              have hgl : ls.getD k [] = ls[k] := by rw [List.getD_eq_getElem?_getD, List.getElem?_eq_getElem h1]; rfl
              have hlen := HDL.out _ (List.getElem_mem h1)
              have hgl' : (ls.getD k []).length = ls[k].length := by rw [hgl]
              obtain ⟨ua, uc, rfl⟩ := hu.shape
              clear hx hu hgl
              have HGL := Lib.hid hgl'
              clear hgl'
              generalize ls[k].length = n at *
              by_cases h2 : n = 128
              · subst h2
                go_wp2_with fail
                go_meet
                exact ⟨by rw [HGL.out]; simp [h1], HL8.out⟩
              · have h3 : ((n : Int) == 128) = false := by simp; omega
                go_wp2_with fail
                go_meet
                exact ⟨by rw [HGL.out]; simp [h1, h2], HL8.out⟩
            · go_wp2_with fail
              go_meet
              exact ⟨by simp [h1], HL8.out⟩
          case rest =>
            obtain ⟨rfl, hL9⟩ := hcut
            have HL9 := Lib.hid hL9
            clear hL9 HL8 HL7 HU7 HSEC
            rename_i wq
            go_upto_if 95 with fail
            go_cut [] from 72 to 155 (fun wx => LawAt w wx B M X u19 Y [(gw, fun j => if j < k then W0 j else []), (g0, fun j => if j < k + 1 then R0 j else [])] [(gs, ufn (sm k) 128, 5), (gd, bcells (goneAt kk) M, 4), (w.heap.size, cgeo M, 23)])
            case first =>
              have f0 := (HL9.out.row 1 rfl).free k
              obtain ⟨u0, d0, -⟩ := (HL9.out.row 1 rfl).cell hkn
              by_cases hP : k < ls.length ∧ (ls.getD k []).length = 128
              · obtain ⟨h1, h2⟩ := hP
                obtain ⟨b, o, c', hve, hlt, hx⟩ := Segs.full (HV.out.below HL9.out.bel) (by omega)
                simp only [Value.slice.injEq] at hve
                obtain ⟨rfl, -, rfl⟩ := hve
                obtain ⟨u, d1, hu⟩ := hx k h1
                obtain ⟨b', o', c'', hve', hlt', hx'⟩ := Segs.full HV.out (by omega)
                simp only [Value.slice.injEq, Option.some.injEq, Addr.mk.injEq] at hve'
                obtain ⟨⟨rfl, rfl, -⟩, -, rfl⟩ := hve'
                obtain ⟨u', d1', hu'⟩ := hx' k h1
                have e1 := (HL9.out.bel.cell (p := ⟨b, o + k, none⟩) hlt').trans d1'
                rw [d1] at e1
                simp only [Option.some.injEq] at e1
                subst e1
                have hoff := HL9.out.offOld hu'
                have hgl : ls.getD k [] = ls[k] := by rw [List.getD_eq_getElem?_getD, List.getElem?_eq_getElem h1]; rfl
                have HLA := Lib.hid (HL9.out.setRow (i := 1) rfl hkn hu hoff)
                have hRk : R0 k = ls[k] := by rw [HR.out k, if_pos ⟨h1, h2⟩, hgl]
                have HRK := Lib.hid hRk
                rw [hgl] at h2
                obtain ⟨ua, uc, rfl⟩ := hu.shape
                have hdec : decide (k < ls.length ∧ (ls.getD k []).length = 128) = true := decide_eq_true ⟨h1, by rw [hgl]; exact h2⟩
                clear hx hu hx' hu' hoff hRk
                rw [hdec]
                rw [h2] at d1 d1' HLA
                go_wp2_with fail
                go_meet
                refine HLA.out.told (i := 1) (G := fun j => if j < k + 1 then R0 j else []) rfl (fun j hj => ?_)
                show (if j < k + 1 then R0 j else []) = if j = k then ls[k] else if j = k then _ else if j < k then R0 j else []
                by_cases hjk : j = k
                · subst hjk; rw [if_pos (by omega), if_pos rfl, HRK.out]
                · rw [if_neg hjk, if_neg hjk]
                  by_cases h3 : j < k
                  · rw [if_pos (by omega), if_pos h3]
                  · rw [if_neg (by omega), if_neg h3]
              · have hdec : decide (k < ls.length ∧ (ls.getD k []).length = 128) = false := decide_eq_false hP
                rw [hdec]
                go_wp2_with fail
                go_meet
                refine HL9.out.told (i := 1) (G := fun j => if j < k + 1 then R0 j else []) rfl (fun j hj => ?_)
                show (if j < k + 1 then R0 j else []) = if j = k then _ else if j < k then R0 j else []
                by_cases hjk : j = k
                · subst hjk; rw [if_pos (by omega), if_pos rfl, HR.out j, if_neg hP]
                · rw [if_neg hjk]
                  by_cases h3 : j < k
                  · rw [if_pos (by omega), if_pos h3]
                  · rw [if_neg (by omega), if_neg h3]
            case rest =>
              have HLB := Lib.hid hcut
              clear hcut HL9 HL
              rename_i wd
              obtain ⟨u2, d2, hu2, ho2⟩ := (HLB.out.row 1 rfl).cell hkn
              have hk1 : k < k + 1 := Nat.lt_succ_self k
              simp only [if_pos hk1] at hu2 ho2
              have f3 := (HLB.out.row 0 rfl).free k
              obtain ⟨u3, d3, -⟩ := (HLB.out.row 0 rfl).cell hkn
              have HLC := Lib.hid (HLB.out.setRow (i := 0) rfl hkn hu2 ho2)
              have hRL := Lib.hid (HRLEN.out k)
              have hgk : gw ≠ g0 := hgg
              obtain ⟨ua, uc, rfl⟩ := hu2.shape
              have hcell0 : Hid (∀ wx Z, LawAt w wx B M X u19 Y [(gw, fun j => if j = k then R0 k else if j < k then W0 j else []), (g0, fun j => if j < k + 1 then R0 j else [])] Z → ∃ b o c, wx.cell? ⟨g0, k, none⟩ = some (.slice (some ⟨b, o, none⟩) 128 c) ∧ ∀ i : Nat, i < 128 → wx.cell? ⟨b, o + i, none⟩ = some (.int .u8 ((((R0 k).getD i 0).toNat : Nat) : Int))) := fun wx Z h => by
                obtain ⟨u4, d4, hu4, -⟩ := (h.row 1 rfl).cell hkn
                simp only [if_pos hk1] at hu4
                obtain ⟨b, o, c, rfl, hlt, hx⟩ := hu4.full (by rw [hRL.out]; omega)
                rw [hRL.out] at d4
                refine ⟨b, o, c, d4, fun i hi => ?_⟩
                rw [hx i (by rw [hRL.out]; exact hi), List.getD_eq_getElem?_getD, List.getElem?_eq_getElem (by rw [hRL.out]; exact hi)]
                rfl
              clear hu2 ho2
              by_cases hkp : k = par
              · as_aux_lemma =>
                  have hb : ((k : Int) == (par : Int)) = true := by simp [hkp]
                  have HKP := Lib.hid hkp
                  clear hkp
                  go_wp2_with fail
                  go_roundw
                  case rel =>
                    have hqk : qq k = false := by rw [HQ.out k, HKP.out]; simp
                    have hS1 : sm (k + 1) = sm k := by
                      funext i
                      rw [HS.out, HS.out]
                      show xsum _ k ^^^ (if k = par then 0 else _) = _
                      rw [if_pos HKP.out, UInt8.xor_zero]
                    refine ⟨k + 1, X, Y, K1.out, by go_num, HX.out, by rw [puts_same dd row hqk]; exact HY.out, ?_⟩
                    rw [hS1]
                    refine HLC.out.told (i := 0) (G := fun j => if j < k + 1 then W0 j else []) rfl (fun j hj => ?_)
                    show (if j < k + 1 then W0 j else []) = if j = k then R0 k else if j < k then W0 j else []
                    by_cases hjk : j = k
                    · subst hjk; rw [if_pos (by omega), if_pos rfl, HW.out, hqk]; rfl
                    · rw [if_neg hjk]
                      by_cases h3 : j < k
                      · rw [if_pos (by omega), if_pos h3]
                      · rw [if_neg (by omega), if_neg h3]
                  case measure => simp [intOf]; omega
              · have hb : ((k : Int) == (par : Int)) = false := by simp; omega
                go_wp2_with fail
                go_loopw [23] (fun q wx => ∃ i : Nat, i ≤ 128 ∧ q = .int .i64 i ∧ LawAt w wx B M X u19 Y [(gw, fun j => if j = k then R0 k else if j < k then W0 j else []), (g0, fun j => if j < k + 1 then R0 j else [])] [(gs, ufn (fun j => if j < i then sm k j ^^^ (R0 k).getD j 0 else sm k j) 128, 5), (gd, bcells (goneAt kk) M, 4), (w.heap.size, cgeo M, 23)]) (fun q _ => 128 - (intOf q).toNat)
                case atStart =>
                  refine ⟨0, by omega, rfl, ?_⟩
                  rw [ufn_eq (g := sm k) (fun i _ => if_neg (by omega))]
                  exact HLC.out
                case round =>
                  obtain ⟨i, hi, rfl, hLI⟩ := hrel
                  have HLI := Lib.hid hLI
                  clear hLI HLC
                  by_cases hi2 : i < 128
                  · as_aux_lemma =>
                      have I1 : Hid (i + 1 ≤ 128) := hi2
                      obtain ⟨b, o, c, e0, e1⟩ := hcell0.out wr _ HLI.out
                      have e2 := e1 i hi2
                      have hks := HLI.out.keep 0 rfl
                      have e3 : wr.cell? ⟨gs, i, none⟩ = some (.int .u8 (((sm k i).toNat : Nat) : Int)) := by rw [hks.cell, ufn_at _ _ _ hi2, if_neg (by omega)]
                      have f4 := hks.free i
                      have hx := bits_xor8 (sm k i) ((R0 k).getD i 0)
                      have HSET := Lib.hid (HLI.out.setKept (i := 0) rfl HX.out hgsB i (.int .u8 (((sm k i ^^^ (R0 k).getD i 0).toNat : Nat) : Int)))
                      clear hks e1
                      have HXX : Hid (sm k i ^^^ (R0 k).getD i 0 = sm k i ^^^ (R0 k).getD i 0) := rfl
                      generalize hz : sm k i ^^^ (R0 k).getD i 0 = zz at *
                      have HZ := Lib.hid hz
                      clear hz HXX
                      generalize (((sm k i).toNat : Nat) : Int) = y1 at *
                      generalize ((((R0 k).getD i 0).toNat : Nat) : Int) = y2 at *
                      go_wp2
                      go_region
                      go_wp2
                      go_roundw
                      case rel =>
                        refine ⟨i + 1, I1.out, by go_num, ?_⟩
                        have h := HSET.out.below (Below.refl _ _).drew
                        rw [← ufn_set (fun j => if j < i then sm k j ^^^ (R0 k).getD j 0 else sm k j) _ 128 i zz (fun j _ => ?_)]
                        · exact h
                        · show (if j < i + 1 then sm k j ^^^ (R0 k).getD j 0 else sm k j) = _
                          by_cases hji : j = i
                          · subst hji; rw [if_pos (by omega), if_pos rfl, HZ.out]
                          · rw [if_neg hji]
                            show _ = if j < i then sm k j ^^^ (R0 k).getD j 0 else sm k j
                            by_cases h3 : j < i
                            · rw [if_pos (by omega), if_pos h3]
                            · rw [if_neg (by omega), if_neg h3]
                      case measure => simp [intOf]; omega
                  · as_aux_lemma =>
                      obtain rfl : i = 128 := by omega
                      have hS1 : ufn (fun j => if j < 128 then sm k j ^^^ (R0 k).getD j 0 else sm k j) 128 = ufn (sm (k + 1)) 128 := ufn_eq fun j hj => by
                        rw [if_pos hj, HS.out k, HS.out (k + 1)]
                        show _ = xsum _ k ^^^ (if k = par then 0 else _)
                        rw [if_neg hkp]
                      have hLJ := HLI.out
                      rw [hS1] at hLJ
                      have HLJ := Lib.hid hLJ
                      clear hLJ HLI hS1 hcell0
                      have hYl : Y.length ≤ k := by
                        have := congrArg List.length HY.out
                        rw [List.length_map] at this
                        rw [this]
                        exact puts_few _ _ _ _
                      cases hbit : bitAt gv k
                      · have hqk : qq k = false := by rw [HQ.out k, hbit]; simp
                        have HQK := Lib.hid hqk
                        unfold bitAt at hbit
                        clear hqk
                        go_wp2_with fail
                        go_roundw
                        case rel =>
                          refine ⟨k + 1, X, Y, K1.out, by go_num, HX.out, by rw [puts_same dd row HQK.out]; exact HY.out, ?_⟩
                          refine HLJ.out.told (i := 0) (G := fun j => if j < k + 1 then W0 j else []) rfl (fun j hj => ?_)
                          show (if j < k + 1 then W0 j else []) = if j = k then R0 k else if j < k then W0 j else []
                          by_cases hjk : j = k
                          · subst hjk; rw [if_pos (by omega), if_pos rfl, HW.out, HQK.out]; rfl
                          · rw [if_neg hjk]
                            by_cases h3 : j < k
                            · rw [if_pos (by omega), if_pos h3]
                            · rw [if_neg (by omega), if_neg h3]
                        case measure => simp [intOf]; omega
                      · have hqk : qq k = true := by rw [HQ.out k, hbit]; simp [hkp]
                        have HQK := Lib.hid hqk
                        have hddk : dd k = secOf (UInt8.ofNat (((Bn : Int) + (k : Int)) % 256).toNat) := HD.out k
                        have HDK := Lib.hid hddk
                        have HSEC2 := Lib.hid (fun W => sec13i (((Bn : Int) + (k : Int)) % 256) W (by omega) (by omega))
                        have hwrB := Lib.hid HLJ.out.hB
                        unfold bitAt at hbit
                        clear hqk hddk d2 d3 f3 HLB
                        go_wp2_with (first
                          | (go_at_call 33; (with_reducible refine (HSEC2.out _).mono ?_); rintro e w8 ⟨rfl, hu8, hb8⟩; have HL8 := Lib.hid (HLJ.out.below hb8); have f3 := (HL8.out.row 0 rfl).free k; obtain ⟨u3', d3, -⟩ := (HL8.out.row 0 rfl).cell hkn; have HLK := Lib.hid (HL8.out.setRow (i := 0) rfl hkn (seg_sec hu8 (secOf_length _)) (HLJ.out.offNew hu8)); obtain ⟨cs8, hat8⟩ := LawAt.at_row (HL8.out.row 0 rfl); have hcs8 : Chg (fun z => z = gw) w8 (w8.setCell ⟨gw, k, none⟩ (.slice (some ⟨wr.heap.size, 0, none⟩) 128 128)) := Chg.setCell (S := fun z => z = gw) (Chg.refl _ _) ⟨gw, k, none⟩ (.inl rfl) _; have HU8 := Lib.hid (ownsRow_mod (rebase_row hu8 HLJ.out.hB) hcs8 (fun z hz e => own_ne_at hu8 hat8 (by decide) (e ▸ hz))); have HLM := Lib.hid (HLK.out.below ((Below.refl _ _).alloc (Nat.le_refl _) (.cells #[.int .i64 k, .int .i64 row, .slice (some ⟨wr.heap.size, 0, none⟩) 128 128] 69))); have HB8 := Lib.hid hb8; clear hat8 hcs8 hu8 hb8)
                          | (refine wpList_append_keeps rfl _ _ 65 69 3 40 rfl slice_pats B u19 Y.length _ rfl HLM.out.puts.row _ 1 1 [.int .i64 k, .int .i64 row, .slice (some ⟨wr.heap.size, 0, none⟩) 128 128] rfl rfl (new_three _ _ _ _ _ _ (by first | rfl | simp)) (by intro u hu; simp at hu; rcases hu with rfl | rfl | rfl <;> rfl) (by unfold maxLen; omega) (by omega) HLM.out.hB (by omega) ?_; intro v' w9 hrow9 hvb9 hc9 hkk9; clear hkk9; have HROW9 := Lib.hid hrow9; have HVB9 := Lib.hid hvb9; have HC9 := Lib.hid hc9; clear hrow9 hvb9 hc9))
                        go_roundw
                        case rel =>
                          refine ⟨k + 1, fun x => X x ∨ v'.ownBlock = some x, Y ++ [(⟨k, row, dd k⟩, .slice (some ⟨wr.heap.size, 0, none⟩) 128 128)], K1.out, by go_num, .inl HX.out, ?_, ?_⟩
                          · rw [List.map_append, HY.out, puts_snoc dd row HQK.out]
                            rfl
                          · have hx9 := ownsRow_below HU8.out ((Below.refl _ _).alloc (Nat.le_refl _) (.cells #[.int .i64 k, .int .i64 row, .slice (some ⟨wr.heap.size, 0, none⟩) 128 128] 69)) (Nat.le_refl _)
                            have h := HLM.out.app (x := (⟨k, row, dd k⟩, .slice (some ⟨wr.heap.size, 0, none⟩) 128 128)) HC9.out (by show World.ownsRow _ _ _ _ _ _ (ucells (dd k)); rw [HDK.out]; exact hx9) (fun y hy g hg e => by
                              have h1 := ((HLJ.out.puts.dat y hy).lt g hg).2
                              simp [Value.ownBlock] at e
                              omega) HROW9.out (by
                              rcases HVB9.out with e | e
                              · exact .inl e
                              · exact .inr ⟨_, e, Nat.le_refl _⟩)
                            refine h.told (i := 0) (G := fun j => if j < k + 1 then W0 j else []) rfl (fun j hj => ?_)
                            show (if j < k + 1 then W0 j else []) = if j = k then secOf (UInt8.ofNat (((Bn : Int) + (k : Int)) % 256).toNat) else if j = k then R0 k else if j < k then W0 j else []
                            by_cases hjk : j = k
                            · subst hjk; rw [if_pos (by omega), if_pos rfl, HW.out, HQK.out, if_pos rfl, HDK.out]
                            · rw [if_neg hjk, if_neg hjk]
                              by_cases h3 : j < k
                              · rw [if_pos (by omega), if_pos h3]
                              · rw [if_neg (by omega), if_neg h3]
                        case measure => simp [intOf]; omega
      · as_aux_lemma =>
          obtain rfl : M = k := by omega
          have hTold := ((HL.out.told (i := 0) (G := W0) rfl (fun j hj => by show _ = if j < M then _ else _; rw [if_pos hj])).told (i := 1) (G := R0) rfl (fun j hj => by show _ = if j < M then _ else _; rw [if_pos hj])).apart (Z := fun x => u19.ownBlock = some x) (fun x hx => HL.out.hX x hx) (fun x hx => hx)
          have HLT : Hid (LawAt w wr B M (fun x => u19.ownBlock = some x) u19 Y [(gw, W0), (g0, R0)] [(gs, ufn (sm M) 128, 5), (gd, bcells (goneAt kk) M, 4), (w.heap.size, cgeo M, 23)]) := hTold
          clear hTold HL
          have hgs := HLT.out.keep 0 rfl
          have hsegS : Seg wr (.slice (some ⟨gs, 0, none⟩) 128 128) (sumL (sm M) 128) := by
            have hh := hgs
            rw [ufn_ucells] at hh
            exact seg_sec (own_bytes hh (Nat.le_refl _) (sumL_length _ _)) (sumL_length _ _)
          have hoffS : Off (fun x => u19.ownBlock = some x) (.slice (some ⟨gs, 0, none⟩) 128 128) (sumL (sm M) 128) := fun b q c hb hl hx => by
            simp only [Value.slice.injEq, Option.some.injEq] at hb
            have hx' : u19.ownBlock = some b.block := hx
            have := (HLT.out.puts.row.lt _ hx').1
            rw [← hb.1] at this
            simp only at this
            omega
          have HLS := Lib.hid (HLT.out.setRow (i := 1) rfl hpl hsegS hoffS)
          have f0 := (HLT.out.row 1 rfl).free par
          obtain ⟨u0, d0, -⟩ := (HLT.out.row 1 rfl).cell hpl
          obtain ⟨R1, HR1⟩ : ∃ R1 : Nat → List UInt8, Hid (∀ j, R1 j = if j = par then sumL (sm M) 128 else R0 j) := ⟨_, fun j => rfl⟩
          obtain ⟨ya, yc, hu19⟩ := ownsRow_shape HLT.out.puts.row
          subst hu19
          clear hgs hsegS hoffS
          have HLR : Hid (LawAt w (wr.setCell ⟨g0, par, none⟩ (.slice (some ⟨gs, 0, none⟩) 128 128)) B M (fun x => (Value.slice ya Y.length yc).ownBlock = some x) (.slice ya Y.length yc) Y [(gw, W0), (g0, R1)] [(gs, ufn (sm M) 128, 5), (gd, bcells (goneAt kk) M, 4), (w.heap.size, cgeo M, 23)]) := HLS.out.told (i := 1) (G := R1) rfl (fun j _ => HR1.out j)
          clear HLS
          by_cases hY0 : Y.length = 0
          · have hb : ((Y.length : Int) == 0) = true := by simp [hY0]
            rw [hY0] at *
            go_wp2_with (first
              | (go_at_call 27; (with_reducible refine (HKN.out _).mono ?_); rintro e w2 ⟨rfl, hb2⟩))
            go_ret
            exact ⟨rfl, below_then HLR.out.bel hb2⟩
          · as_aux_lemma =>
              have hb : ((Y.length : Int) == 0) = false := beq_eq_false_iff_ne.2 (by omega)
              have hpy : (putsOf qq dd row M).length = Y.length := by rw [← HY.out, List.length_map]
              have hddl : ∀ m, (dd m).length = 128 := fun m => by rw [HD.out m]; exact secOf_length _
              have hok := Lib.hid (puts_ok (M := M) (row := row) (k := kk) (q := qq) (dd := dd) hM3 hM16 hr40 (by rw [HPP.out, HQ.out par]; simp) (fun m _ => hddl m) (by rw [hpy]; omega))
              have hz := Lib.hid (gone_at_is kk M)
              have hYM : Y.length ≤ M := by rw [← hpy]; exact puts_few _ _ _ _
              have hpm := HY.out
              have hwd : Hid (∀ R m, m < M → wantD (putsOf qq dd row M) R m = if qq m = true then dd m else R m) := fun R m hm => puts_want R hm
              generalize putsOf qq dd row M = ps at *
              have HPY := Lib.hid hpy
              clear hpy
              have hR1l : Hid (∀ j, (R1 j).length = 128) := fun j => by
                rw [HR1.out j]
                split
                · exact sumL_length _ _
                · exact HRLEN.out j
              have hR1e : Hid (∀ i, i < 128 → xsum (fun m => (R1 m).getD i 0) M = 0) := fun i hi => by
                refine (xsum_congr (g := fun m => (wantR [] R0 par M m).getD i 0) fun m _ => ?_).trans (wantR_even [] R0 hpl i hi)
                rw [HR1.out m]
                unfold wantR
                by_cases hm : m = par
                · rw [if_pos hm, if_pos hm, sumL_at _ _ _ hi, sumL_at _ _ _ hi, HS.out]
                  rfl
                · rw [if_neg hm, if_neg hm]
                  rfl
              have hof : Hid (∀ W vd vp, BSeg W vd (goneAt kk) M → PSeg W vp ps → _) := fun W vd vp h1 h2 => plan_Of M 1 40 row vd vp (goneAt kk) ps W hok.out h1 h2 _ hz.out
              have hwk : Hid (∀ W vd vq vr vrd ls', BSeg W vd (goneAt kk) M → PSeg W vq ps → ISeg W vr (readsOf ps (parOf M 1 row) M (modeOf M ps (parOf M 1 row) (if kk < M then (kk : Int) else -1))) → Segs W vrd ls' → ls'.length = M → (∀ m ∈ readsOf ps (parOf M 1 row) M (modeOf M ps (parOf M 1 row) (if kk < M then (kk : Int) else -1)), ls'.getD m [] = R1 m) →
                  Calls Try.prog 34 #[geo M (1 : Nat) (40 : Nat), vd, planVal row (modeOf M ps (parOf M 1 row) (if kk < M then (kk : Int) else -1) : Nat) (parOf M 1 row : Nat) vq vr, vrd] W fun e w' => ∃ v X newp, e = .returned (.tuple #[v, .int .u16 0]) ∧ ORow w' W.heap.size v X ∧ (goneAt kk (parOf M 1 row) = false → newp = wantR ps R1 (parOf M 1 row) M (parOf M 1 row)) ∧ (X.map (·.1)).Perm (outPats (goneAt kk) ps (parOf M 1 row) row newp) ∧ Below W.heap.size W w') := fun W vd vq vr vrd ls' h1 h2 h3 h4 h5 h6 =>
                (plan_Work M 1 40 row vd vq vr vrd (goneAt kk) ps ls' W hok.out _ hz.out h1 h2 h3 h4 h5 (fun m hm => ⟨(reads_up hok.out hz.out hm).1, by rw [h6 m hm]; exact hR1l.out m⟩)).mono fun e w' ⟨v, X, e1, e2, e3, e4⟩ => ⟨v, X, _, e1, e2, fun hd => planned hok.out hz.out hd h6 hR1e.out, e3, e4⟩
              have hsv : Hid (kk < M → ∀ W vrd ls', Segs W vrd ls' → ls'.length = M → (∀ m, m < M → m ≠ kk → (ls'.getD m []).length = 128) → _) := fun hk W vrd ls' h1 h2 h3 => plan_Solve M 1 40 row kk vrd ls' W hok.out.hg hok.out.hr hk h1 h2 h3
              have hup := Lib.hid (fun m hm => reads_up (m := m) hok.out hz.out hm)
              have hfew := Lib.hid (reads_few hok.out (if kk < M then (kk : Int) else -1) hok.out.few)
              generalize hmd : modeOf M ps (parOf M 1 row) (if kk < M then (kk : Int) else -1) = md at *
              generalize hLe : readsOf ps (parOf M 1 row) M md = L at *
              rw [HPP.out] at hof hwk
              have hgeo : Hid (geo M (1 : Nat) (40 : Nat) = .agg #[.int .i64 M, .int .i64 1, .int .i64 40]) := rfl
              simp only [hgeo.out] at hof hwk hsv
              unfold planVal at hwk
              have hg0lt := HLT.out.row 1 rfl
              have hgg1 := (HLR.out.keep 2 rfl)
              have c0 := hgg1.cell 0
              have c1 := hgg1.cell 1
              have c2 := hgg1.cell 2
              have HBS := Lib.hid (bseg_of_at (HLR.out.keep 1 rfl))
              have HPS : Hid (PSeg (wr.setCell ⟨g0, par, none⟩ (.slice (some ⟨gs, 0, none⟩) 128 128)) (.slice ya Y.length yc) ps) := by
                have := HLR.out.puts.pseg (by omega)
                rw [hpm] at this
                exact this
              clear hgg1 hg0lt HLT
              have hLM : L.length ≤ 16 := by have := hfew.out; omega
              go_wp2_with (first
                | (go_at_call 32; (with_reducible refine (hof.out _ _ _ HBS.out HPS.out).mono ?_); rintro e wo ⟨vq, vr, dv, rfl, hpr, hri, hbo⟩; obtain ⟨qa, qc, rfl⟩ := ownsRow_shape hpr.row; obtain ⟨ra, rc, rfl⟩ := ownsRow_shape hri; have hal : Below wo.heap.size wo (wo.alloc (.cells #[.int .i64 row, .int .u8 md, .int .i64 par, .slice qa ps.length qc, .slice ra L.length rc] 77)) := (Below.refl _ _).alloc (Nat.le_refl _) _; have HLO := Lib.hid ((HLR.out.below hbo).newKept (g := wo.heap.size) (cs := #[.int .i64 row, .int .u8 md, .int .i64 par, .slice qa ps.length qc, .slice ra L.length rc]) (t := 77) hal (At.new _ _ _) (Nat.le_refl _) (by decide) (by decide)); have HPR := Lib.hid (hpr.below hal); have HRI := Lib.hid (ownsRow_below hri hal (Nat.le_refl _)); clear hpr hri hbo hal HLR)
                | (go_at_call 27; (with_reducible refine (HKN.out _).mono ?_); rintro e wk ⟨rfl, hbk⟩; have HLK := Lib.hid (HLO.out.below hbk); have HPR2 := Lib.hid (HPR.out.below hbk); have HRI2 := Lib.hid (ownsRow_below HRI.out hbk (Nat.le_refl _)); clear hbk HPR HRI HLO)
                | (refine wpList_make_zero rfl _ _ 51 34 24 rfl slice_rowsB (.slice none 0 0) (by kernel_rfl) rfl (fun _ => .slice none 0 0) _ _ _ _ M rfl rfl rfl rfl (by omega) (by unfold maxLen; omega) ?_; intro wm a4 b4; have HLM := Lib.hid (HLK.out.newRow b4 a4); have HPR3 := Lib.hid (HPR2.out.below b4); have HRI3 := Lib.hid (ownsRow_below HRI2.out b4 (Nat.le_refl _)); clear HLK HPR2 HRI2 a4 b4))
              clear c0 c1 c2 f0 d0 hof HBS HPS
              have hrw : wk.heap.size ≠ gw := List.rel_of_pairwise_cons HLM.out.rsep List.mem_cons_self
              have hr0 : wk.heap.size ≠ g0 := List.rel_of_pairwise_cons HLM.out.rsep (List.mem_cons_of_mem _ List.mem_cons_self)
              generalize wk.heap.size = gr at *
              generalize wo.heap.size = gp at *
              generalize (wr.setCell ⟨g0, par, none⟩ (.slice (some ⟨gs, 0, none⟩) 128 128)).heap.size = bO at *
              go_loopw [27] (fun q wx => ∃ i : Nat, i ≤ L.length ∧ q = .int .i64 i ∧ LawAt w wx B M (fun x => (Value.slice ya Y.length yc).ownBlock = some x) (.slice ya Y.length yc) Y [(gr, fun j => if j ∈ L.take i then R1 j else []), (gw, W0), (g0, R1)] [(gp, #[.int .i64 row, .int .u8 md, .int .i64 par, .slice qa ps.length qc, .slice ra L.length rc], 77), (gs, ufn (sm M) 128, 5), (gd, bcells (goneAt kk) M, 4), (w.heap.size, cgeo M, 23)] ∧ PRow wx bO (.slice qa ps.length qc) ps ps.length dv ∧ wx.ownsRow bO 3 1 (.slice ra L.length rc) L.length (mcells L)) (fun q _ => L.length - (intOf q).toNat)
              case atStart =>
                refine ⟨0, by omega, rfl, ?_, HPR3.out, HRI3.out⟩
                have e1 : (fun j => if j ∈ L.take 0 then R1 j else []) = fun _ => [] := by funext j; simp
                rw [e1]
                exact HLM.out
              case round =>
                obtain ⟨i, hi, rfl, hLx, hPx, hRx⟩ := hrel
                have HLX := Lib.hid hLx
                have HPX := Lib.hid hPx
                have HRX := Lib.hid hRx
                clear hLx hPx hRx HLM HPR3 HRI3
                have p4 := (HLX.out.keep 0 rfl).cell 4
                by_cases hi2 : i < L.length
                · as_aux_lemma =>
                    have I1 : Hid (i + 1 ≤ L.length) := hi2
                    obtain ⟨vg, vcap, hve, -, hvl, hvc, -⟩ := ownsRow_cell HRX.out (by omega)
                    simp only [Value.slice.injEq] at hve
                    obtain ⟨rfl, -, rfl⟩ := hve
                    have d1 := hvc i hi2
                    rw [mcells_at L i hi2] at d1
                    have hmem := List.getElem_mem hi2
                    obtain ⟨hm1, hm2⟩ := hup.out _ hmem
                    have HTK : Hid (∀ q, q ∈ L.take (i + 1) ↔ (q = L[i] ∨ q ∈ L.take i)) := fun q => by
                      rw [List.take_succ_eq_append_getElem hi2, List.mem_append, List.mem_singleton]
                      exact or_comm
                    generalize hmi : L[i] = m at *
                    have hm0 : (0 : Int) ≤ (m : Int) := Int.natCast_nonneg _
                    have e1 : wr.cell? ⟨gd, m, none⟩ = some (.bool false) := by rw [(HLX.out.keep 2 rfl).cell, bcells_at _ _ _ hm1, hm2]
                    obtain ⟨u, e2, hu, ho⟩ := (HLX.out.row 2 rfl).cell hm1
                    have f0 := (HLX.out.row 0 rfl).free m
                    obtain ⟨u0, e3, -⟩ := (HLX.out.row 0 rfl).cell hm1
                    have HST := Lib.hid (HLX.out.setRow (i := 0) rfl hm1 hu ho)
                    obtain ⟨cs, hat⟩ := LawAt.at_row (HLX.out.row 0 rfl)
                    have hch : Chg (fun z => z = gr) wr (wr.setCell ⟨gr, m, none⟩ u) := Chg.setCell (S := fun z => z = gr) (Chg.refl _ _) ⟨gr, m, none⟩ (.inl rfl) _
                    have HP4 := Lib.hid (HPX.out.mod hch (fun z hz e => own_ne_at HPX.out.row hat (by decide) (e ▸ hz)) (fun j hj z hz e => own_ne_at (HPX.out.dat j hj) hat (by decide) (e ▸ hz)))
                    have HR4 := Lib.hid (ownsRow_mod HRX.out hch (fun z hz e => own_ne_at HRX.out hat (by decide) (e ▸ hz)))
                    have hushape : ∃ ua uc, u = .slice ua (R1 m).length uc := hu.shape
                    clear hvc hmem hu ho hat hch hmi hm2
                    obtain ⟨ua, uc, rfl⟩ := hushape
                    go_wp2_with fail
                    refine ⟨⟨i + 1, I1.out, by go_num, ?_, HP4.out, HR4.out⟩, by simp [intOf]; omega⟩
                    refine HST.out.told (i := 0) (G := fun j => if j ∈ L.take (i + 1) then R1 j else []) rfl (fun j hj => ?_)
                    show (if j ∈ L.take (i + 1) then R1 j else []) = if j = m then R1 m else if j ∈ L.take i then R1 j else []
                    by_cases h1 : j = m
                    · rw [if_pos ((HTK.out j).2 (.inl h1)), if_pos h1, h1]
                    · rw [if_neg h1]
                      by_cases h2 : j ∈ L.take i
                      · rw [if_pos ((HTK.out j).2 (.inr h2)), if_pos h2]
                      · rw [if_neg (fun h => by rcases (HTK.out j).1 h with e | e; exact h1 e; exact h2 e), if_neg h2]
                · as_aux_lemma =>
                    obtain rfl : i = L.length := by omega
                    have HSG := Lib.hid (HLX.out.row 0 rfl).segs
                    have hlen : ((List.range M).map fun j => if j ∈ L.take L.length then R1 j else []).length = M := by simp
                    have HMM : Hid (∀ m ∈ L, ((List.range M).map fun j => if j ∈ L.take L.length then R1 j else []).getD m [] = R1 m) := fun m hm => by
                      rw [rows_getD _ (hup.out m hm).1, List.take_length, if_pos hm]
                    have HPSQ := Lib.hid (HPX.out.pseg (by have := HPY.out; omega))
                    have HISQ := Lib.hid (iseg_of_members HRX.out)
                    have HBS2 := Lib.hid (bseg_of_at (HLX.out.keep 2 rfl))
                    have hpl0 := HLX.out.keep 0 rfl
                    have p0 := hpl0.cell 0
                    have p1 := hpl0.cell 1
                    have p2 := hpl0.cell 2
                    have p3 := hpl0.cell 3
                    have hgg1 := HLX.out.keep 3 rfl
                    have c0 := hgg1.cell 0
                    have c1 := hgg1.cell 1
                    have c2 := hgg1.cell 2
                    have HLEN := Lib.hid hlen
                    clear hpl0 hgg1 hlen
                    go_wp2_with (first
                      | (go_at_call 34; (with_reducible refine (hwk.out _ _ _ _ _ _ HBS2.out HPSQ.out HISQ.out HSG.out HLEN.out HMM.out).mono ?_); rintro e ww ⟨vl, XL, newp, rfl, hol, hnp, hperm, hbw⟩; obtain ⟨la, lc, rfl⟩ := ownsRow_shape hol.row; have HLW := Lib.hid (HLX.out.below hbw); have HOL := Lib.hid hol; have HNP := Lib.hid hnp; have HPM := Lib.hid hperm; clear hol hnp hperm hbw)
                      | (refine wpList_make_zero rfl _ _ 51 34 24 rfl slice_rowsB (.slice none 0 0) (by kernel_rfl) rfl (fun _ => .slice none 0 0) _ _ _ _ M rfl rfl rfl rfl (by omega) (by unfold maxLen; omega) ?_; intro wn a4 b4; have HLN := Lib.hid (HLW.out.newRow b4 a4); have HOL2 := Lib.hid (HOL.out.below b4); clear HLW HOL a4 b4))
                    have HZB : Hid (∀ k, (fun x => (Value.slice ya Y.length yc).ownBlock = some x) k → k < wr.heap.size) := fun k hk => (HLX.out.xin k hk).2
                    clear c0 c1 c2 p0 p1 p2 p3 p4 hwk HSG HPSQ HISQ HBS2 HLX HPX HRX HMM HLEN
                    have hnr : ww.heap.size ≠ gr := List.rel_of_pairwise_cons HLN.out.rsep List.mem_cons_self
                    have hnw : ww.heap.size ≠ gw := List.rel_of_pairwise_cons HLN.out.rsep (List.mem_cons_of_mem _ List.mem_cons_self)
                    have hn0 : ww.heap.size ≠ g0 := List.rel_of_pairwise_cons HLN.out.rsep (List.mem_cons_of_mem _ (List.mem_cons_of_mem _ List.mem_cons_self))
                    generalize ww.heap.size = gn at *
                    generalize wr.heap.size = bL at *
                    go_loopw [32] (fun q wx => ∃ i : Nat, i ≤ M ∧ q = .int .i64 i ∧ LawAt w wx B M (fun x => (Value.slice ya Y.length yc).ownBlock = some x) (.slice ya Y.length yc) Y [(gn, fun j => if j < i then R1 j else []), (gr, fun j => if j ∈ L.take L.length then R1 j else []), (gw, W0), (g0, R1)] [(gp, #[.int .i64 row, .int .u8 md, .int .i64 par, .slice qa ps.length qc, .slice ra L.length rc], 77), (gs, ufn (sm M) 128, 5), (gd, bcells (goneAt kk) M, 4), (w.heap.size, cgeo M, 23)] ∧ ORow wx bL (.slice la XL.length lc) XL) (fun q _ => M - (intOf q).toNat)
                    case atStart =>
                      refine ⟨0, by omega, rfl, ?_, HOL2.out⟩
                      have e1 : (fun j => if j < 0 then R1 j else []) = fun _ => [] := by funext j; rw [if_neg (by omega)]
                      rw [e1]
                      exact HLN.out
                    case round =>
                      obtain ⟨i, hi', rfl, hLy, hOy⟩ := hrel
                      have HLY := Lib.hid hLy
                      have HOY := Lib.hid hOy
                      clear hLy hOy HLN HOL2
                      by_cases hi3 : i < M
                      · as_aux_lemma =>
                          have I1 : Hid (i + 1 ≤ M) := hi3
                          obtain ⟨u, e2, hu, ho⟩ := (HLY.out.row 3 rfl).cell hi3
                          have f0 := (HLY.out.row 0 rfl).free i
                          obtain ⟨u0, e3, -⟩ := (HLY.out.row 0 rfl).cell hi3
                          have HST := Lib.hid (HLY.out.setRow (i := 0) rfl hi3 hu ho)
                          obtain ⟨cs, hat⟩ := LawAt.at_row (HLY.out.row 0 rfl)
                          have hch : Chg (fun z => z = gn) wr (wr.setCell ⟨gn, i, none⟩ u) := Chg.setCell (S := fun z => z = gn) (Chg.refl _ _) ⟨gn, i, none⟩ (.inl rfl) _
                          have HO4 := Lib.hid (HOY.out.mod hch (fun z hz e => own_ne_at HOY.out.row hat (by decide) (e ▸ hz)) (fun x hx z hz e => own_ne_at (HOY.out.dat x hx) hat (by decide) (e ▸ hz)))
                          have hushape : ∃ ua uc, u = .slice ua (R1 i).length uc := hu.shape
                          clear hu ho hat hch
                          obtain ⟨ua, uc, rfl⟩ := hushape
                          go_wp2_with fail
                          refine ⟨⟨i + 1, I1.out, by go_num, ?_, HO4.out⟩, by simp [intOf]; omega⟩
                          refine HST.out.told (i := 0) (G := fun j => if j < i + 1 then R1 j else []) rfl (fun j hj => ?_)
                          show (if j < i + 1 then R1 j else []) = if j = i then R1 i else if j < i then R1 j else []
                          by_cases h1 : j = i
                          · rw [if_pos (by omega), if_pos h1, h1]
                          · rw [if_neg h1]
                            by_cases h2 : j < i
                            · rw [if_pos (by omega), if_pos h2]
                            · rw [if_neg (by omega), if_neg h2]
                      · as_aux_lemma =>
                          obtain rfl : M = i := by omega
                          have hXM : ∀ i (h : i < XL.length), ∃ m : Nat, m < M ∧ XL[i].1.m = (m : Int) ∧ goneAt kk m = false ∧ XL[i].1.r = (row : Int) := fun i h => by
                            have hp := HPM.out
                            rw [← HPP.out] at hp
                            obtain ⟨m, x1, x2, x3, x4, -⟩ := out_mem hok.out R1 (hp.mem_iff.1 (List.mem_map_of_mem (f := (·.1)) (List.getElem_mem h)))
                            exact ⟨m, x1, x2, x3, x4⟩
                          have HXM := Lib.hid hXM
                          have hXf : XL.length ≤ Y.length + 1 := by
                            have h1 := HPM.out.length_eq
                            rw [List.length_map] at h1
                            have h2 := out_few (d := goneAt kk) (ps := ps) (par := par) (r := row) (newp := newp)
                            have h3 := HPY.out
                            omega
                          clear hXM
                          have HLA : Hid (LawAt w wr B M (fun x => (Value.slice ya Y.length yc).ownBlock = some x) (.slice ya Y.length yc) Y [(gn, R1), (gr, fun j => if j ∈ L.take L.length then R1 j else []), (gw, W0), (g0, R1)] [(gp, #[.int .i64 row, .int .u8 md, .int .i64 par, .slice qa ps.length qc, .slice ra L.length rc], 77), (gs, ufn (sm M) 128, 5), (gd, bcells (goneAt kk) M, 4), (w.heap.size, cgeo M, 23)]) := HLY.out.told (i := 0) (G := R1) rfl (fun j hj => by show _ = if j < M then _ else _; rw [if_pos hj])
                          clear HLY
                          go_wp2_with fail
                          go_loopw [33] (fun q wx => ∃ i : Nat, i ≤ XL.length ∧ q = .int .i64 i ∧ LawAt w wx B M (fun x => (Value.slice ya Y.length yc).ownBlock = some x) (.slice ya Y.length yc) Y [(gn, layX R1 ((XL.map (·.1)).take i)), (gr, fun j => if j ∈ L.take L.length then R1 j else []), (gw, W0), (g0, R1)] [(gp, #[.int .i64 row, .int .u8 md, .int .i64 par, .slice qa ps.length qc, .slice ra L.length rc], 77), (gs, ufn (sm M) 128, 5), (gd, bcells (goneAt kk) M, 4), (w.heap.size, cgeo M, 23)] ∧ ORow wx bL (.slice la XL.length lc) XL) (fun q _ => XL.length - (intOf q).toNat)
                          case atStart => exact ⟨0, by omega, rfl, HLA.out.told (i := 0) (G := layX R1 ((XL.map (·.1)).take 0)) rfl (fun j _ => rfl), HOY.out⟩
                          case round =>
                            obtain ⟨i, hi', rfl, hLz, hOz⟩ := hrel
                            have HLZ := Lib.hid hLz
                            have HOZ := Lib.hid hOz
                            clear hLz hOz HLA HOY
                            by_cases hi2 : i < XL.length
                            · as_aux_lemma =>
                                have I1 : Hid (i + 1 ≤ XL.length) := hi2
                                obtain ⟨lg, lcap, hve, -, hlg⟩ := ownsRow_full HOZ.out.row (by omega)
                                simp only [Value.slice.injEq] at hve
                                obtain ⟨rfl, -, rfl⟩ := hve
                                obtain ⟨m, hm1, hm2, hm3, hm4⟩ := HXM.out i hi2
                                have ex : XL.getD i op0 = (XL[i]'hi2) := by rw [List.getD_eq_getElem?_getD, List.getElem?_eq_getElem hi2]; rfl
                                have c0 : wr.cell? ⟨lg, i * 3, none⟩ = some (.int .i64 (m : Int)) := by
                                  have := own_cell3 HOZ.out.row (fun k => rfl) i 0 hi2 (by omega)
                                  rw [Nat.add_zero] at this
                                  rw [this, ex, ← hm2]; rfl
                                have c1 : wr.cell? ⟨lg, i * 3 + 1, none⟩ = some (.int .i64 (row : Int)) := by
                                  rw [own_cell3 HOZ.out.row (fun k => rfl) i 1 hi2 (by omega), ex, ← hm4]; rfl
                                have c2 : wr.cell? ⟨lg, i * 3 + 2, none⟩ = some (XL[i]'hi2).2 := by
                                  rw [own_cell3 HOZ.out.row (fun k => rfl) i 2 hi2 (by omega), ex]; rfl
                                have hdat := HOZ.out.dat _ (List.getElem_mem hi2)
                                have hdl := HOZ.out.len _ (List.getElem_mem hi2)
                                obtain ⟨xa, xc, hxs⟩ := ownsRow_shape hdat
                                rw [hxs] at c2
                                have e1 : wr.cell? ⟨gd, m, none⟩ = some (.bool false) := by rw [(HLZ.out.keep 2 rfl).cell, bcells_at _ _ _ hm1, hm3]
                                have f0 := (HLZ.out.row 0 rfl).free m
                                obtain ⟨u0, e3, -⟩ := (HLZ.out.row 0 rfl).cell hm1
                                have hst := HLZ.out.setRow (i := 0) rfl hm1 (seg_sec hdat hdl) (Off.own hdat fun k hk => HZB.out k hk)
                                rw [hxs] at hst
                                have HST := Lib.hid hst
                                obtain ⟨cs, hat⟩ := LawAt.at_row (HLZ.out.row 0 rfl)
                                have hch : Chg (fun z => z = gn) wr (wr.setCell ⟨gn, m, none⟩ (.slice xa 128 xc)) := Chg.setCell (S := fun z => z = gn) (Chg.refl _ _) ⟨gn, m, none⟩ (.inl rfl) _
                                have HO4 := Lib.hid (HOZ.out.mod hch (fun z hz e => own_ne_at HOZ.out.row hat (by decide) (e ▸ hz)) (fun x hx z hz e => own_ne_at (HOZ.out.dat x hx) hat (by decide) (e ▸ hz)))
                                have HTK : Hid ((XL.map (·.1)).take (i + 1) = (XL.map (·.1)).take i ++ [(XL[i]'hi2).1]) := by
                                  rw [List.take_succ_eq_append_getElem (show i < (XL.map (·.1)).length by rw [List.length_map]; exact hi2)]
                                  exact congrArg (fun z => (XL.map (·.1)).take i ++ [z]) (List.getElem_map _)
                                have HM2 := Lib.hid hm2
                                have hm0 : (0 : Int) ≤ (m : Int) := Int.natCast_nonneg _
                                have b1 : decide ((m : Int) < 0) = false := decide_eq_false (by omega)
                                have b2 : decide ((M : Int) ≤ (m : Int)) = false := decide_eq_false (by omega)
                                have b3 : ((row : Int) != (row : Int)) = false := by simp
                                clear hst hat hch hxs hdat hdl hm2 hm3 hm4 ex hlg
                                generalize (XL[i]'hi2).1 = xp at *
                                go_wp2_with fail
                                go_region
                                go_wp2_with fail
                                refine ⟨⟨i + 1, I1.out, by go_num, ?_, HO4.out.below (Below.refl _ _).drew⟩, by simp [intOf]; omega⟩
                                rw [HTK.out]
                                refine (HST.out.below (Below.refl _ _).drew).told (i := 0) rfl (fun j hj => ?_)
                                rw [layX_snoc, HM2.out]
                                show (if ((j : Nat) : Int) = ((m : Nat) : Int) then xp.d else _) = if j = m then xp.d else _
                                by_cases hjm : j = m
                                · rw [if_pos hjm, if_pos (by rw [hjm])]
                                · rw [if_neg hjm, if_neg (by omega)]
                            · as_aux_lemma =>
                                obtain rfl : i = XL.length := by omega
                                have HLF : Hid (LawAt w wr B M (fun x => (Value.slice ya Y.length yc).ownBlock = some x) (.slice ya Y.length yc) Y [(gn, layX R1 (XL.map (·.1))), (gr, fun j => if j ∈ L.take L.length then R1 j else []), (gw, W0), (g0, R1)] [(gp, #[.int .i64 row, .int .u8 md, .int .i64 par, .slice qa ps.length qc, .slice ra L.length rc], 77), (gs, ufn (sm M) 128, 5), (gd, bcells (goneAt kk) M, 4), (w.heap.size, cgeo M, 23)]) := by
                                  have := HLZ.out
                                  rw [List.take_of_length_le (by rw [List.length_map]; exact Nat.le_refl _)] at this
                                  exact this
                                have hlw : Hid (∀ j, goneAt kk j = false → layX R1 (XL.map (·.1)) j = wantR ps R1 par M j) := fun j hj => by
                                  have hp := HPM.out
                                  have hn := HNP.out
                                  rw [← HPP.out] at hp hn ⊢
                                  exact laid_want hok.out hn hp hj
                                clear HLZ HOZ
                                go_upto_if 296 with fail
                                go_cut [] from 294 to 315 (fun wx => LawAt w wx B M (fun x => (Value.slice ya Y.length yc).ownBlock = some x) (.slice ya Y.length yc) Y [(gn, wantR ps R1 par M), (gr, fun j => if j ∈ L.take L.length then R1 j else []), (gw, W0), (g0, R1)] [(gp, #[.int .i64 row, .int .u8 md, .int .i64 par, .slice qa ps.length qc, .slice ra L.length rc], 77), (gs, ufn (sm M) 128, 5), (gd, bcells (goneAt kk) M, 4), (w.heap.size, cgeo M, 23)])
                                case first =>
                                  by_cases hkM : kk < M
                                  · have hgg1 := HLF.out.keep 3 rfl
                                    have c0 := hgg1.cell 0
                                    have c1 := hgg1.cell 1
                                    have c2 := hgg1.cell 2
                                    have hlen : ((List.range M).map (layX R1 (XL.map (·.1)))).length = M := by simp
                                    have hwl : ∀ j, (wantR ps R1 par M j).length = 128 := fun j => wantR_len hok.out.len fun _ => hR1l.out j
                                    have hl3 : Hid (∀ m, m < M → m ≠ kk → (((List.range M).map (layX R1 (XL.map (·.1)))).getD m []).length = 128) := fun m hm hmk => by
                                      rw [rows_getD _ hm, hlw.out m (by unfold goneAt; simp [hmk])]
                                      exact hwl m
                                    have HSG := Lib.hid (HLF.out.row 0 rfl).segs
                                    have HLEN := Lib.hid hlen
                                    have hsol : Hid (sumL (xorBut (fun m => ((List.range M).map (layX R1 (XL.map (·.1)))).getD m []) kk M) 128 = wantR ps R1 par M kk) := by
                                      refine solved hkM (F := wantR ps R1 par M) (fun i hi => wantR_even ps R1 hpl i hi) (fun m hm hmk => ?_) (hwl kk)
                                      show ((List.range M).map (layX R1 (XL.map (·.1)))).getD m [] = _
                                      rw [rows_getD _ hm, hlw.out m (by unfold goneAt; simp [hmk])]
                                    clear hgg1 hlen hwl
                                    go_wp2_with (first
                                      | (go_at_call 35; (with_reducible refine (hsv.out hkM _ _ _ HSG.out HLEN.out hl3.out).mono ?_); rintro e ws ⟨vx, rfl, hox, hbs⟩; rw [hsol.out] at hox; obtain ⟨xa, xc, rfl⟩ := ownsRow_shape hox; have HLG := Lib.hid (HLF.out.below hbs); have HOX := Lib.hid hox; have f0 := (HLG.out.row 0 rfl).free kk; obtain ⟨u0, e3, -⟩ := (HLG.out.row 0 rfl).cell hkM; clear hox hbs))
                                    go_meet
                                    refine (HLG.out.setRow (i := 0) rfl hkM (seg_sec HOX.out (wantR_len hok.out.len fun _ => hR1l.out kk)) (HLF.out.offNew HOX.out)).told (i := 0) (G := wantR ps R1 par M) rfl (fun j hj => ?_)
                                    show wantR ps R1 par M j = if j = kk then wantR ps R1 par M kk else layX R1 (XL.map (·.1)) j
                                    by_cases hjk : j = kk
                                    · rw [if_pos hjk, hjk]
                                    · rw [if_neg hjk, hlw.out j (by unfold goneAt; simp [hjk])]
                                  · go_wp2_with fail
                                    go_meet
                                    exact HLF.out.told (i := 0) (G := wantR ps R1 par M) rfl (fun j hj => (hlw.out j (by unfold goneAt; simp; omega)).symm)
                                case rest =>
                                  have HLV := Lib.hid hcut
                                  clear hcut HLF hlw hsv
                                  have hWl : ∀ j, (wantR ps R1 par M j).length = 128 := fun j => wantR_len hok.out.len fun _ => hR1l.out j
                                  have hWE : ∀ j, j < M → j ≠ par → wantR ps R1 par M j = W0 j := fun j hj hp => by
                                    unfold wantR
                                    rw [if_neg hp, hwd.out R1 j hj, HW.out j, HR1.out j, if_neg hp]
                                  have hWv : ∀ i, i < 128 → xsum (fun m => (wantR ps R1 par M m).getD i 0) M = 0 := fun i hi => wantR_even ps R1 hpl i hi
                                  generalize wantR ps R1 par M = WR at *
                                  have HWL := Lib.hid hWl
                                  have HWE := Lib.hid hWE
                                  have HWV := Lib.hid hWv
                                  clear hWl hWE hWv
                                  obtain ⟨tot, HT⟩ : ∃ tot : Nat → Nat → UInt8, Hid (∀ k i, tot k i = xsum (fun m => (WR m).getD i 0) k) := ⟨_, fun k i => rfl⟩
                                  have hYg : ∀ x ∈ Y, ∀ z, x.2.ownBlock = some z → z ≠ wc.heap.size := fun x hx z hz e => by
                                    have := ((HLV.out.puts.dat x hx).lt z hz).2
                                    omega
                                  have HYG := Lib.hid hYg
                                  clear hYg
                                  go_wp2_with (first
                                    | (refine wpList_make_same rfl _ _ 34 5 1 1 rfl slice_bytes (.int .u8 0) (by kernel_rfl) _ _ _ _ 128 rfl rfl rfl rfl (by omega) (by unfold maxLen; omega) ?_; intro wt a6 b6; rw [zero_ufn] at a6; have HLT := Lib.hid (HLV.out.newHeld b6 a6 (Nat.le_refl _) (by decide) (by decide)); clear a6 b6 HLV))
                                  have hgn : Hid (∀ wx Z' KS', LawAt w wx B M Z' (.slice ya Y.length yc) Y [(gn, WR), (gr, fun j => if j ∈ L.take L.length then R1 j else []), (gw, W0), (g0, R1)] KS' → ∀ k, k < M → ∃ b o c, wx.cell? ⟨gn, k, none⟩ = some (.slice (some ⟨b, o, none⟩) 128 c) ∧ ∀ i : Nat, i < 128 → wx.cell? ⟨b, o + i, none⟩ = some (.int .u8 ((((WR k).getD i 0).toNat : Nat) : Int))) := fun wx Z' KS' h k hkn => by
                                    obtain ⟨u4, d4, hu4, -⟩ := (h.row 0 rfl).cell hkn
                                    obtain ⟨b, o, c, rfl, hlt, hx⟩ := hu4.full (by rw [HWL.out]; omega)
                                    rw [HWL.out] at d4
                                    refine ⟨b, o, c, d4, fun i hi => ?_⟩
                                    rw [hx i (by rw [HWL.out]; exact hi), List.getD_eq_getElem?_getD, List.getElem?_eq_getElem (by rw [HWL.out]; exact hi)]
                                    rfl
                                  generalize wc.heap.size = gt at *
                                  go_loopw [37] (fun q wx => ∃ k : Nat, k ≤ M ∧ q = .int .i64 k ∧ LawAt w wx B M (fun x => (Value.slice ya Y.length yc).ownBlock = some x ∨ x = gt) (.slice ya Y.length yc) Y [(gn, WR), (gr, fun j => if j ∈ L.take L.length then R1 j else []), (gw, W0), (g0, R1)] [(gt, ufn (tot k) 128, 5), (gp, #[.int .i64 row, .int .u8 md, .int .i64 par, .slice qa ps.length qc, .slice ra L.length rc], 77), (gs, ufn (sm M) 128, 5), (gd, bcells (goneAt kk) M, 4), (w.heap.size, cgeo M, 23)]) (fun q _ => M - (intOf q).toNat)
                                  case atStart =>
                                    refine ⟨0, by omega, rfl, ?_⟩
                                    rw [ufn_eq (g := fun _ => 0) (fun i _ => HT.out 0 i)]
                                    exact HLT.out
                                  case round =>
                                    obtain ⟨k, hk', rfl, hLq⟩ := hrel
                                    have HLQ := Lib.hid hLq
                                    clear hLq HLT
                                    by_cases hkM : k < M
                                    · as_aux_lemma =>
                                        have K1 : Hid (k + 1 ≤ M) := hkM
                                        go_wp2_with fail
                                        go_loopw [38] (fun q wx => ∃ i : Nat, i ≤ 128 ∧ q = .int .i64 i ∧ LawAt w wx B M (fun x => (Value.slice ya Y.length yc).ownBlock = some x ∨ x = gt) (.slice ya Y.length yc) Y [(gn, WR), (gr, fun j => if j ∈ L.take L.length then R1 j else []), (gw, W0), (g0, R1)] [(gt, ufn (fun j => if j < i then tot k j ^^^ (WR k).getD j 0 else tot k j) 128, 5), (gp, #[.int .i64 row, .int .u8 md, .int .i64 par, .slice qa ps.length qc, .slice ra L.length rc], 77), (gs, ufn (sm M) 128, 5), (gd, bcells (goneAt kk) M, 4), (w.heap.size, cgeo M, 23)]) (fun q _ => 128 - (intOf q).toNat)
                                        case atStart =>
                                          refine ⟨0, by omega, rfl, ?_⟩
                                          rw [ufn_eq (g := tot k) (fun i _ => if_neg (by omega))]
                                          exact HLQ.out
                                        case round =>
                                          obtain ⟨i, hi, rfl, hLI⟩ := hrel
                                          have HLI := Lib.hid hLI
                                          clear hLI HLQ
                                          by_cases hi2 : i < 128
                                          · have I1 : Hid (i + 1 ≤ 128) := hi2
                                            obtain ⟨b, o, c, e0, e1⟩ := hgn.out wr _ _ HLI.out k hkM
                                            have e2 := e1 i hi2
                                            have hks := HLI.out.keep 0 rfl
                                            have e3 : wr.cell? ⟨gt, i, none⟩ = some (.int .u8 (((tot k i).toNat : Nat) : Int)) := by rw [hks.cell, ufn_at _ _ _ hi2, if_neg (by omega)]
                                            have f4 := hks.free i
                                            have hx := bits_xor8 (tot k i) ((WR k).getD i 0)
                                            have HSET := Lib.hid (HLI.out.setKept' (i := 0) rfl (.inr rfl) HYG.out i (.int .u8 (((tot k i ^^^ (WR k).getD i 0).toNat : Nat) : Int)))
                                            clear hks e1
                                            have HXX : Hid (tot k i ^^^ (WR k).getD i 0 = tot k i ^^^ (WR k).getD i 0) := rfl
                                            generalize hz : tot k i ^^^ (WR k).getD i 0 = zz at *
                                            have HZ := Lib.hid hz
                                            clear hz HXX
                                            generalize (((tot k i).toNat : Nat) : Int) = y1 at *
                                            generalize ((((WR k).getD i 0).toNat : Nat) : Int) = y2 at *
                                            go_wp2
                                            go_region
                                            go_wp2
                                            go_roundw
                                            case rel =>
                                              refine ⟨i + 1, I1.out, by go_num, ?_⟩
                                              have h := HSET.out.below (Below.refl _ _).drew
                                              rw [← ufn_set (fun j => if j < i then tot k j ^^^ (WR k).getD j 0 else tot k j) _ 128 i zz (fun j _ => ?_)]
                                              · exact h
                                              · show (if j < i + 1 then tot k j ^^^ (WR k).getD j 0 else tot k j) = _
                                                by_cases hji : j = i
                                                · subst hji; rw [if_pos (by omega), if_pos rfl, HZ.out]
                                                · rw [if_neg hji]
                                                  show _ = if j < i then tot k j ^^^ (WR k).getD j 0 else tot k j
                                                  by_cases h3 : j < i
                                                  · rw [if_pos (by omega), if_pos h3]
                                                  · rw [if_neg (by omega), if_neg h3]
                                            case measure => simp [intOf]; omega
                                          · obtain rfl : i = 128 := by omega
                                            have hS1 : ufn (fun j => if j < 128 then tot k j ^^^ (WR k).getD j 0 else tot k j) 128 = ufn (tot (k + 1)) 128 := ufn_eq fun j hj => by
                                              rw [if_pos hj, HT.out k, HT.out (k + 1)]
                                              rfl
                                            have hLJ := HLI.out
                                            rw [hS1] at hLJ
                                            have HLJ := Lib.hid hLJ
                                            clear hLJ HLI hS1
                                            by_cases hkp : k = par
                                            · have hb : ((k : Int) != (par : Int)) = false := by simp [hkp]
                                              clear hkp
                                              go_wp2_with fail
                                              go_quiet (fail)
                                              go_wp2_with fail
                                              refine ⟨⟨k + 1, K1.out, by go_num, HLJ.out.below (below_drewN (Below.refl _ _) _)⟩, by simp [intOf]; omega⟩
                                            · have hb : ((k : Int) != (par : Int)) = true := by simp; omega
                                              obtain ⟨u, c0, hu, -⟩ := (HLJ.out.row 0 rfl).cell hkM
                                              obtain ⟨v, d0, hv, -⟩ := (HLJ.out.row 2 rfl).cell hkM
                                              have hWk := HWE.out k hkM hkp
                                              have hWl := HWL.out k
                                              rw [← hWk] at hv
                                              have HC : Hid (∀ W, Below wr.heap.size wr W → Calls Try.prog 19 #[u, v] W fun e w' => e = .returned (.bool true) ∧ Below W.heap.size W w') := fun W hW => (same_any u v (WR k) (WR k) W (by omega) (by omega) (hu.below hW) (hv.below hW)).mono fun e w' ⟨x1, x2⟩ => ⟨by rw [x1]; simp, x2⟩
                                              obtain ⟨ua, uc, rfl⟩ := hu.shape
                                              obtain ⟨xa, xc, rfl⟩ := hv.shape
                                              have hltn := (HLJ.out.row 0 rfl).lt
                                              have hltw := (HLJ.out.row 2 rfl).lt
                                              have hcut : Hid (∀ X, Below wr.heap.size wr X → X.cell? ⟨gn, k, none⟩ = some (.slice ua (WR k).length uc) ∧ X.cell? ⟨gw, k, none⟩ = some (.slice xa (WR k).length xc)) := fun X hX =>
                                                ⟨(hX.cell (p := ⟨gn, k, none⟩) hltn).trans c0, (hX.cell (p := ⟨gw, k, none⟩) hltw).trans d0⟩
                                              clear hu hv hWk hWl hkp c0 d0 hltn hltw
                                              generalize (WR k).length = n at *
                                              go_wp2_with fail
                                              go_region_held3 (fun w' => w'.cell? ⟨gn, k, none⟩ = some (.slice ua n uc) ∧ w'.cell? ⟨gw, k, none⟩ = some (.slice xa n xc))
                                                (first | exact hcut.out _ (Below.refl _ _) | exact hcut.out _ (Below.refl _ _).drew | exact hcut.out _ HB2.out)
                                                (first | (go_at_call 19; (with_reducible refine (HC.out _ (Below.refl _ _).drew).mono ?_); rintro e w2 ⟨rfl, hb2⟩; have HB2 := Lib.hid ((Below.refl _ _).drew.trans hb2); clear hb2))
                                              go_wp2_with fail
                                              refine ⟨⟨k + 1, K1.out, by go_num, HLJ.out.below HB2.out⟩, by simp [intOf]; omega⟩
                                    · obtain rfl : M = k := by omega
                                      have hz0 : ufn (tot M) 128 = ufn (fun _ => 0) 128 := ufn_eq fun i hi => by rw [HT.out, HWV.out i hi]
                                      have hLf := HLQ.out
                                      rw [hz0] at hLf
                                      have HLf := Lib.hid hLf
                                      have p4 := (hLf.keep 1 rfl).cell 4
                                      clear hLf HLQ hz0
                                      have hzl : (sumL (fun _ => 0) 128).length = 128 := sumL_length _ _
                                      have HSB : Hid (∀ u v W, Seg W u (sumL (fun _ => 0) 128) → Seg W v (sumL (fun _ => 0) 128) → Calls Try.prog 19 #[u, v] W fun e w' => e = .returned (.bool true) ∧ Below W.heap.size W w') := fun u v W h1 h2 => (same_any u v _ _ W (by omega) (by omega) h1 h2).mono fun e w' ⟨x1, x2⟩ => ⟨by rw [x1]; simp, x2⟩
                                      have HSA : Hid (∀ W g, At W g (ufn (fun _ => 0) 128) 5 → Seg W (.slice (some ⟨g, 0, none⟩) 128 128) (sumL (fun _ => 0) 128)) := fun W g hA => by
                                        rw [ufn_ucells] at hA
                                        exact seg_sec (own_bytes hA (Nat.le_refl _) hzl) hzl
                                      have b1 : decide ((XL.length : Int) ≤ (Y.length : Int) + 1) = true := decide_eq_true (by omega)
                                      have b2 : decide ((L.length : Int) < (M : Int)) = true := decide_eq_true (by have := hfew.out; omega)
                                      clear hzl
                                      go_wp2_with (first
                                        | (refine wpList_make_want (by rfl) _ _ 34 5 1 1 rfl slice_bytes (.int .u8 0) (by kernel_rfl) _ _ _ _ 128 rfl rfl rfl rfl (by omega) (by unfold maxLen; omega) ?_; intro w12 a12 b12; rw [zero_ufn] at a12; have HS1 := Lib.hid (HSA.out _ _ a12); have HLg := Lib.hid (HLf.out.below b12); have HS2 := Lib.hid (HSA.out _ _ (HLg.out.keep 0 rfl)); clear a12 b12)
                                        | (go_at_call 19; (with_reducible refine (HSB.out _ _ _ HS2.out HS1.out).mono ?_); rintro e w13 ⟨rfl, hb13⟩; have HLh := Lib.hid (HLg.out.below hb13); clear hb13))
                                      go_ret
                                      exact ⟨rfl, HLh.out.bel⟩

end Go.Proofs.Ytkcfmkhakghniaa
