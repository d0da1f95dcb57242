/- The document's: a patch among a row's: the walk. -/
import Derived.Test.YtpegbgomnpinfaaGreatMrg16
import Derived.Deep.CutRange
import Derived.Deep.CutBlock
set_option linter.unusedVariables false
namespace Go.Proofs.YtpegbgomnpinfaaGreat
open Go.RowKit

theorem into_from (ps : List Pat) (p : Pat) : ∀ k, k ≤ ps.length → ∀ q ∈ (intoTo ps p k).1, q = p ∨ q ∈ ps
  | 0, _, q, hq => by rw [intoTo_zero] at hq; cases hq
  | k + 1, hk, q, hq => by
    rw [intoTo_succ ps p k (by omega)] at hq
    have ih := into_from ps p k (by omega)
    generalize intoTo ps p k = st at hq ih
    unfold intoStep at hq
    rcases List.mem_append.1 hq with hq | hq
    · split at hq
      · rcases List.mem_append.1 hq with hq | hq
        · exact ih q hq
        · exact .inl (by simpa using hq)
      · exact ih q hq
    · split at hq
      · cases hq
      · rw [List.mem_singleton] at hq
        exact .inr (hq ▸ List.getElem_mem _)
theorem pat_one {w : World} {x : Value} {m r : Int} {d : List UInt8} (h : Seg w x d) : ∀ u ∈ [Value.int .i64 m, .int .i64 r, x], u.oneCell' = true := by
  obtain ⟨a, c, e⟩ := h.shape
  intro u hu
  simp only [List.mem_cons, List.not_mem_nil, or_false] at hu
  rcases hu with rfl | rfl | rfl
  · rfl
  · rfl
  · rw [e]; rfl

/-- What stands while patches come out. -/
structure IntoAt (w w1 wx : World) (v : Value) (X : List OP) (m r : Int) (x : Value) : Prop where
  row : VRow w1 wx v X
  bel : Below w1.heap.size w1 wx
  box : At wx w.heap.size #[.int .i64 m, .int .i64 r, x] 153
theorem IntoAt.below {w w1 wx wy : World} {v x : Value} {X : List OP} {m r : Int} (h : IntoAt w w1 wx v X m r x) (hb : Below wx.heap.size wx wy) : IntoAt w w1 wy v X m r x :=
  ⟨h.row.below hb, below_then h.bel hb, h.box.below hb h.box.lt⟩
theorem IntoAt.app {w w1 wx wy : World} {v v' x : Value} {X : List OP} {m r : Int} {y : OP} (h : IntoAt w w1 wx v X m r x) (hlt : w.heap.size < w1.heap.size) (hy : Seg w1 y.2 y.1.d)
    (hrow : wy.ownsRow w1.heap.size 153 3 v' (X.length + 1) (elems (fun i => opCells (X.getD i op0)) X.length ++ opCells y)) (hc : Chg (fun k => v.ownBlock = some k) wx wy) : IntoAt w w1 wy v' (X ++ [y]) m r x :=
  ⟨h.row.snoc hy hrow, Chg.own h.bel hc (fun k hk => (h.row.row.lt k hk).1), h.box.mod hc (fun e => by have := (h.row.row.lt _ e).1; omega)⟩

set_option maxRecDepth 100000 in
set_option maxHeartbeats 8000000 in
theorem ref_into (u x : Value) (ps : List Pat) (p : Pat) (w : World) (hu : PSeg w u ps) (hx : Seg w x p.d) (hn : ps.length ≤ 50000) (hd : p.d.length ≤ 140737488355000) :
    Calls Tryz.prog 113 #[u, .agg #[.int .i64 p.m, .int .i64 p.r, x]] w fun e w' => (∃ v, e = .returned v ∧ PSeg w' v (intoL ps p)) ∧ Below w.heap.size w w' := by
  obtain ⟨w1, hw1⟩ : ∃ w1, w1 = w.alloc (.cells #[.int .i64 p.m, .int .i64 p.r, x] 153) := ⟨_, rfl⟩
  have hb1 : Below w.heap.size w w1 := by rw [hw1]; exact (Below.refl _ _).alloc (Nat.le_refl _) _
  have hlt1 : w.heap.size < w1.heap.size := by rw [hw1, size_alloc]; omega
  have HI0 : Hid (IntoAt w w1 w1 (.slice none 0 0) [] p.m p.r x) := ⟨VRow.nil _ _, Below.refl _ _, by rw [hw1]; exact At.new _ _ _⟩
  have hpl : ∀ q ∈ ps, q.d.length ≤ 140737488355000 := by obtain ⟨_, _, _, _, h, _⟩ := hu; exact h
  have HPL := Lib.hid hpl
  have HD := Lib.hid hd
  have HU := Lib.hid (hu.below hb1)
  have HX := Lib.hid (hx.below hb1)
  have HW1 := Lib.hid hw1
  have HB1 := Lib.hid hb1
  have HLT := Lib.hid hlt1
  obtain ⟨ua, uc, rfl⟩ := hu.shape
  obtain ⟨xa, xc, rfl⟩ := hx.shape
  clear hu hx hpl hd hb1
  go_enter Tryz.func113, Tryz.ntmps113
  go_wp2_with fail
  rw [← hw1]
  clear hw1
  go_loopw [5, 6, 7] (fun o d q wx => ∃ (k : Nat) (X : List OP), k ≤ ps.length ∧ q = .int .i64 k ∧ X.map (·.1) = (intoTo ps p k).1 ∧ d = .bool (intoTo ps p k).2 ∧ X.length ≤ 2 * k ∧ IntoAt w w1 wx o X p.m p.r (.slice xa p.d.length xc)) (fun _ _ q _ => ps.length - (intOf q).toNat)
  case atStart => exact ⟨0, [], by omega, rfl, by rw [intoTo_zero]; rfl, by rw [intoTo_zero], by simp, HI0.out⟩
  case round =>
    obtain ⟨k, X, hk, rfl, hX, rfl, hXl, hI⟩ := hrel
    have HX1 := Lib.hid hX
    have HI := Lib.hid hI
    clear hX HI0
    by_cases hk2 : k < ps.length
    · as_aux_lemma =>
        have K1 : Hid (k + 1 ≤ ps.length) := hk2
        obtain ⟨b, o, rfl, hlt, hx⟩ := PSeg.full HU.out (by omega)
        obtain ⟨e0, e1, y, e2, hy⟩ := hx k hk2
        have hst := intoTo_succ ps p k hk2
        have hql := HPL.out _ (List.getElem_mem hk2)
        obtain ⟨q, hq⟩ : ∃ q, ps[k]'hk2 = q := ⟨_, rfl⟩
        rw [hq] at e0 e1 hy hst hql
        have HY := Lib.hid hy
        obtain ⟨ya, yc, rfl⟩ := hy.shape
        generalize hS : intoTo ps p k = st at *
        obtain ⟨out, dn⟩ := st
        have HST := Lib.hid hst
        have HC : Hid (∀ W, Below w1.heap.size w1 W → W.cell? ⟨b, o + k * 3, none⟩ = some (.int .i64 q.m) ∧ W.cell? ⟨b, o + k * 3 + 1, none⟩ = some (.int .i64 q.r) ∧ W.cell? ⟨b, o + k * 3 + 2, none⟩ = some (.slice ya q.d.length yc)) := fun W hW =>
          ⟨(hW.cell (p := ⟨b, o + k * 3, none⟩) hlt).trans e0, (hW.cell (p := ⟨b, o + k * 3 + 1, none⟩) hlt).trans e1, (hW.cell (p := ⟨b, o + k * 3 + 2, none⟩) hlt).trans e2⟩
        clear hx e0 e1 e2 hy hq hS hst
        simp only at HX1 ⊢
        go_upto_region 6 with fail
        go_cut [25] from 14 to 29 (fun s25 wx => s25 = .bool (!dn && decide (p.m ≤ q.m)) ∧ IntoAt w w1 wx u5 X p.m p.r (.slice xa p.d.length xc))
        case first =>
          obtain ⟨c0, -, -⟩ := HC.out _ HI.out.bel
          have g0 := HI.out.box.cell 0
          cases dn
          · go_quiet (fail)
            go_wp2_with fail
            go_meet
            exact ⟨by simp, HI.out.below (below_drewN (Below.refl _ _) nq)⟩
          · go_quiet (fail)
            go_wp2_with fail
            go_meet
            exact ⟨by simp, HI.out.below (below_drewN (Below.refl _ _) nq)⟩
        case rest =>
         obtain ⟨rfl, hI2⟩ := hcut
         have HI2 := Lib.hid hI2
         clear hI2 HI
         obtain ⟨bb, hbb⟩ : ∃ bb, (!dn && decide (p.m ≤ q.m)) = bb := ⟨_, rfl⟩
         have HBB := Lib.hid hbb
         rw [hbb]
         clear hbb
         go_upto_if 25 with fail
         go_cut [5, 6] from 26 to 29 (fun s5 s6 wx => ∃ X1 : List OP, X1.map (·.1) = (if bb = true then out ++ [p] else out) ∧ X1.length ≤ 2 * k + 1 ∧ s6 = .bool (dn || decide (p.m ≤ q.m)) ∧ IntoAt w w1 wx s5 X1 p.m p.r (.slice xa p.d.length xc))
         case first =>
          cases bb
          · have hcd := HBB.out
            have HDN : Hid (dn = (dn || decide (p.m ≤ q.m))) := by
              show _ = _
              cases dn
              · simpa using hcd
              · rfl
            clear hcd
            go_wp2_with fail
            go_meet
            refine ⟨X, ?_, by omega, congrArg Value.bool HDN.out, HI2.out⟩
            rw [HX1.out]; rfl
          · have hcd := HBB.out
            have HDN : Hid (true = (dn || decide (p.m ≤ q.m))) := by
              show _ = _
              cases dn
              · simpa using hcd
              · rfl
            clear hcd
            have g0 := HI2.out.box.cell 0
            have g1 := HI2.out.box.cell 1
            have g2 := HI2.out.box.cell 2
            have HAL : Hid (Below wc.heap.size wc (wc.alloc (.cells #[.int .i64 p.m, .int .i64 p.r, .slice xa p.d.length xc] 153))) := (Below.refl _ _).alloc (Nat.le_refl _) _
            have HI3 := Lib.hid (HI2.out.below HAL.out)
            go_wp2_with (refine wpList_append_keeps rfl _ _ 69 153 3 40 rfl slice_pats w1.heap.size u5 X.length _ rfl HI3.out.row.row _ 1 1 [.int .i64 p.m, .int .i64 p.r, .slice xa p.d.length xc] rfl rfl (new_three _ _ _ _ _ _ (by first | rfl | simp)) (pat_one HX.out) (by unfold maxLen; omega) (by omega) HI3.out.bel.size (by omega) ?_; intro v1 w4 hrow hvb hc hkk; have HI4 := Lib.hid (HI3.out.app (y := (p, .slice xa p.d.length xc)) HLT.out HX.out hrow hc); clear hrow hvb hc hkk)
            go_meet
            refine ⟨X ++ [(p, .slice xa p.d.length xc)], ?_, by rw [List.length_append, List.length_singleton]; omega, congrArg Value.bool HDN.out, HI4.out⟩
            rw [List.map_append, HX1.out]; rfl
         case rest =>
           obtain ⟨X1, hX1, hX1l, rfl, hI5⟩ := hcut
           have HXX := Lib.hid hX1
           have HI5 := Lib.hid hI5
           clear hX1 hI5 HI2 HX1
           obtain ⟨c0, c1, c2⟩ := HC.out _ HI5.out.bel
           have g0 := HI5.out.box.cell 0
           have HS2 : Hid ((dn || decide (p.m ≤ q.m)) = (intoTo ps p (k + 1)).2) := by show _ = _; rw [HST.out]; rfl
           by_cases heq : q.m = p.m
           · have hne : (q.m != p.m) = false := by simpa using heq
             have HEQ := Lib.hid heq
             have HS1 : Hid (X1.map (·.1) = (intoTo ps p (k + 1)).1) := by
               show _ = _
               rw [HST.out, HXX.out, ← HBB.out]
               show _ = _ ++ (if q.m = p.m then [] else [q])
               rw [if_pos HEQ.out, List.append_nil]
             clear heq
             go_wp2_with fail
             go_quiet (fail)
             go_wp2_with fail
             go_roundw
             case measure => simp [intOf]; omega
             exact ⟨k + 1, X1, K1.out, by go_num, HS1.out, by rw [HS2.out], by omega, HI5.out.below (below_drewN (Below.refl _ _) nq)⟩
           · have hne : (q.m != p.m) = true := by simpa using heq
             have HEQ := Lib.hid heq
             have HS1 : Hid (X1.map (·.1) ++ [q] = (intoTo ps p (k + 1)).1) := by
               show _ = _
               rw [HST.out, HXX.out, ← HBB.out]
               show _ = _ ++ (if q.m = p.m then [] else [q])
               rw [if_neg HEQ.out]
             clear heq
             go_wp2_with fail
             go_quiet (fail)
             have HI6 : Hid (IntoAt w w1 (wc.drewN nq) u5 X1 p.m p.r (.slice xa p.d.length xc)) := HI5.out.below (below_drewN (Below.refl _ _) nq)
             clear c0 c1 c2 g0
             generalize wc.drewN nq = w2 at *
             obtain ⟨c0, c1, c2⟩ := HC.out _ HI6.out.bel
             have HAL : Hid (Below w2.heap.size w2 (w2.alloc (.cells #[.int .i64 q.m, .int .i64 q.r, .slice ya q.d.length yc] 153))) := (Below.refl _ _).alloc (Nat.le_refl _) _
             have HI3 := Lib.hid (HI6.out.below HAL.out)
             go_wp2_with (refine wpList_append_keeps rfl _ _ 69 153 3 40 rfl slice_pats w1.heap.size u5 X1.length _ rfl HI3.out.row.row _ 1 1 [.int .i64 q.m, .int .i64 q.r, .slice ya q.d.length yc] rfl rfl (new_three _ _ _ _ _ _ (by first | rfl | simp)) (pat_one HY.out) (by unfold maxLen; omega) (by omega) HI3.out.bel.size (by omega) ?_; intro v1 w4 hrow hvb hc hkk; have HI4 := Lib.hid (HI3.out.app (y := (q, .slice ya q.d.length yc)) HLT.out HY.out hrow hc); clear hrow hvb hc hkk)
             go_roundw
             case measure => simp [intOf]; omega
             exact ⟨k + 1, X1 ++ [(q, .slice ya q.d.length yc)], K1.out, by go_num, by rw [List.map_append]; exact HS1.out, by rw [HS2.out], by rw [List.length_append, List.length_singleton]; omega, HI4.out⟩
    · as_aux_lemma =>
        obtain rfl : k = ps.length := by omega
        have HPQ : Hid (∀ x ∈ X, x.1.d.length ≤ 140737488355000) := fun x hx => by
          have h : x.1 ∈ X.map (·.1) := List.mem_map_of_mem hx
          rw [HX1.out] at h
          rcases into_from ps p ps.length (Nat.le_refl _) _ h with e | e
          · rw [e]; exact HD.out
          · exact HPL.out _ e
        generalize hS : intoTo ps p ps.length = st at *
        obtain ⟨out, dn⟩ := st
        have HSS := Lib.hid hS
        clear hS
        simp only at HX1 ⊢
        cases dn
        · have g0 := HI.out.box.cell 0
          have g1 := HI.out.box.cell 1
          have g2 := HI.out.box.cell 2
          have HAL : Hid (Below wr.heap.size wr (wr.alloc (.cells #[.int .i64 p.m, .int .i64 p.r, .slice xa p.d.length xc] 153))) := (Below.refl _ _).alloc (Nat.le_refl _) _
          have HI3 := Lib.hid (HI.out.below HAL.out)
          go_wp2_with (refine wpList_append_keeps rfl _ _ 69 153 3 40 rfl slice_pats w1.heap.size u5 X.length _ rfl HI3.out.row.row _ 1 1 [.int .i64 p.m, .int .i64 p.r, .slice xa p.d.length xc] rfl rfl (new_three _ _ _ _ _ _ (by first | rfl | simp)) (pat_one HX.out) (by unfold maxLen; omega) (by omega) HI3.out.bel.size (by omega) ?_; intro v1 w4 hrow hvb hc hkk; have HI4 := Lib.hid (HI3.out.app (y := (p, .slice xa p.d.length xc)) HLT.out HX.out hrow hc); clear hrow hvb hc hkk)
          go_ret
          refine ⟨⟨_, rfl, ?_⟩, below_then HB1.out HI4.out.bel⟩
          have h := HI4.out.row.pseg HI4.out.bel (by rw [List.length_append, List.length_singleton]; omega) (fun y hy => by
            rcases List.mem_append.1 hy with hy | hy
            · exact HPQ.out y hy
            · rw [List.mem_singleton] at hy
              rw [hy]; exact HD.out)
          unfold intoL
          rw [HSS.out, if_neg (by simp)]
          rw [List.map_append, HX1.out] at h
          exact h
        · go_wp2_with fail
          go_ret
          refine ⟨⟨_, rfl, ?_⟩, below_then HB1.out HI.out.bel⟩
          have h := HI.out.row.pseg HI.out.bel (by omega) HPQ.out
          unfold intoL
          rw [HSS.out, if_pos rfl]
          rw [HX1.out] at h
          exact h

end Go.Proofs.YtpegbgomnpinfaaGreat
