/- Several texts in one: ResC, WrkD, WrkB. -/
import Derived.Test.YtpegbgomnpinfaaGreatBlk
import Derived.Test.YtpegbgomnpinfaaGreatMrg11
import Derived.Test.YtpegbgomnpinfaaGreatPlyC
import Derived.Test.YtpegbgomnpinfaaGreatPlyR
import Derived.Test.YtpegbgomnpinfaaGreatMrg14
import Derived.Test.YtpegbgomnpinfaaGreatMrg3
/- Results that are cells. -/
set_option linter.unusedVariables false
namespace Go

theorem results_cell {fn : Func} {p : Tmp} {ty : TypeId} (h : fn.results = #[.cell p ty]) (tmps : Array Value) (P : Program) (w : World) :
    (results fn tmps).run P w = ((asAddr (tmps.getD p undef)).run P w).andThen fun a w₁ => (loadVar ty a).run P w₁ := by
  simp only [results, h]
  simp [Sem.run_bind, Result.andThen]
theorem results_tmp_cell {fn : Func} {p u : Tmp} {ty : TypeId} (h : fn.results = #[.tmp u, .cell p ty]) (tmps : Array Value) (P : Program) (w : World) :
    (results fn tmps).run P w =
      ((asAddr (tmps.getD p undef)).run P w).andThen fun a w₁ => ((loadVar ty a).run P w₁).andThen fun v w₂ => .ok (.tuple #[tmps.getD u undef, v]) w₂ := by
  simp only [results, h]
  simp [Sem.run_bind, Result.andThen]

end Go

/- A plan lent: whole; spoilt. -/
set_option linter.unusedVariables false
namespace Go.Proofs.YtpegbgomnpinfaaGreat
open Go.RowKit

set_option maxRecDepth 100000 in
set_option maxHeartbeats 2000000 in
theorem lent_plan (r md par : Int) (vq vr : Value) (ps : List Pat) (zl : List Int) (w : World) (hq : PSeg w vq ps) (hz : ZSeg w vr zl) (hn : ps.length ≤ 300000) (hl : ∀ u ∈ ps, u.d.length ≤ 300000) (hzl : zl.length ≤ 1000000) :
    Calls Tryz.prog 31 #[planVal r md par vq vr] w fun e w' => (∃ g c Y g2, e = .returned (planVal r md par (.slice (some ⟨g, 0, none⟩) ps.length c) (.slice (some ⟨g2, 0, none⟩) zl.length (zl.length + 2))) ∧ Y.map (·.1) = ps ∧ LPats w' w.heap.size (.slice (some ⟨g, 0, none⟩) (Y.length + 2) c) Y ∧ (w.heap.size ≤ g2 ∧ g < g2 ∧ ∀ y ∈ Y, ∀ q, y.2.ownBlock = some q → q < g2) ∧ At w' g2 (lentInts zl) 3) ∧ Below w.heap.size w w' := by
  have HLP : Hid (∀ W, Below w.heap.size w W → _) := fun W hW => lent_pats vq ps W (hq.below hW) hn hl
  have HLZ : Hid (∀ W, Below w.heap.size w W → _) := fun W hW => lent_zs vr zl W hzl (hz.below hW)
  obtain ⟨qa, qc, rfl⟩ := hq.shape
  obtain ⟨ra, rc, rfl⟩ := hz.shape
  obtain ⟨w0, hw0⟩ : ∃ w0, w0 = (w.alloc (.cells #[.int .i64 r, .int .u8 md, .int .i64 par, .slice qa ps.length qc, .slice ra zl.length rc] 75)).alloc (.cells #[.int .i64 0, .int .u8 0, .int .i64 0, .slice none 0 0, .slice none 0 0] 75) := ⟨_, rfl⟩
  have HB0 : Hid (Below w.heap.size w w0) := by rw [hw0]; exact ((Below.refl _ _).alloc (Nat.le_refl _) _).alloc (by rw [size_alloc]; omega) _
  have HA0 : Hid (At w0 w.heap.size #[.int .i64 r, .int .u8 md, .int .i64 par, .slice qa ps.length qc, .slice ra zl.length rc] 75) := by rw [hw0]; exact (At.new _ _ _).alloc _
  have HR0 : Hid (At w0 (w.heap.size + 1) #[.int .i64 0, .int .u8 0, .int .i64 0, .slice none 0 0, .slice none 0 0] 75) := by rw [hw0]; exact At.new2 _ _ _ _
  clear hq hz hl
  unfold planVal
  go_enter Tryz.func31, Tryz.ntmps31
  go_upto_region 1 with fail
  rw [← hw0]
  clear hw0
  have c3 := HA0.out.cell 3
  go_upto_region 2 with (go_at_call 20; (with_reducible refine (HLP.out _ HB0.out).mono ?_); rintro e w1 ⟨⟨g, c, Y, rfl, hY, hL⟩, hb1⟩; have HY := Lib.hid hY; have HL1 := Lib.hid hL; have HB1 := Lib.hid (below_then HB0.out hb1); have HA1 := Lib.hid (HA0.out.below hb1 HA0.out.lt); have HR1 := Lib.hid (HR0.out.below hb1 HR0.out.lt); have HS0 := Lib.hid HB0.out.size; have d3 := HA1.out.cell 3; have f3 := HA1.out.free 3; clear hY hL hb1 c3)
  have hst : Chg (fun q => q = w.heap.size) w1 (w1.setCell ⟨w.heap.size, 3, none⟩ (.slice (some ⟨g, 0, none⟩) ps.length c)) := Chg.setCell (S := fun q => q = w.heap.size) (Chg.refl _ _) ⟨w.heap.size, 3, none⟩ (.inl rfl) _
  have hlow : w.heap.size < w0.heap.size := HA0.out.lt
  have HL2 : Hid (LPats (w1.setCell ⟨w.heap.size, 3, none⟩ (.slice (some ⟨g, 0, none⟩) ps.length c)) w.heap.size (.slice (some ⟨g, 0, none⟩) (Y.length + 2) c) Y) :=
    ⟨ownsRow_mod (rebase_row HL1.out.row (by have := HS0.out; omega)) hst (fun z hz e => by have := (HL1.out.row.lt z hz).1; omega), fun x hx => ((HL1.out.dat x hx).mod hst (fun z hz e => by
      obtain ⟨gx, hgx, e2, -⟩ := HL1.out.dat x hx
      rw [e2] at hz
      simp only [Value.ownBlock, Option.some.injEq] at hz
      omega)).lower (by have := HS0.out; omega)⟩
  have HB2 : Hid (Below w.heap.size w (w1.setCell ⟨w.heap.size, 3, none⟩ (.slice (some ⟨g, 0, none⟩) ps.length c))) := HB1.out.setCell (p := ⟨w.heap.size, 3, none⟩) (Nat.le_refl _) _
  have HA2 := Lib.hid (HA1.out.set 3 (.slice (some ⟨g, 0, none⟩) ps.length c))
  have HR2 := Lib.hid (HR1.out.mod hst (by omega))
  generalize w1.setCell ⟨w.heap.size, 3, none⟩ (.slice (some ⟨g, 0, none⟩) ps.length c) = w2 at *
  clear hst d3 f3 HA1 HR1 HB1 HL1 HA0 HR0 HB0
  have c4 := HA2.out.cell 4
  go_upto_region 3 with (go_at_call 100; (with_reducible refine (HLZ.out _ HB2.out).mono ?_); rintro e w3 ⟨rfl, hat3, hb3⟩; have HZ3 := Lib.hid hat3; have HL3 := Lib.hid (HL2.out.below hb3); have HB3 := Lib.hid (below_then HB2.out hb3); have HA3 := Lib.hid (HA2.out.below hb3 HA2.out.lt); have HR3 := Lib.hid (HR2.out.below hb3 HR2.out.lt); have d4 := HA3.out.cell 4; have f4 := HA3.out.free 4; clear hat3 hb3 c4)
  have hst : Chg (fun q => q = w.heap.size) w3 (w3.setCell ⟨w.heap.size, 4, none⟩ (.slice (some ⟨w2.heap.size, 0, none⟩) zl.length (zl.length + 2))) := Chg.setCell (S := fun q => q = w.heap.size) (Chg.refl _ _) ⟨w.heap.size, 4, none⟩ (.inl rfl) _
  have hlow2 : w.heap.size < w2.heap.size := HA2.out.lt
  have HL4 : Hid (LPats (w3.setCell ⟨w.heap.size, 4, none⟩ (.slice (some ⟨w2.heap.size, 0, none⟩) zl.length (zl.length + 2))) w.heap.size (.slice (some ⟨g, 0, none⟩) (Y.length + 2) c) Y) :=
    ⟨ownsRow_mod HL3.out.row hst (fun z hz e => own_ne_at HL3.out.row HA3.out (by decide) (e ▸ hz)), fun x hx => (HL3.out.dat x hx).mod hst (fun z hz e => by
      obtain ⟨cs, ha⟩ := (HL3.out.dat x hx).block hz
      subst e
      exact absurd (at_one ha HA3.out).2 (by decide))⟩
  have HZ4 := Lib.hid (HZ3.out.mod hst (by omega))
  have HB4 : Hid (Below w.heap.size w (w3.setCell ⟨w.heap.size, 4, none⟩ (.slice (some ⟨w2.heap.size, 0, none⟩) zl.length (zl.length + 2)))) := HB3.out.setCell (p := ⟨w.heap.size, 4, none⟩) (Nat.le_refl _) _
  have HA4 := Lib.hid (HA3.out.set 4 (.slice (some ⟨w2.heap.size, 0, none⟩) zl.length (zl.length + 2)))
  have HR4 := Lib.hid (HR3.out.mod hst (by omega))
  generalize w3.setCell ⟨w.heap.size, 4, none⟩ (.slice (some ⟨w2.heap.size, 0, none⟩) zl.length (zl.length + 2)) = w4 at *
  have HLW : Hid (g < w2.heap.size ∧ ∀ y ∈ Y, ∀ q, y.2.ownBlock = some q → q < w2.heap.size) := ⟨HL2.out.lt, lent_lowP HL2.out⟩
  clear hst d4 f4 HA3 HR3 HB3 HL3 HZ3 HL2 HB2 HA2 HR2
  have hg2 : w.heap.size ≤ w2.heap.size := by omega
  generalize w2.heap.size = g2 at *
  have x0 := HA4.out.cell 0
  have x1 := HA4.out.cell 1
  have x2 := HA4.out.cell 2
  have x3 := HA4.out.cell 3
  have x4 := HA4.out.cell 4
  have y0 := HR4.out.cell 0
  have y1 := HR4.out.cell 1
  have y2 := HR4.out.cell 2
  have y3 := HR4.out.cell 3
  have y4 := HR4.out.cell 4
  have z0 := HR4.out.free 0
  have z1 := HR4.out.free 1
  have z2 := HR4.out.free 2
  have z3 := HR4.out.free 3
  have z4 := HR4.out.free 4
  have HF := Lib.hid (((((HR4.out.set 0 (.int .i64 r)).set 1 (.int .u8 md)).set 2 (.int .i64 par)).set 3 (.slice (some ⟨g, 0, none⟩) ps.length c)).set 4 (.slice (some ⟨g2, 0, none⟩) zl.length (zl.length + 2)))
  have HCH : Hid (Chg (fun q => q = w.heap.size + 1) w4 (((((w4.setCell ⟨w.heap.size + 1, 0, none⟩ (.int .i64 r)).setCell ⟨w.heap.size + 1, 1, none⟩ (.int .u8 md)).setCell ⟨w.heap.size + 1, 2, none⟩ (.int .i64 par)).setCell ⟨w.heap.size + 1, 3, none⟩ (.slice (some ⟨g, 0, none⟩) ps.length c)).setCell ⟨w.heap.size + 1, 4, none⟩ (.slice (some ⟨g2, 0, none⟩) zl.length (zl.length + 2)))) := Chg.setCell (S := fun q => q = w.heap.size + 1) (Chg.setCell (S := fun q => q = w.heap.size + 1) (Chg.setCell (S := fun q => q = w.heap.size + 1) (Chg.setCell (S := fun q => q = w.heap.size + 1) (Chg.setCell (S := fun q => q = w.heap.size + 1) (Chg.refl _ _) ⟨w.heap.size + 1, 0, none⟩ (.inl rfl) _) ⟨w.heap.size + 1, 1, none⟩ (.inl rfl) _) ⟨w.heap.size + 1, 2, none⟩ (.inl rfl) _) ⟨w.heap.size + 1, 3, none⟩ (.inl rfl) _) ⟨w.heap.size + 1, 4, none⟩ (.inl rfl) _
  go_wp2
  have r0 := HF.out.cell 0
  have r1 := HF.out.cell 1
  have r2 := HF.out.cell 2
  have r3 := HF.out.cell 3
  have r4 := HF.out.cell 4
  clear x0 x1 x2 x3 x4 y0 y1 y2 y3 y4 z0 z1 z2 z3 z4
  (try simp only [Exit.inBlock, Exit.then])
  refine bodyPost_ret (v := .agg #[.int .i64 r, .int .u8 md, .int .i64 par, .slice (some ⟨g, 0, none⟩) ps.length c, .slice (some ⟨g2, 0, none⟩) zl.length (zl.length + 2)]) ?_ rfl ⟨⟨g, c, Y, g2, rfl, HY.out, ⟨?_, fun x hx => ?_⟩, ⟨hg2, HLW.out⟩, ?_⟩, Chg.own HB4.out HCH.out (fun q hq => by omega)⟩
  · rw [results_cell rfl]
    go_simp
    try rfl
  · exact ownsRow_mod HL4.out.row HCH.out (fun z hz e => own_ne_at HL4.out.row HR4.out (by decide) (e ▸ hz))
  · exact (HL4.out.dat x hx).mod HCH.out (fun z hz e => by
      obtain ⟨cs, ha⟩ := (HL4.out.dat x hx).block hz
      subst e
      exact absurd (at_one ha HR4.out).2 (by decide))
  · refine HZ4.out.mod HCH.out (fun e => ?_)
    subst e
    exact absurd (at_one HZ4.out HR4.out).2 (by decide)

end Go.Proofs.YtpegbgomnpinfaaGreat

/- Rows of bytes lent, with marks behind; whole; spoilt. -/
set_option linter.unusedVariables false
namespace Go.Proofs.YtpegbgomnpinfaaGreat
open Go.RowKit

/-- A row's slice and its bytes. -/
abbrev OB := Value × List UInt8
def obRow (Y : List OB) : List Value := Y.map (·.1)
theorem obRow_len (Y : List OB) : (obRow Y).length = Y.length := by unfold obRow; simp
def markCells : Array Value := #[.int .u8 77, .int .u8 78]
/-- A mark's row. -/
def MarkAt (w : World) (lo : Nat) (v : Value) : Prop := ∃ g, lo ≤ g ∧ v = .slice (some ⟨g, 0, none⟩) 2 2 ∧ At w g markCells 5

/-- While they are lent: the first rows. -/
structure LRowB (w : World) (lo : Nat) (v : Value) (Y : List OB) : Prop where
  row : w.ownsRow lo 53 1 v Y.length (obRow Y)
  dat : ∀ x ∈ Y, Lent w lo x.1 x.2
/-- Lent. -/
structure LRows (w : World) (lo : Nat) (v : Value) (Y : List OB) (k1 k2 : Value) : Prop where
  row : w.ownsRow lo 53 1 v (Y.length + 2) (obRow Y ++ [k1, k2])
  dat : ∀ x ∈ Y, Lent w lo x.1 x.2
  m1 : MarkAt w lo k1
  m2 : MarkAt w lo k2
theorem MarkAt.below {w w' : World} {lo : Nat} {v : Value} (h : MarkAt w lo v) (hb : Below w.heap.size w w') : MarkAt w' lo v := by
  obtain ⟨g, h1, h2, h3⟩ := h
  exact ⟨g, h1, h2, h3.below hb h3.lt⟩
theorem MarkAt.seg {w : World} {lo : Nat} {v : Value} (h : MarkAt w lo v) : Seg w v [77, 78] := by
  obtain ⟨g, -, rfl, h⟩ := h
  refine ⟨_, _, rfl, ⟨fun h => by simp at h, by simp⟩, .inr ⟨g, 0, rfl, h.lt, fun j hj => ?_⟩⟩
  rw [h.cell (0 + j), Nat.zero_add]
  match j, hj with
  | 0, _ => rfl
  | 1, _ => rfl
theorem MarkAt.mod {S : Nat → Prop} {w w' : World} {lo : Nat} {v : Value} (h : MarkAt w lo v) (hc : Chg S w w') (hS : ∀ g, v.ownBlock = some g → ¬ S g) : MarkAt w' lo v := by
  obtain ⟨g, h1, rfl, h3⟩ := h
  exact ⟨g, h1, rfl, h3.mod hc (hS g rfl)⟩
theorem MarkAt.block {w : World} {lo : Nat} {v : Value} (h : MarkAt w lo v) {g : Nat} (hv : v.ownBlock = some g) : ∃ cs, At w g cs 5 := by
  obtain ⟨g', -, rfl, h⟩ := h
  obtain rfl : g' = g := by simpa [Value.ownBlock] using hv
  exact ⟨_, h⟩
theorem LRowB.below {w w' : World} {lo : Nat} {v : Value} {Y : List OB} (h : LRowB w lo v Y) (hb : Below w.heap.size w w') : LRowB w' lo v Y := ⟨ownsRow_below h.row hb (Nat.le_refl _), fun x hx => (h.dat x hx).below hb⟩
theorem LRows.below {w w' : World} {lo : Nat} {v k1 k2 : Value} {Y : List OB} (h : LRows w lo v Y k1 k2) (hb : Below w.heap.size w w') : LRows w' lo v Y k1 k2 := ⟨ownsRow_below h.row hb (Nat.le_refl _), fun x hx => (h.dat x hx).below hb, h.m1.below hb, h.m2.below hb⟩
theorem lent_keepB {w w' : World} {lo B sz n : Nat} {t : TypeId} {v : Value} {xs : List Value} {x : OB} (h : Lent w lo x.1 x.2) (hr : w.ownsRow B t sz v n xs) (hne : t ≠ 5) (hc : Chg (fun k => v.ownBlock = some k) w w') : Lent w' lo x.1 x.2 :=
  h.mod hc fun g hg e => by
    obtain ⟨cs, ha⟩ := h.block hg
    exact own_ne_at hr ha hne e
theorem mark_keep {w w' : World} {lo B sz n : Nat} {t : TypeId} {v k : Value} {xs : List Value} (h : MarkAt w lo k) (hr : w.ownsRow B t sz v n xs) (hne : t ≠ 5) (hc : Chg (fun k => v.ownBlock = some k) w w') : MarkAt w' lo k :=
  h.mod hc fun g hg e => by
    obtain ⟨cs, ha⟩ := h.block hg
    exact own_ne_at hr ha hne e
theorem LRowB.snoc {w w' : World} {lo : Nat} {v v' : Value} {Y : List OB} {x : OB} (h : LRowB w lo v Y) (hx : Lent w lo x.1 x.2) (hc : Chg (fun k => v.ownBlock = some k) w w')
    (hrow : w'.ownsRow lo 53 1 v' (Y.length + 1) (obRow Y ++ [x.1])) : LRowB w' lo v' (Y ++ [x]) := by
  refine ⟨?_, fun y hy => ?_⟩
  · unfold obRow at hrow ⊢
    rw [List.map_append, List.length_append, List.length_singleton]
    exact hrow
  · rcases List.mem_append.1 hy with hy | hy
    · exact lent_keepB (h.dat y hy) h.row (by decide) hc
    · obtain rfl : y = x := by simpa using hy
      exact lent_keepB hx h.row (by decide) hc
theorem LRows.lt {w : World} {lo g n c : Nat} {k1 k2 : Value} {Y : List OB} (h : LRows w lo (.slice (some ⟨g, 0, none⟩) n c) Y k1 k2) : g < w.heap.size := (h.row.lt g rfl).2
theorem LRows.cell {w : World} {lo g c : Nat} {k1 k2 : Value} {Y : List OB} (h : LRows w lo (.slice (some ⟨g, 0, none⟩) (Y.length + 2) c) Y k1 k2) {j : Nat} (hj : j < Y.length) : w.cell? ⟨g, j, none⟩ = some (Y[j]'hj).1 := by
  have e := h.row.cells (g := g) rfl j (Y[j]'hj).1 (by rw [List.getElem?_append_left (by rw [obRow_len]; exact hj)]; unfold obRow; rw [List.getElem?_map, List.getElem?_eq_getElem hj]; rfl)
  rwa [Go.WideShapes.add_plain, Nat.zero_add] at e
theorem LRows.mark {w : World} {lo g c : Nat} {k1 k2 : Value} {Y : List OB} (h : LRows w lo (.slice (some ⟨g, 0, none⟩) (Y.length + 2) c) Y k1 k2) {j : Nat} (hj : j < 2) : ∃ k, w.cell? ⟨g, Y.length + j, none⟩ = some k ∧ MarkAt w lo k := by
  refine ⟨[k1, k2].getD j k1, ?_, ?_⟩
  · have e := h.row.cells (g := g) rfl (Y.length + j) ([k1, k2].getD j k1) (by rw [List.getElem?_append_right (by rw [obRow_len]; omega), obRow_len, show Y.length + j - Y.length = j by omega]; match j, hj with | 0, _ => rfl | 1, _ => rfl)
    rwa [Go.WideShapes.add_plain, Nat.zero_add] at e
  · match j, hj with
    | 0, _ => exact h.m1
    | 1, _ => exact h.m2
/-- .. to be read. -/
theorem LRows.segs {w : World} {lo g c : Nat} {k1 k2 : Value} {Y : List OB} (h : LRows w lo (.slice (some ⟨g, 0, none⟩) (Y.length + 2) c) Y k1 k2) : Segs w (.slice (some ⟨g, 0, none⟩) Y.length c) (Y.map (·.2)) := by
  have hcap := (own_at h.row).2.1
  refine ⟨_, c, by rw [List.length_map], by rw [List.length_map]; omega, .inr ⟨g, 0, rfl, h.lt, fun j hj => ?_⟩⟩
  rw [List.length_map] at hj
  rw [Nat.zero_add, List.getElem_map]
  exact ⟨_, h.cell hj, (h.dat _ (List.getElem_mem hj)).seg⟩

set_option maxRecDepth 100000 in
set_option maxHeartbeats 4000000 in
theorem lent_rows (v : Value) (ls : List (List UInt8)) (w : World) (hv : Segs w v ls) (hn : ls.length ≤ 300000) (hl : ∀ l ∈ ls, l.length ≤ 300000) :
    Calls Tryz.prog 32 #[v] w fun e w' => (∃ g c Y k1 k2, e = .returned (.slice (some ⟨g, 0, none⟩) ls.length c) ∧ Y.map (·.2) = ls ∧ LRows w' w.heap.size (.slice (some ⟨g, 0, none⟩) (Y.length + 2) c) Y k1 k2) ∧ Below w.heap.size w w' := by
  have HV := Lib.hid hv
  have HL := Lib.hid hl
  obtain ⟨a, c, rfl⟩ := hv.shape
  clear hv hl
  go_enter Tryz.func32, Tryz.ntmps32
  go_wp2_with (first
    | (refine wpList_make_room rfl _ _ 38 53 1 24 rfl slice_rowsB _ _ _ (ls.length + 2) rfl rfl (by omega) (by omega) (by unfold maxLen; omega) ?_; intro w1 hown1 hb1 hlt1; have HR1 : Hid (LRowB w1 w.heap.size (.slice (some ⟨w.heap.size, 0, none⟩) 0 (ls.length + 2)) []) := ⟨hown1, fun x hx => (by cases hx)⟩; have HB1 := Lib.hid hb1; clear hown1 hb1 hlt1))
  go_loopw [3, 4] (fun x q wx => ∃ (k : Nat) (Y : List OB), k ≤ ls.length ∧ q = .int .i64 k ∧ Y.map (·.2) = ls.take k ∧ LRowB wx w.heap.size x Y ∧ Below w.heap.size w wx) (fun _ q _ => ls.length - (intOf q).toNat)
  case atStart => exact ⟨0, [], by omega, rfl, by simp, HR1.out, HB1.out⟩
  case round =>
    obtain ⟨k, Y, hk, rfl, hY, hR, hB⟩ := hrel
    have HY := Lib.hid hY
    have HR := Lib.hid hR
    have HB := Lib.hid hB
    have hYk : Y.length = k := by
      have h := congrArg List.length hY
      rw [List.length_map, List.length_take] at h
      omega
    have HYK := Lib.hid hYk
    have hYn : Y.length ≤ 300000 := by omega
    have hw0 := hB.size
    clear hY hR hB HR1 HB1 hYk
    by_cases hkn : k < ls.length
    · have K1 : Hid (k + 1 ≤ ls.length) := hkn
      obtain ⟨b, o, c', hve, hlt, hx⟩ := Segs.full (HV.out.below HB.out) (by omega)
      simp only [Value.slice.injEq] at hve
      obtain ⟨rfl, -, rfl⟩ := hve
      obtain ⟨u, p0, hu⟩ := hx k hkn
      have hlen := HL.out _ (List.getElem_mem hkn)
      obtain ⟨dd, hye⟩ : ∃ y, ls[k]'hkn = y := ⟨_, rfl⟩
      have HYE := Lib.hid hye
      rw [hye] at hu hlen
      have HLB := Lib.hid (lent_bytes u dd wr (by omega) hu)
      obtain ⟨ua, uc, rfl⟩ := hu.shape
      clear hx hye hu
      go_wp2_with (first
        | (go_at_call 83; (with_reducible refine HLB.out.mono ?_); rintro e w2 ⟨rfl, hat, hb2⟩; have HB2 : Hid (Below w.heap.size w w2) := below_then HB.out hb2; have HAL : Hid (Below w2.heap.size w2 (w2.alloc (.cells #[.slice (some ⟨wr.heap.size, 0, none⟩) dd.length (dd.length + 2)] 53))) := (Below.refl _ _).alloc (Nat.le_refl _) _; have HR3 := Lib.hid ((HR.out.below hb2).below HAL.out); have HB3 := Lib.hid (below_then HB2.out HAL.out); have HLT : Hid (Lent (w2.alloc (.cells #[.slice (some ⟨wr.heap.size, 0, none⟩) dd.length (dd.length + 2)] 53)) w.heap.size (.slice (some ⟨wr.heap.size, 0, none⟩) dd.length (dd.length + 2)) dd) := ⟨wr.heap.size, hw0, rfl, hat.alloc _⟩; clear hat hb2)
        | (refine wpList_append_keeps rfl _ _ 38 53 1 24 rfl slice_rowsB w.heap.size u3 Y.length _ rfl HR3.out.row _ 1 1 [.slice (some ⟨wr.heap.size, 0, none⟩) dd.length (dd.length + 2)] rfl rfl (new_one _ _ _ _ (by first | rfl | simp)) (by intro u hu; rw [List.mem_singleton] at hu; subst hu; rfl) (by unfold maxLen; omega) (by omega) HB3.out.size (by omega) ?_; intro v' w10 hrow10 hvb10 hc10 hkk10; have HRN := Lib.hid (HR3.out.snoc (x := (.slice (some ⟨wr.heap.size, 0, none⟩) dd.length (dd.length + 2), dd)) HLT.out hc10 hrow10); have HB4 : Hid (Below w.heap.size w w10) := Chg.own HB3.out hc10 (fun q hq => (HR3.out.row.lt q hq).1); clear hrow10 hvb10 hc10 hkk10))
      go_roundw
      case measure => simp [intOf]; omega
      refine ⟨k + 1, _, K1.out, by go_num, ?_, HRN.out, HB4.out⟩
      rw [List.map_append, HY.out, List.take_succ_eq_append_getElem hkn, HYE.out]
      rfl
    · obtain rfl : k = ls.length := by omega
      have HYU : Hid (Y.map (·.2) = ls) := by have h := HY.out; rw [List.take_length] at h; exact h
      obtain ⟨w1, hw1⟩ : ∃ w1, w1 = wr.alloc (.cells markCells 5) := ⟨_, rfl⟩
      obtain ⟨w2, hw2⟩ : ∃ w2, w2 = w1.alloc (.cells markCells 5) := ⟨_, rfl⟩
      have hz1 : w1.heap.size = wr.heap.size + 1 := by rw [hw1, size_alloc]
      have hz2 : w2.heap.size = wr.heap.size + 1 + 1 := by rw [hw2, size_alloc, hz1]
      have hb1 : Below wr.heap.size wr w1 := by rw [hw1]; exact (Below.refl _ _).alloc (Nat.le_refl _) _
      have hb2 : Below w1.heap.size w1 w2 := by rw [hw2]; exact (Below.refl _ _).alloc (Nat.le_refl _) _
      have hm1 : MarkAt w2 w.heap.size (.slice (some ⟨wr.heap.size, 0, none⟩) 2 2) := by
        have h : At w1 wr.heap.size markCells 5 := by rw [hw1]; exact At.new _ _ _
        exact ⟨_, hw0, rfl, h.below hb2 h.lt⟩
      have hm2 : MarkAt w2 w.heap.size (.slice (some ⟨wr.heap.size + 1, 0, none⟩) 2 2) := by
        refine ⟨_, by omega, rfl, ?_⟩
        rw [← hz1, hw2]
        exact At.new _ _ _
      obtain ⟨w3, hw3⟩ : ∃ w3, w3 = w2.alloc (.cells #[.slice (some ⟨wr.heap.size, 0, none⟩) 2 2, .slice (some ⟨wr.heap.size + 1, 0, none⟩) 2 2] 53) := ⟨_, rfl⟩
      have hb3 : Below w2.heap.size w2 w3 := by rw [hw3]; exact (Below.refl _ _).alloc (Nat.le_refl _) _
      have HM1 := Lib.hid (hm1.below hb3)
      have HM2 := Lib.hid (hm2.below hb3)
      have HR3 := Lib.hid (((HR.out.below hb1).below hb2).below hb3)
      have HB3 := Lib.hid (below_then (below_then (below_then HB.out hb1) hb2) hb3)
      have HNEW : Hid (∀ j u, [Value.slice (some ⟨wr.heap.size, 0, none⟩) 2 2, .slice (some ⟨wr.heap.size + 1, 0, none⟩) 2 2][j]? = some u → w3.cell? ((⟨wr.heap.size + 1 + 1, 0, none⟩ : Addr).add j) = some u) := fun j u hj => by
        rw [Go.WideShapes.add_plain, Nat.zero_add, ← hz2, hw3, (At.new w2 _ _).cell j, List.getElem?_toArray]
        exact hj
      have HW3 : Hid (w3 = (((wr.alloc (.cells #[.int .u8 77, .int .u8 78] 5)).alloc (.cells #[.int .u8 77, .int .u8 78] 5)).alloc (.cells #[.slice (some ⟨wr.heap.size, 0, none⟩) 2 2, .slice (some ⟨wr.heap.size + 1, 0, none⟩) 2 2] 53))) := by rw [hw3, hw2, hw1]; rfl
      clear hm1 hm2 hb1 hb2 hb3 hw1 hw2 hw3 hz1 hz2
      go_wp2_with (rw [← HW3.out]; refine wpList_append_keeps rfl _ _ 38 53 1 24 rfl slice_rowsB w.heap.size u3 Y.length _ rfl HR3.out.row _ 2 2 [.slice (some ⟨wr.heap.size, 0, none⟩) 2 2, .slice (some ⟨wr.heap.size + 1, 0, none⟩) 2 2] rfl rfl HNEW.out (by intro u hu; simp at hu; rcases hu with rfl | rfl <;> rfl) (by unfold maxLen; omega) (by omega) HB3.out.size (by omega) ?_; intro v1 w4 hrow hvb hc hkk; have HP : Hid (LRows w4 w.heap.size v1 Y _ _) := ⟨hrow, fun x hx => lent_keepB (HR3.out.dat x hx) HR3.out.row (by decide) hc, mark_keep HM1.out HR3.out.row (by decide) hc, mark_keep HM2.out HR3.out.row (by decide) hc⟩; have HB4 := Lib.hid (Chg.own HB3.out hc (fun q hq => (HR3.out.row.lt q hq).1)); obtain ⟨ga, gc, rfl, -, -⟩ := ownsRow_full hrow (by omega); have hcap := (own_at hrow).2.1; have hci : (ls.length : Int) ≤ (gc : Int) := (by have := HYK.out; omega); have hc0 : ¬ gc = 0 := (by omega); clear hrow hvb hc hkk hcap)
      rw [HYK.out]
      go_ret
      exact ⟨⟨ga, gc, Y, _, _, rfl, HYU.out, HP.out⟩, HB4.out⟩

end Go.Proofs.YtpegbgomnpinfaaGreat
