/- PlanOrder: the walk. -/
import Derived.Test.YtkcfmkhakghniaaPlwU
import Derived.Test.YtkcfmkhakghniaaPlwT
import Derived.Test.YtkcfmkhakghniaaPlwJ
import Derived.Deep.CutBlock
import Derived.Laws.AppendOwnNone
set_option linter.unusedVariables false
namespace Go.Proofs.Ytkcfmkhakghniaa
open Go.RowKit

abbrev cgeoI (m c s : Int) : Array Value := #[.int .i64 m, .int .i64 c, .int .i64 s]

/-- What stands while the blocks are told apart. -/
structure OrdAt (w wx : World) (m c s : Int) (vl vm : Value) (Y : List OU) : Prop where
  geo : At wx w.heap.size (cgeoI m c s) 23
  l : URow w wx vl Y
  m : URow w wx vm Y.reverse
  emp : Y = [] → vm = .slice none 0 0
  bel : Below w.heap.size w wx
theorem OrdAt.below {w wx wy : World} {m c s : Int} {vl vm : Value} {Y : List OU} (h : OrdAt w wx m c s vl vm Y) (hb : Below wx.heap.size wx wy) : OrdAt w wy m c s vl vm Y :=
  ⟨h.geo.below hb h.geo.lt, h.l.below hb, h.m.below hb, h.emp, below_then h.bel hb⟩
theorem OrdAt.lcell {w wx : World} {m c s : Int} {vm : Value} {Y : List OU} {a : Option Addr} {n cc : Nat} (h : OrdAt w wx m c s (.slice a n cc) vm Y) (hl : 0 < Y.length) :
    ∃ g, a = some ⟨g, 0, none⟩ ∧ ∀ j (hj : j < Y.length), wx.cell? ⟨g, j * 2, none⟩ = some (.int .i64 (Y[j]'hj).2.1) ∧ wx.cell? ⟨g, j * 2 + 1, none⟩ = some (Y[j]'hj).1 := by
  obtain ⟨g, cap, hv, hB, hg⟩ := ownsRow_full h.l.row hl
  simp only [Value.slice.injEq] at hv
  obtain ⟨rfl, rfl, rfl⟩ := hv
  refine ⟨g, rfl, fun j hj => ?_⟩
  have hr := h.l.row
  have e : Y.getD j ou0 = Y[j] := by rw [List.getD_eq_getElem?_getD, List.getElem?_eq_getElem hj]; rfl
  unfold ouRow at hr
  have c0 := own_cell2 hr (fun k => rfl) j 0 hj (by omega)
  have c1 := own_cell2 hr (fun k => rfl) j 1 hj (by omega)
  rw [e] at c0 c1
  exact ⟨by rw [show j * 2 = j * 2 + 0 by omega, c0]; rfl, by rw [c1]; rfl⟩

/-- .. and one more has been appended to the first row. -/
structure OrdMid (w wx : World) (m c s : Int) (vl vm : Value) (Y : List OU) (x : OU) : Prop where
  geo : At wx w.heap.size (cgeoI m c s) 23
  l : URow w wx vl (Y ++ [x])
  m : URow w wx vm Y.reverse
  bel : Below w.heap.size w wx
theorem OrdMid.below {w wx wy : World} {m c s : Int} {vl vm : Value} {Y : List OU} {x : OU} (h : OrdMid w wx m c s vl vm Y x) (hb : Below wx.heap.size wx wy) : OrdMid w wy m c s vl vm Y x :=
  ⟨h.geo.below hb h.geo.lt, h.l.below hb, h.m.below hb, below_then h.bel hb⟩
theorem OrdMid.emp {w wx wy : World} {m c s : Int} {vl vm : Value} {Y : List OU} {x : OU} (h : OrdMid w wx m c s vl vm Y x) (hc : Chg (fun k => (Value.slice none 0 0).ownBlock = some k) wx wy) : OrdMid w wy m c s vl vm Y x :=
  ⟨h.geo.mod hc (fun e => by cases e), h.l.mod hc (fun g _ e => by cases e), h.m.mod hc (fun g _ e => by cases e), Chg.own h.bel hc (fun k hk => by cases hk)⟩
theorem ouCells_slice {w : World} {x : OU} (h : Seg w x.1 x.2.2) : ∀ u ∈ ouCells x, u.oneCell' = true := by
  obtain ⟨a, c, e⟩ := h.shape
  intro u hu
  unfold ouCells at hu
  rw [e] at hu
  simp at hu
  rcases hu with rfl | rfl <;> rfl
theorem ouRow_slice {w : World} {Y : List OU} (h : ∀ x ∈ Y, Seg w x.1 x.2.2) : ∀ u ∈ ouRow Y, u.oneCell' = true := by
  intro u hu
  unfold ouRow elems at hu
  obtain ⟨j, hj, hu⟩ := List.mem_flatMap.1 hu
  have hj' : j < Y.length := by simpa using hj
  have e : Y.getD j ou0 = Y[j] := by rw [List.getD_eq_getElem?_getD, List.getElem?_eq_getElem hj']; rfl
  rw [e] at hu
  exact ouCells_slice (h _ (List.getElem_mem hj')) u hu

theorem ord_step {w W w2 : World} {m c s : Int} {vl vm v1 : Value} {Y : List OU} {x : OU} (h : OrdAt w W m c s vl vm Y) (hs : Seg w x.1 x.2.2)
    (hrow : w2.ownsRow w.heap.size 60 2 v1 (Y.length + 1) (ouRow Y ++ ouCells x)) (hc : Chg (fun k => vl.ownBlock = some k) W w2)
    (hk : ∀ B' u k ys, W.ownsRow B' 60 2 u k ys → (u.ownBlock = vl.ownBlock → k ≤ Y.length) → w2.ownsRow B' 60 2 u k ys) : OrdMid w w2 m c s v1 vm Y x := by
  refine ⟨h.geo.mod hc (own_ne_at h.l.row h.geo (by decide)), ⟨?_, fun y hy => ?_⟩, ⟨hk _ _ _ _ h.m.row (fun _ => by rw [List.length_reverse]; exact Nat.le_refl _), h.m.dat⟩, Chg.own h.bel hc (fun k hk => (h.l.row.lt k hk).1)⟩
  · rw [ouRow_app, ouRow_one, List.length_append, List.length_singleton]
    exact hrow
  · rcases List.mem_append.1 hy with hy | hy
    · exact h.l.dat y hy
    · obtain rfl : y = x := by simpa using hy
      exact hs

theorem ord_apart {w W : World} {m c s : Int} {v1 vm v2 : Value} {Y : List OU} {x : OU} (h : OrdMid w W m c s v1 vm Y x) (hv : v2.ownBlock = Value.ownBlock (.slice none 0 0) ∨ v2.ownBlock = some W.heap.size) : v1.ownBlock ≠ v2.ownBlock := by
  obtain ⟨g, cap, e, hB, hg⟩ := ownsRow_full h.l.row (by rw [List.length_append]; simp)
  rw [e]
  rcases hv with h | h
  · rw [h]; intro e; cases e
  · rw [h]
    intro e
    simp only [Value.ownBlock, Option.some.injEq] at e
    omega

theorem ord_end {w W w5 : World} {m c s : Int} {v1 vm v2 v3 : Value} {Y : List OU} {x : OU} (h : OrdMid w W m c s v1 vm Y x) (hap : v1.ownBlock ≠ v2.ownBlock)
    (hr2 : W.ownsRow w.heap.size 60 2 v2 1 (ouCells x))
    (hrow : w5.ownsRow w.heap.size 60 2 v3 (1 + Y.length) (ouCells x ++ ouRow Y.reverse)) (hc : Chg (fun k => v2.ownBlock = some k) W w5)
    (hk : ∀ B' u k ys, W.ownsRow B' 60 2 u k ys → (u.ownBlock = v2.ownBlock → k ≤ 1) → w5.ownsRow B' 60 2 u k ys) : OrdAt w w5 m c s v1 v3 (Y ++ [x]) := by
  refine ⟨h.geo.mod hc (own_ne_at hr2 h.geo (by decide)), ⟨hk _ _ _ _ h.l.row (fun e => absurd e hap), h.l.dat⟩, ⟨?_, fun y hy => h.l.dat y (List.mem_reverse.1 hy)⟩, fun e => ?_, Chg.own h.bel hc (fun k hk => (hr2.lt k hk).1)⟩
  · rw [List.reverse_append, List.reverse_singleton, ouRow_app, ouRow_one, List.length_append, List.length_singleton, List.length_reverse]
    exact hrow
  · simp at e
theorem ord_news {w W : World} {m c s : Int} {v1 : Value} {Y : List OU} {x : OU} {gm cm : Nat} (h : OrdMid w W m c s v1 (.slice (some ⟨gm, 0, none⟩) Y.length cm) Y x) : ∀ j u, (ouRow Y.reverse)[j]? = some u → W.cell? ((⟨gm, 0, none⟩ : Addr).add j) = some u := by
  have h' := h.m.row
  rw [List.length_reverse] at h'
  exact h'.cells (g := gm) rfl
theorem ord_first {w W : World} {m c s : Int} {v1 vm v2 : Value} {x : OU} (h : OrdMid w W m c s v1 vm [] x) (hr2 : W.ownsRow w.heap.size 60 2 v2 1 (ouCells x)) : OrdAt w W m c s v1 v2 ([] ++ [x]) :=
  ⟨h.geo, h.l, ⟨by rw [List.nil_append, List.reverse_singleton, ouRow_one]; exact hr2, fun y hy => h.l.dat y (List.mem_reverse.1 hy)⟩, fun e => by simp at e, h.bel⟩

/-- .. and while the rows are looked at. -/
structure OrdRun (w wx : World) (m c s : Int) (vl vm : Value) (Y : List OU) (bA : Nat) (va : Value) (A : List (Value × List OP)) (bB : Nat) (vb : Value) (B : List (Value × List OP)) : Prop where
  ord : OrdAt w wx m c s vl vm Y
  a : RowsAt wx bA va A
  b : RowsAt wx bB vb B
theorem OrdRun.below {w wx wy : World} {m c s : Int} {vl vm va vb : Value} {Y : List OU} {bA bB : Nat} {A B : List (Value × List OP)} (h : OrdRun w wx m c s vl vm Y bA va A bB vb B) (hb : Below wx.heap.size wx wy) : OrdRun w wy m c s vl vm Y bA va A bB vb B :=
  ⟨h.ord.below hb, h.a.below hb, h.b.below hb⟩
theorem rows_cell {wx : World} {B : Nat} {a : Option Addr} {n c : Nat} {L : List (Value × List OP)} (h : RowsAt wx B (.slice a n c) L) (hl : 0 < L.length) : ∃ g, a = some ⟨g, 0, none⟩ ∧ g < wx.heap.size ∧ ∀ j (hj : j < L.length), wx.cell? ⟨g, j, none⟩ = some (L[j]'hj).1 := by
  obtain ⟨g, cap, hve, hB, hg, hc, -⟩ := ownsRow_cell h.row hl
  simp only [Value.slice.injEq] at hve
  obtain ⟨rfl, -, rfl⟩ := hve
  refine ⟨g, rfl, hg, fun j hj => ?_⟩
  rw [hc j hj, List.getElem?_map, List.getElem?_eq_getElem hj]
  rfl

theorem rows_cellAt {wx : World} {B g n c : Nat} {L : List (Value × List OP)} (h : RowsAt wx B (.slice (some ⟨g, 0, none⟩) n c) L) {j : Nat} (hj : j < L.length) {u : Value} (hu : (L[j]'hj).1 = u) : wx.cell? ⟨g, j, none⟩ = some u := by
  obtain ⟨g', e, -, hc⟩ := rows_cell h (by omega)
  simp only [Option.some.injEq, Addr.mk.injEq, and_true] at e
  subst e
  rw [← hu]
  exact hc j hj
theorem rows_pats {wx : World} {B : Nat} {v : Value} {L : List (Value × List OP)} (h : RowsAt wx B v L) {j : Nat} (hj : j < L.length) {u : Value} (hu : (L[j]'hj).1 = u) {ps : List Pat} (hp : (L[j]'hj).2.map (·.1) = ps) (hf : ps.length ≤ 300) : PSeg wx u ps := by
  rw [← hu, ← hp]
  refine (h.each _ (List.getElem_mem hj)).pseg ?_
  rw [← hp, List.length_map] at hf
  omega

set_option maxRecDepth 100000 in
set_option maxHeartbeats 16000000 in
theorem order_main (m c s : Int) (vu : Value) (us : List (Int × List UInt8)) (w : World) (hu : PutSeg w vu us) (hfew : us.length ≤ 300)
    (hknown : ∀ W, Calls Try.prog 27 #[] W fun e w' => e = .returned (.bool true) ∧ Below W.heap.size W w')
    (hm1 : muchIs (us.map (·.2.length)) = false) :
    Calls Try.prog 5 #[geo m c s, vu] w fun e w' => e = .returned (.bool true) ∧ Below w.heap.size w w' := by
  have hb0 : Below w.heap.size w (w.alloc (.cells (cgeoI m c s) 23)) := (Below.refl _ _).alloc (Nat.le_refl _) _
  have HO0 : Hid (OrdAt w (w.alloc (.cells (cgeoI m c s) 23)) m c s (.slice none 0 0) (.slice none 0 0) []) := ⟨At.new _ _ _, URow.nil _ _, URow.nil _ _, fun _ => rfl, hb0⟩
  have hmp : Hid (∀ W, Below w.heap.size w W → _) := fun W hW => much_puts vu us W (hu.below hW)
  rw [hm1] at hmp
  have hdl : ∀ u ∈ us, u.2.length ≤ 140737488355000 := by obtain ⟨_, _, _, _, h, _⟩ := hu; exact h
  have HDL := Lib.hid hdl
  have HKN := Lib.hid hknown
  have HU := Lib.hid hu
  have HB0 := Lib.hid hb0
  have h300 : decide ((300 : Int) < (us.length : Int)) = false := decide_eq_false (by omega)
  obtain ⟨ua, uc, rfl⟩ := hu.shape
  clear hu hm1 hknown hdl hb0
  unfold geo at *
  go_enter Try.func5, Try.ntmps5
  go_wp2_with (first
    | (go_at_call 25; (with_reducible refine (hmp.out _ HB0.out).mono ?_); rintro e w1 ⟨rfl, rfl⟩))
  clear hmp h300
  go_loopw [5, 6, 7] (fun vl vm q wx => ∃ (i : Nat) (Y : List OU), i ≤ us.length ∧ q = .int .i64 i ∧ Y.length ≤ i ∧ Unlike (Y.map (·.2)) ∧ (∀ y ∈ Y, y.2 ∈ us) ∧ OrdAt w wx m c s vl vm Y) (fun _ _ q _ => us.length - (intOf q).toNat)
  case atStart => exact ⟨0, [], by omega, rfl, by simp, List.Pairwise.nil, fun y hy => (by cases hy), HO0.out⟩
  case round =>
    obtain ⟨i, Y, hi, rfl, hYi, hun, hmem, hO⟩ := hrel
    have HO := Lib.hid hO
    have HUN := Lib.hid hun
    have HMEM := Lib.hid hmem
    clear hO hun hmem HO0 HB0
    by_cases hi2 : i < us.length
    · as_aux_lemma =>
        have I1 : Hid (i + 1 ≤ us.length) := hi2
        obtain ⟨b, o, rfl, hlt, hx⟩ := PutSeg.full HU.out (by omega)
        obtain ⟨p0, xv, p1, hsx⟩ := hx i hi2
        have hgi : us[i]'hi2 ∈ us := List.getElem_mem hi2
        have HGI := Lib.hid hgi
        obtain ⟨xa, xc, rfl⟩ := hsx.shape
        have HSX := Lib.hid hsx
        have P0 : Hid (∀ W, Below w.heap.size w W → W.cell? ⟨b, o + i * 2, none⟩ = some (.int .i64 (us[i]'hi2).1)) := fun W hW => (hW.cell (p := ⟨b, o + i * 2, none⟩) hlt).trans p0
        have P1 : Hid (∀ W, Below w.heap.size w W → W.cell? ⟨b, o + i * 2 + 1, none⟩ = some (.slice xa (us[i]'hi2).2.length xc)) := fun W hW => (hW.cell (p := ⟨b, o + i * 2 + 1, none⟩) hlt).trans p1
        clear hx p0 p1 hgi hsx
        obtain ⟨ui, hui⟩ : ∃ ui, us[i]'hi2 = ui := ⟨_, rfl⟩
        simp only [hui] at HGI HSX P0 P1
        obtain ⟨bl, dd⟩ := ui
        simp only at HGI HSX P0 P1
        generalize dd.length = dl at *
        go_upto_block 2 with fail
        go_cut [8] from 36 to 55 (fun s8 wx => s8 = .bool (hasTo Y bl Y.length) ∧ OrdAt w wx m c s u5 u6 Y)
        case first =>
          obtain ⟨la, lc, rfl⟩ := ownsRow_shape HO.out.l.row
          go_wp2_with fail
          go_loopw [8, 9] (fun h q wx => ∃ k : Nat, k ≤ Y.length ∧ q = .int .i64 k ∧ h = .bool (hasTo Y bl k) ∧ OrdAt w wx m c s (.slice la Y.length lc) u6 Y) (fun _ q _ => Y.length - (intOf q).toNat)
          case atStart => exact ⟨0, by omega, rfl, by rw [hasTo_zero], HO.out⟩
          case round =>
            obtain ⟨k, hk, rfl, rfl, hO2⟩ := hrel
            have HO2 := Lib.hid hO2
            clear hO2 HO
            by_cases hk2 : k < Y.length
            · have K1 : Hid (k + 1 ≤ Y.length) := hk2
              obtain ⟨g, rfl, hc⟩ := HO2.out.lcell (by omega)
              obtain ⟨c0, -⟩ := hc k hk2
              have d0 := P0.out _ HO2.out.bel
              have hst := hasTo_step Y bl k hk2
              clear hc
              cases hh : hasTo Y bl k
              · rw [hh, Bool.false_or] at hst
                have HST := Lib.hid hst
                clear hst hh
                generalize (Y[k]'hk2).2.1 = yb at *
                go_wp2_with fail
                go_quiet (fail)
                go_wp2_with fail
                go_roundw
                case measure => simp [intOf]; omega
                exact ⟨k + 1, K1.out, by go_num, by rw [HST.out]; rfl, HO2.out.below (below_drewN (Below.refl _ _) nq)⟩
              · rw [hh, Bool.true_or] at hst
                have HST := Lib.hid hst
                clear hst hh
                generalize (Y[k]'hk2).2.1 = yb at *
                go_wp2_with fail
                go_quiet (fail)
                go_wp2_with fail
                go_roundw
                case measure => simp [intOf]; omega
                exact ⟨k + 1, K1.out, by go_num, by rw [HST.out], HO2.out.below (below_drewN (Below.refl _ _) nq)⟩
            · obtain rfl : k = Y.length := by omega
              go_wp2_with fail
              go_meet
              exact ⟨rfl, HO2.out⟩
        case rest =>
          obtain ⟨rfl, hO3⟩ := hcut
          have HO3 := Lib.hid hO3
          clear hO3 HO
          cases hh : hasTo Y bl Y.length
          · have HN := Lib.hid (hasTo_none hh)
            have c0 := P0.out _ HO3.out.bel
            have c1 := P1.out _ HO3.out.bel
            clear hh
            by_cases hY : Y = []
            · as_aux_lemma =>
                subst hY
                obtain ⟨hst, -, ipi, ipz, hip, -, -, -, -⟩ := slice_puts
                have HST := Lib.hid hst
                have HIP := Lib.hid hip
                clear hst hip
                have hu6 := HO3.out.emp rfl
                subst hu6
                have HX : Hid (Seg w (Value.slice xa dl xc) dd) := HSX.out
                have HO4 := Lib.hid (HO3.out.below ((Below.refl _ _).alloc (Nat.le_refl _) (.cells #[.int .i64 bl, .slice xa dl xc] 60)))
                go_wp2_with (first
                  | (refine wpList_append_keeps rfl _ _ 57 60 2 32 rfl slice_puts w.heap.size u5 0 [] rfl HO4.out.l.row _ 1 1 [.int .i64 bl, .slice xa dl xc] rfl rfl (new_two _ _ _ _ _ (by first | rfl | simp)) (by intro u hu; simp at hu; rcases hu with rfl | rfl <;> rfl) (by unfold maxLen; omega) (by omega) HO4.out.bel.size (by omega) ?_; intro v1 w2 hrow hvb hc hkk; have HM2 := Lib.hid (ord_step (x := (.slice xa dl xc, bl, dd)) HO4.out HX.out hrow hc hkk); have c0 := P0.out _ HM2.out.bel; have c1 := P1.out _ HM2.out.bel; have HM3 := Lib.hid (HM2.out.below ((Below.refl _ _).alloc (Nat.le_refl _) (.cells #[.int .i64 bl, .slice xa dl xc] 60))); clear hrow hvb hc hkk)
                  | (refine wpList_append_keeps rfl _ _ 57 60 2 32 rfl slice_puts w.heap.size (.slice none 0 0) 0 [] rfl (World.ownsRow_nil _ _ _ _) _ 1 1 [.int .i64 bl, .slice xa dl xc] rfl rfl (new_two _ _ _ _ _ (by first | rfl | simp)) (by intro u hu; simp at hu; rcases hu with rfl | rfl <;> rfl) (by unfold maxLen; omega) (by omega) HM3.out.bel.size (by omega) ?_; intro v2 w4 hrow hvb hc hkk; have HM4 := Lib.hid (HM3.out.emp hc); have HR4 := Lib.hid hrow; clear hrow hvb hc hkk)
                  | (refine wpList_append_own_none rfl _ _ 57 rfl w.heap.size 60 ipi 2 HST.out HIP.out v2 1 _ rfl HR4.out rfl ?_))
                go_roundw
                case measure => simp [intOf]; omega
                exact ⟨i + 1, [] ++ [(.slice xa dl xc, bl, dd)], I1.out, by go_num, by simp, unlike_snoc HUN.out (fun y hy => (by cases hy)), fun y hy => (by rw [List.nil_append, List.mem_singleton] at hy; rw [hy]; exact HGI.out), ord_first (x := (.slice xa dl xc, bl, dd)) HM4.out HR4.out⟩
            · as_aux_lemma =>
                have hY0 : 0 < Y.length := Nat.pos_of_ne_zero fun e => hY (List.eq_nil_of_length_eq_zero e)
                have HX : Hid (Seg w (Value.slice xa dl xc) dd) := HSX.out
                have HO4 := Lib.hid (HO3.out.below ((Below.refl _ _).alloc (Nat.le_refl _) (.cells #[.int .i64 bl, .slice xa dl xc] 60)))
                obtain ⟨gm, cm, hu6, -, -⟩ := ownsRow_full HO3.out.m.row (by rw [List.length_reverse]; exact hY0)
                rw [List.length_reverse] at hu6
                subst hu6
                go_wp2_with (first
                  | (refine wpList_append_keeps rfl _ _ 57 60 2 32 rfl slice_puts w.heap.size u5 Y.length _ rfl HO4.out.l.row _ 1 1 [.int .i64 bl, .slice xa dl xc] rfl rfl (new_two _ _ _ _ _ (by first | rfl | simp)) (by intro u hu; simp at hu; rcases hu with rfl | rfl <;> rfl) (by unfold maxLen; omega) (by omega) HO4.out.bel.size (by omega) ?_; intro v1 w2 hrow hvb hc hkk; have HM2 := Lib.hid (ord_step (x := (.slice xa dl xc, bl, dd)) HO4.out HX.out hrow hc hkk); have c0 := P0.out _ HM2.out.bel; have c1 := P1.out _ HM2.out.bel; have HM3 := Lib.hid (HM2.out.below ((Below.refl _ _).alloc (Nat.le_refl _) (.cells #[.int .i64 bl, .slice xa dl xc] 60))); clear hrow hvb hc hkk)
                  | (refine wpList_append_keeps rfl _ _ 57 60 2 32 rfl slice_puts w.heap.size (.slice none 0 0) 0 [] rfl (World.ownsRow_nil _ _ _ _) _ 1 1 [.int .i64 bl, .slice xa dl xc] rfl rfl (new_two _ _ _ _ _ (by first | rfl | simp)) (by intro u hu; simp at hu; rcases hu with rfl | rfl <;> rfl) (by unfold maxLen; omega) (by omega) HM3.out.bel.size (by omega) ?_; intro v2 w4 hrow hvb hc hkk; have HAP := Lib.hid (ord_apart HM3.out hvb); have HM4 := Lib.hid (HM3.out.emp hc); have HR4 := Lib.hid hrow; clear hrow hvb hc hkk)
                  | (refine wpList_append_keeps rfl _ _ 57 60 2 32 rfl slice_puts w.heap.size v2 1 _ rfl HR4.out ⟨gm, 0, none⟩ Y.length cm (ouRow Y.reverse) rfl (by rw [ouRow_len, List.length_reverse]) (ord_news HM4.out) (ouRow_slice HM4.out.m.dat) (by unfold maxLen; omega) (by omega) HM4.out.bel.size (by omega) ?_; intro v3 w5 hrow hvb hc hkk; have HO5 := Lib.hid (ord_end HM4.out HAP.out HR4.out hrow hc hkk); clear hrow hvb hc hkk))
                go_roundw
                case measure => simp [intOf]; omega
                exact ⟨i + 1, Y ++ [(.slice xa dl xc, bl, dd)], I1.out, by go_num, by rw [List.length_append, List.length_singleton]; omega, unlike_snoc HUN.out HN.out, fun y hy => (by
                  rcases List.mem_append.1 hy with hy | hy
                  · exact HMEM.out y hy
                  · rw [List.mem_singleton] at hy
                    rw [hy]
                    exact HGI.out), HO5.out⟩
          · go_wp2_with fail
            go_roundw
            case measure => simp [intOf]; omega
            exact ⟨i + 1, Y, I1.out, by go_num, by omega, HUN.out, HMEM.out, HO3.out⟩
    · as_aux_lemma =>
        obtain ⟨Z, hZ⟩ : ∃ Z, Y.map (·.2) = Z := ⟨_, rfl⟩
        have hZr : Y.reverse.map (·.2) = Z.reverse := by rw [List.map_reverse, hZ]
        have hYl : Y.length ≤ 300 := by omega
        have hZl : Z.length = Y.length := by rw [← hZ, List.length_map]
        have hpl := HO.out.l.pseg HO.out.bel (by omega) HMEM.out HDL.out
        have hpm := HO.out.m.pseg HO.out.bel (by rw [List.length_reverse]; omega) (fun y hy => HMEM.out y (List.mem_reverse.1 hy)) HDL.out
        rw [hZ] at hpl
        rw [hZr] at hpm
        have hunz := HUN.out
        rw [hZ] at hunz
        have HPLEN : Hid (∀ u ∈ Z, u.2.length ≤ 140737488355000) := by obtain ⟨_, _, _, _, h, _⟩ := hpl; exact h
        have HPL := Lib.hid hpl
        have HPM := Lib.hid hpm
        have HZL := Lib.hid hZl
        have HZE := Lib.hid hZ
        have HUZ := Lib.hid hunz
        have HYL := Lib.hid hYl
        obtain ⟨la, lc, hu5⟩ := ownsRow_shape HO.out.l.row
        obtain ⟨ma, mc, hu6⟩ := ownsRow_shape HO.out.m.row
        rw [List.length_reverse] at hu6
        subst hu5
        subst hu6
        have hg := HO.out.geo
        have c0 := hg.cell 0
        have c1 := hg.cell 1
        have c2 := hg.cell 2
        clear hZ hZr hYl hZl hpl hpm hunz hg HUN HMEM
        by_cases hz : splitCode m c s Z = 0
        · as_aux_lemma =>
            obtain ⟨M, C, S, rfl, rfl, rfl, ok⟩ := split_zero hz
            have ok' : BatchOk M C S Z.reverse := ⟨ok.hg, by rw [List.length_reverse]; exact ok.few, fun u hu => ok.there u (List.mem_reverse.1 hu), fun u hu => ok.len u (List.mem_reverse.1 hu)⟩
            have HSL : Hid (∀ W, Below wr.heap.size wr W → Calls Try.prog 26 #[geo M C S, .slice la Y.length lc] W _) := fun W hW => plan_SplitE M C S _ Z W ok (HPL.out.below hW)
            have HSM : Hid (∀ W, Below wr.heap.size wr W → Calls Try.prog 26 #[geo M C S, .slice ma Y.length mc] W _) := fun W hW => plan_SplitE M C S _ Z.reverse W ok' (HPM.out.below hW)
            have HOK := Lib.hid ok
            clear hz ok ok'
            unfold geo at HSL HSM
            go_upto_region 20 with (first
              | (go_at_call 26; (with_reducible refine (HSM.out _ HB1.out).mono ?_); rintro e w2 ⟨⟨vb, LB, rfl, hLr, hSI⟩, hb2⟩; obtain ⟨ba, bc, rfl⟩ := ownsRow_shape hLr.row; have HLB := Lib.hid hLr; have HSB := Lib.hid hSI; have HB2 := Lib.hid hb2; clear hb2 hLr hSI)
              | (go_at_call 26; (with_reducible refine (HSL.out _ (Below.refl _ _)).mono ?_); rintro e w1 ⟨⟨va, LA, rfl, hLr, hSI⟩, hb1⟩; obtain ⟨aa, ac, rfl⟩ := ownsRow_shape hLr.row; have HLA := Lib.hid hLr; have HSA := Lib.hid hSI; have HB1 := Lib.hid hb1; have hg := (HO.out.below hb1).geo; have c0 := hg.cell 0; have c1 := hg.cell 1; have c2 := hg.cell 2; clear hb1 hLr hSI hg))
            have hLAB := split_order HOK.out HUZ.out HSA.out HSB.out
            have hLen : LB.length = LA.length := by have h := congrArg List.length hLAB; rw [List.length_map, List.length_map] at h; exact h.symm
            have HLEN := Lib.hid hLen
            have HLAB := Lib.hid hLAB
            have HRUN : Hid (OrdRun w w2 M C S (.slice la Y.length lc) (.slice ma Y.length mc) Y wr.heap.size (.slice aa LA.length ac) LA w1.heap.size (.slice ba LB.length bc) LB) := ⟨(HO.out.below HB1.out).below HB2.out, HLA.out.below HB2.out, HLB.out⟩
            have HCNT := Lib.hid (split_count HOK.out HUZ.out HSA.out)
            have hLA5 : LA.length ≤ 512 := by have h1 := split_most HSA.out; have h2 := most_few (M := M) (C := C) (S := S) HOK.out.few; omega
            have hne1 : ((LA.length : Int) != (LA.length : Int)) = false := by simp
            rw [hLen] at HRUN ⊢
            generalize wr.heap.size = bA at *
            generalize w1.heap.size = bB at *
            clear hLAB hLen HLA HLB HB1 HSM HSL c0 c1 c2 HO HPL HPM
            go_wp2_with (first
              | (go_at_call 27; (with_reducible refine (HKN.out _).mono ?_); rintro e w3 ⟨rfl, hb3⟩; have HR3 := Lib.hid (HRUN.out.below hb3); clear hb3))
            clear HRUN hne1 HKN HB2
            have HSUM := Lib.hid (firstSum_le' LA)
            go_loopw [15, 16] (fun n q wx => ∃ i : Nat, i ≤ LA.length ∧ q = .int .i64 i ∧ n = .int .i64 (firstSum LA i : Nat) ∧ OrdRun w wx M C S (.slice la Y.length lc) (.slice ma Y.length mc) Y bA (.slice aa LA.length ac) LA bB (.slice ba LA.length bc) LB) (fun _ q _ => LA.length - (intOf q).toNat)
            case atStart => exact ⟨0, by omega, rfl, by simp [firstSum], HR3.out⟩
            case round =>
              obtain ⟨i, hi, rfl, rfl, hR⟩ := hrel
              have HR := Lib.hid hR
              clear hR HR3
              by_cases hi2 : i < LA.length
              · as_aux_lemma =>
                  have I1 : Hid (i + 1 ≤ LA.length) := hi2
                  have hi3 : i < LB.length := by have := HLEN.out; omega
                  obtain ⟨ga, rfl, -, -⟩ := rows_cell HR.out.a (by omega)
                  obtain ⟨gb, rfl, -, -⟩ := rows_cell HR.out.b (by omega)
                  obtain ⟨xa, hxa⟩ : ∃ xa, (LA[i]'hi2).1 = xa := ⟨_, rfl⟩
                  obtain ⟨xb, hxb⟩ : ∃ xb, (LB[i]'hi3).1 = xb := ⟨_, rfl⟩
                  obtain ⟨ps, hps⟩ : ∃ ps, (LA[i]'hi2).2.map (·.1) = ps := ⟨_, rfl⟩
                  have hpsb : (LB[i]'hi3).2.map (·.1) = ps := by
                    have h := congrArg (fun l => l[i]?) HLAB.out
                    simp only [List.getElem?_map, List.getElem?_eq_getElem hi2, List.getElem?_eq_getElem hi3, Option.map_some, Option.some.injEq] at h
                    rw [← h, hps]
                  have hlen : (LA[i]'hi2).2.length = ps.length := by rw [← hps, List.length_map]
                  have hfs : firstSum LA (i + 1) = firstSum LA i + ps.length := by rw [firstSum_succ LA i hi2, hlen]
                  have hbd : firstSum LA i + ps.length ≤ 300 := by
                    have h1 := HSUM.out (i + 1) hi2
                    have h2 := HCNT.out
                    have h3 := HZL.out
                    have h4 := HYL.out
                    omega
                  have hps3 : ps.length ≤ 300 := by omega
                  have hPT : ∀ p ∈ ps, _ := fun p hp => split_patch HOK.out HUZ.out HSA.out (List.getElem_mem hi2) (by rw [hps]; exact hp)
                  have HPT := Lib.hid hPT
                  have HFS := Lib.hid hfs
                  have HBD := Lib.hid hbd
                  have HXA := Lib.hid hxa
                  have HXB := Lib.hid hxb
                  have HPS := Lib.hid hps
                  have hpa := rows_pats HR.out.a hi2 hxa hps (by omega)
                  have hpb := rows_pats HR.out.b hi3 hxb hpsb (by omega)
                  obtain ⟨pa, pc, rfl⟩ := hpa.shape
                  obtain ⟨pb, pd, rfl⟩ := hpb.shape
                  have HSP : Hid (∀ W, Below wr.heap.size wr W → _) := fun W hW => same_pats _ _ ps W (hpa.below hW) (hpb.below hW)
                  have ca := rows_cellAt HR.out.a hi2 hxa
                  have cb := rows_cellAt HR.out.b hi3 hxb
                  have HK : Hid (∀ X, Below wr.heap.size wr X → X.cell? ⟨ga, i, none⟩ = some (.slice pa ps.length pc) ∧ X.cell? ⟨gb, i, none⟩ = some (.slice pb ps.length pd)) := fun X hX => ⟨(hX.cell (p := ⟨ga, i, none⟩) (block_lt_of_cell ca)).trans ca, (hX.cell (p := ⟨gb, i, none⟩) (block_lt_of_cell cb)).trans cb⟩
                  clear hpa hpb ca cb hxa hxb hps hpsb hlen hfs hPT hbd
                  go_wp2_with fail
                  go_region_held3 (fun w' => w'.cell? ⟨ga, i, none⟩ = some (.slice pa ps.length pc) ∧ w'.cell? ⟨gb, i, none⟩ = some (.slice pb ps.length pd))
                    (first | exact HK.out _ (Below.refl _ _) | exact HK.out _ (Below.refl _ _).drew | exact HK.out _ HB4.out)
                    (first | (go_at_call 28; (with_reducible refine (HSP.out _ (Below.refl _ _).drew).mono ?_); rintro e w4 ⟨rfl, hb4⟩; have HB4 := Lib.hid ((Below.refl _ _).drew.trans hb4); clear hb4))
                  have HR4 := Lib.hid (HR.out.below HB4.out)
                  clear HK HSP HR HB4
                  go_wp2_with fail
                  go_loopw [15, 17] (fun n q wx => ∃ k : Nat, k ≤ ps.length ∧ q = .int .i64 k ∧ n = .int .i64 (firstSum LA i + k : Nat) ∧ OrdRun w wx M C S (.slice la Y.length lc) (.slice ma Y.length mc) Y bA (.slice (some ⟨ga, 0, none⟩) LA.length ac) LA bB (.slice (some ⟨gb, 0, none⟩) LA.length bc) LB) (fun _ q _ => ps.length - (intOf q).toNat)
                  case atStart => exact ⟨0, by omega, rfl, rfl, HR4.out⟩
                  case round =>
                    obtain ⟨k, hk, rfl, rfl, hRk⟩ := hrel
                    have HRK := Lib.hid hRk
                    have d0 := rows_cellAt hRk.a hi2 HXA.out
                    clear hRk HR4
                    by_cases hk2 : k < ps.length
                    · as_aux_lemma =>
                        have K1 : Hid (k + 1 ≤ ps.length) := hk2
                        obtain ⟨pb', po, rfl, hlt, hx⟩ := PSeg.full (rows_pats HRK.out.a hi2 HXA.out HPS.out (by have := HBD.out; omega)) (by omega)
                        obtain ⟨e0, e1, u, e2, hsu⟩ := hx k hk2
                        obtain ⟨r, m, hr, hm, hr2, hm2, hmp, hd128, hfound⟩ := HPT.out _ (List.getElem_mem hk2)
                        rw [hr] at e1
                        rw [hm] at e0
                        have HAT : Hid (∀ W, Calls Try.prog 29 #[geo M C S, .int .i64 m, .int .i64 r] W _) := fun W => ref_at M C S r m W HOK.out.hg hr2 hm2 hmp
                        unfold geo at HAT
                        generalize hbk : blockAt M C m r = bk at *
                        have hfall := foundTo_all (by obtain ⟨u, h1, h2, h3⟩ := hfound; exact ⟨u, h1, h2, h3⟩ : ∃ u ∈ Z, u.1 = ((bk : Nat) : Int) ∧ u.2 = (ps[k]'hk2).d)
                        have HFA := Lib.hid hfall
                        have HDL2 : Hid ((ps[k]'hk2).d.length = 128) := hd128
                        obtain ⟨dk, hdk⟩ : ∃ dk, (ps[k]'hk2).d = dk := ⟨_, rfl⟩
                        rw [hdk] at HFA HDL2
                        have HDK := Lib.hid hdk
                        have hgg := HRK.out.ord.geo
                        have c0 := hgg.cell 0
                        have c1 := hgg.cell 1
                        have c2 := hgg.cell 2
                        have HK : Hid (∀ X, Below wr.heap.size wr X → X.cell? ⟨w.heap.size, 0, none⟩ = some (.int .i64 M) ∧ X.cell? ⟨w.heap.size, 1, none⟩ = some (.int .i64 C) ∧ X.cell? ⟨w.heap.size, 2, none⟩ = some (.int .i64 S) ∧ X.cell? ⟨ga, i, none⟩ = some (.slice (some ⟨pb', po, none⟩) ps.length pc) ∧ X.cell? ⟨pb', po + k * 3, none⟩ = some (.int .i64 m) ∧ X.cell? ⟨pb', po + k * 3 + 1, none⟩ = some (.int .i64 r)) := fun X hX =>
                          ⟨(hX.cell (p := ⟨w.heap.size, 0, none⟩) hgg.lt).trans c0, (hX.cell (p := ⟨w.heap.size, 1, none⟩) hgg.lt).trans c1, (hX.cell (p := ⟨w.heap.size, 2, none⟩) hgg.lt).trans c2, (hX.cell (p := ⟨ga, i, none⟩) (block_lt_of_cell d0)).trans d0, (hX.cell (p := ⟨pb', po + k * 3, none⟩) hlt).trans e0, (hX.cell (p := ⟨pb', po + k * 3 + 1, none⟩) hlt).trans e1⟩
                        have hsum : firstSum LA i + k + 1 ≤ 300 := by have := HBD.out; omega
                        have HNX : Hid (RowKit.wrap64 (((firstSum LA i : Nat) : Int) + (k : Int) + 1) = ((firstSum LA i + (k + 1) : Nat) : Int)) := (wr_small' (by omega) (by omega)).trans (by omega)
                        clear hx e0 e1 e2 hsu hr hm hr2 hm2 hmp hd128 hfound hbk hfall hdk hgg c0 c1 c2 hsum
                        go_wp2_with fail
                        go_region_held3 (fun w' => w'.cell? ⟨w.heap.size, 0, none⟩ = some (.int .i64 M) ∧ w'.cell? ⟨w.heap.size, 1, none⟩ = some (.int .i64 C) ∧ w'.cell? ⟨w.heap.size, 2, none⟩ = some (.int .i64 S) ∧ w'.cell? ⟨ga, i, none⟩ = some (.slice (some ⟨pb', po, none⟩) ps.length pc) ∧ w'.cell? ⟨pb', po + k * 3, none⟩ = some (.int .i64 m) ∧ w'.cell? ⟨pb', po + k * 3 + 1, none⟩ = some (.int .i64 r))
                          (first | exact HK.out _ (Below.refl _ _) | exact HK.out _ (Below.refl _ _).drew | exact HK.out _ HB5.out)
                          (first | (go_at_call 29; (with_reducible refine (HAT.out _).mono ?_); rintro e w5 ⟨rfl, hb5⟩; have HB5 := Lib.hid ((Below.refl _ _).drew.trans hb5); clear hb5))
                        have HR5 := Lib.hid (HRK.out.below HB5.out)
                        clear HK HAT HRK HB5 d0 hlt
                        go_wp2_with fail
                        go_loopw [21, 22] (fun f q wx => ∃ j : Nat, j ≤ Y.length ∧ q = .int .i64 j ∧ f = .bool (foundTo Z ((bk : Nat) : Int) dk j) ∧ OrdRun w wx M C S (.slice la Y.length lc) (.slice ma Y.length mc) Y bA (.slice (some ⟨ga, 0, none⟩) LA.length ac) LA bB (.slice (some ⟨gb, 0, none⟩) LA.length bc) LB) (fun _ q _ => Y.length - (intOf q).toNat)
                        case atStart => exact ⟨0, by omega, rfl, by rw [foundTo_zero], HR5.out⟩
                        case round =>
                          obtain ⟨j, hj, rfl, rfl, hRj⟩ := hrel
                          have HRJ := Lib.hid hRj
                          clear hRj HR5
                          by_cases hj2 : j < Y.length
                          · as_aux_lemma =>
                              have J1 : Hid (j + 1 ≤ Y.length) := hj2
                              have d0 := rows_cellAt HRJ.out.a hi2 HXA.out
                              obtain ⟨pb2, po2, hpe, hlt, hx⟩ := PSeg.full (rows_pats HRJ.out.a hi2 HXA.out HPS.out (by have := HBD.out; omega)) (by omega)
                              simp only [Option.some.injEq, Addr.mk.injEq, and_true] at hpe
                              obtain ⟨rfl, rfl⟩ := hpe
                              obtain ⟨-, -, u, e2, hsu⟩ := hx k hk2
                              rw [HDK.out] at hsu
                              have hl128 := HDL2.out
                              obtain ⟨gl, rfl, hlc⟩ := HRJ.out.ord.lcell (by omega)
                              obtain ⟨l0, l1⟩ := hlc j hj2
                              have hzj : Z[j]'(by rw [HZL.out]; exact hj2) = (Y[j]'hj2).2 := by
                                have h := HZE.out
                                subst h
                                exact List.getElem_map _
                              have hst := foundTo_step Z ((bk : Nat) : Int) dk j (by rw [HZL.out]; exact hj2)
                              rw [hzj] at hst
                              have hsy := HRJ.out.ord.l.dat _ (List.getElem_mem hj2)
                              have hyl : (Y[j]'hj2).2.2.length ≤ 140737488355000 := by
                                rw [← hzj]
                                have h := HPLEN.out _ (List.getElem_mem (by rw [HZL.out]; exact hj2 : j < Z.length))
                                exact h
                              clear hx hlc hzj
                              obtain ⟨y, hye⟩ : ∃ y, Y[j]'hj2 = y := ⟨_, rfl⟩
                              rw [hye] at l0 l1 hst hsy hyl
                              clear hye
                              obtain ⟨yv, yb, yd⟩ := y
                              simp only at l0 l1 hst hsy hyl
                              cases hh : foundTo Z ((bk : Nat) : Int) dk j
                              · rw [hh, Bool.false_or] at hst
                                by_cases hyb : yb = ((bk : Nat) : Int)
                                · subst hyb
                                  have HST := Lib.hid hst
                                  have HSB : Hid (∀ W, Below wr.heap.size wr W → Calls Try.prog 19 #[yv, u] W _) := fun W hW => same_any yv u yd dk W (by omega) (by omega) ((hsy.below HRJ.out.ord.bel).below hW) (hsu.below hW)
                                  obtain ⟨ya, yc, rfl⟩ := hsy.shape
                                  obtain ⟨ua, ud, rfl⟩ := hsu.shape
                                  have HK : Hid (∀ X, Below wr.heap.size wr X → X.cell? ⟨gl, j * 2, none⟩ = some (.int .i64 ((bk : Nat) : Int)) ∧ X.cell? ⟨gl, j * 2 + 1, none⟩ = some (.slice ya yd.length yc) ∧ X.cell? ⟨ga, i, none⟩ = some (.slice (some ⟨pb', po, none⟩) ps.length pc) ∧ X.cell? ⟨pb', po + k * 3 + 2, none⟩ = some (.slice ua dk.length ud)) := fun X hX =>
                                    ⟨(hX.cell (p := ⟨gl, j * 2, none⟩) (block_lt_of_cell l0)).trans l0, (hX.cell (p := ⟨gl, j * 2 + 1, none⟩) (block_lt_of_cell l1)).trans l1, (hX.cell (p := ⟨ga, i, none⟩) (block_lt_of_cell d0)).trans d0, (hX.cell (p := ⟨pb', po + k * 3 + 2, none⟩) hlt).trans e2⟩
                                  clear l0 l1 d0 e2 hst hsy hsu hh hyl hl128
                                  go_wp2_with fail
                                  go_region_held3 (fun w' => w'.cell? ⟨gl, j * 2, none⟩ = some (.int .i64 ((bk : Nat) : Int)) ∧ w'.cell? ⟨gl, j * 2 + 1, none⟩ = some (.slice ya yd.length yc) ∧ w'.cell? ⟨ga, i, none⟩ = some (.slice (some ⟨pb', po, none⟩) ps.length pc) ∧ w'.cell? ⟨pb', po + k * 3 + 2, none⟩ = some (.slice ua dk.length ud))
                                    (first | exact HK.out _ (Below.refl _ _) | exact HK.out _ (Below.refl _ _).drew | exact HK.out _ HB6.out)
                                    (first | (go_at_call 19; (with_reducible refine (HSB.out _ (Below.refl _ _).drew).mono ?_); rintro e w6 ⟨rfl, hb6⟩; have HB6 := Lib.hid ((Below.refl _ _).drew.trans hb6); clear hb6))
                                  go_wp2_with fail
                                  go_roundw
                                  case measure => simp [intOf]; omega
                                  exact ⟨j + 1, J1.out, by go_num, by rw [HST.out]; simp, HRJ.out.below HB6.out⟩
                                · have hne : (yb == ((bk : Nat) : Int)) = false := by simpa using hyb
                                  have HST : Hid (foundTo Z ((bk : Nat) : Int) dk (j + 1) = false) := by
                                    show _ = _
                                    rw [hst, decide_eq_false (fun h => hyb h.1)]
                                  obtain ⟨ya, yc, rfl⟩ := hsy.shape
                                  clear hst hyb hsy hsu hh
                                  go_wp2_with fail
                                  go_quiet (fail)
                                  go_wp2_with fail
                                  go_roundw
                                  case measure => simp [intOf]; omega
                                  exact ⟨j + 1, J1.out, by go_num, by rw [HST.out], HRJ.out.below (below_drewN (Below.refl _ _) nq)⟩
                              · rw [hh, Bool.true_or] at hst
                                have HST := Lib.hid hst
                                obtain ⟨ya, yc, rfl⟩ := hsy.shape
                                clear hst hsy hsu hh
                                go_wp2_with fail
                                go_quiet (fail)
                                go_wp2_with fail
                                go_roundw
                                case measure => simp [intOf]; omega
                                exact ⟨j + 1, J1.out, by go_num, by rw [HST.out], HRJ.out.below (below_drewN (Below.refl _ _) nq)⟩
                          · as_aux_lemma =>
                              obtain rfl : j = Y.length := by omega
                              have hft : foundTo Z ((bk : Nat) : Int) dk Y.length = true := by rw [← HZL.out]; exact HFA.out
                              rw [hft]
                              clear hft
                              go_wp2_with fail
                              go_roundw
                              case measure => have := K1.out; simp [intOf]; omega
                              exact ⟨k + 1, K1.out, by go_num, congrArg (Value.int .i64) HNX.out, HRJ.out⟩
                    · as_aux_lemma =>
                        obtain rfl : k = ps.length := by omega
                        have HFI := Lib.hid HFS.out
                        go_wp2_with fail
                        go_roundw
                        case measure => have := I1.out; simp [intOf]; omega
                        exact ⟨i + 1, I1.out, by go_num, by rw [HFI.out], HRK.out⟩
              · as_aux_lemma =>
                  obtain rfl : i = LA.length := by omega
                  have hend : ((firstSum LA LA.length : Nat) : Int) = (Y.length : Int) := by rw [HCNT.out, HZL.out]
                  rw [hend]
                  go_wp2_with fail
                  go_ret
                  exact ⟨by simp, HR.out.ord.bel⟩
        · as_aux_lemma =>
            have HSL : Hid (∀ W, Below wr.heap.size wr W → Calls Try.prog 26 #[geo m c s, .slice la Y.length lc] W _) := fun W hW => split_refused m c s _ Z W (HPL.out.below hW) hz
            have HSM : Hid (∀ W, Below wr.heap.size wr W → Calls Try.prog 26 #[geo m c s, .slice ma Y.length mc] W _) := fun W hW => split_refused m c s _ Z.reverse W (HPM.out.below hW) (by rw [splitCode_rev]; exact hz)
            rw [splitCode_rev] at HSM
            have e1 : (splitCode m c s Z != splitCode m c s Z) = false := by simp
            have e2 : (splitCode m c s Z != 0) = true := by simpa using hz
            clear hz
            generalize splitCode m c s Z = q at *
            unfold geo at HSL HSM
            go_wp2_with (first
              | (go_at_call 26; (with_reducible refine (HSM.out _ HB1.out).mono ?_); rintro e w2 ⟨rfl, hb2⟩; have HB2 := Lib.hid hb2; clear hb2)
              | (go_at_call 26; (with_reducible refine (HSL.out _ (Below.refl _ _)).mono ?_); rintro e w1 ⟨rfl, hb1⟩; have HB1 := Lib.hid hb1; have hg := (HO.out.below hb1).geo; have c0 := hg.cell 0; have c1 := hg.cell 1; have c2 := hg.cell 2; clear hb1 hg)
              | (go_at_call 27; (with_reducible refine (HKN.out _).mono ?_); rintro e w3 ⟨rfl, hb3⟩; have HB3 := Lib.hid (below_then HO.out.bel (below_then HB1.out (below_then HB2.out hb3))); clear hb3))
            go_loopw [15, 16] (fun n q wx => n = .int .i64 0 ∧ q = .int .i64 0 ∧ wx = w3) (fun _ _ _ => 0)
            case atStart => exact ⟨rfl, rfl, rfl⟩
            case round =>
              obtain ⟨rfl, rfl, rfl⟩ := hrel
              go_wp2_with fail
              go_ret
              exact ⟨rfl, HB3.out⟩

end Go.Proofs.Ytkcfmkhakghniaa
