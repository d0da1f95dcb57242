/- Patches lent, with marks behind. -/
import Derived.Test.YtpegbgomnpinfaaGreatPlyA
set_option linter.unusedVariables false
namespace Go.Proofs.YtpegbgomnpinfaaGreat
open Go.RowKit

def patMarks : List Value := [.int .i64 (-77), .int .i64 0, .slice none 0 0, .int .i64 (-77), .int .i64 0, .slice none 0 0]

/-- While it is lent: the first blocks. -/
structure LRowP (w : World) (lo : Nat) (v : Value) (Y : List OP) : Prop where
  row : w.ownsRow lo 153 3 v Y.length (opRow Y)
  dat : ∀ x ∈ Y, Lent w lo x.2 x.1.d
/-- Lent. -/
structure LPats (w : World) (lo : Nat) (v : Value) (Y : List OP) : Prop where
  row : w.ownsRow lo 153 3 v (Y.length + 2) (opRow Y ++ patMarks)
  dat : ∀ x ∈ Y, Lent w lo x.2 x.1.d

theorem LRowP.below {w w' : World} {lo : Nat} {v : Value} {Y : List OP} (h : LRowP w lo v Y) (hb : Below w.heap.size w w') : LRowP w' lo v Y := ⟨ownsRow_below h.row hb (Nat.le_refl _), fun x hx => (h.dat x hx).below hb⟩
theorem LPats.below {w w' : World} {lo : Nat} {v : Value} {Y : List OP} (h : LPats w lo v Y) (hb : Below w.heap.size w w') : LPats w' lo v Y := ⟨ownsRow_below h.row hb (Nat.le_refl _), fun x hx => (h.dat x hx).below hb⟩
theorem lent_keepP {w w' : World} {lo B sz n : Nat} {t : TypeId} {v : Value} {xs : List Value} {x : OP} (h : Lent w lo x.2 x.1.d) (hr : w.ownsRow B t sz v n xs) (hne : t ≠ 5) (hc : Chg (fun k => v.ownBlock = some k) w w') : Lent w' lo x.2 x.1.d :=
  h.mod hc fun g hg e => by
    obtain ⟨cs, ha⟩ := h.block hg
    exact own_ne_at hr ha hne e
theorem LRowP.snoc {w w' : World} {lo : Nat} {v v' : Value} {Y : List OP} {x : OP} (h : LRowP w lo v Y) (hx : Lent w lo x.2 x.1.d) (hc : Chg (fun k => v.ownBlock = some k) w w')
    (hrow : w'.ownsRow lo 153 3 v' (Y.length + 1) (opRow Y ++ opCells x)) : LRowP w' lo v' (Y ++ [x]) := by
  refine ⟨?_, fun y hy => ?_⟩
  · rw [opRow_snoc, List.length_append, List.length_singleton]
    exact hrow
  · rcases List.mem_append.1 hy with hy | hy
    · exact lent_keepP (h.dat y hy) h.row (by decide) hc
    · obtain rfl : y = x := by simpa using hy
      exact lent_keepP hx h.row (by decide) hc
theorem LRowP.done {w w' : World} {lo : Nat} {v v' : Value} {Y : List OP} (h : LRowP w lo v Y) (hc : Chg (fun k => v.ownBlock = some k) w w')
    (hrow : w'.ownsRow lo 153 3 v' (Y.length + 2) (opRow Y ++ patMarks)) : LPats w' lo v' Y := ⟨hrow, fun y hy => lent_keepP (h.dat y hy) h.row (by decide) hc⟩

/-- Such a batch's cells. -/
theorem LPats.cells {w : World} {lo g c : Nat} {Y : List OP} (h : LPats w lo (.slice (some ⟨g, 0, none⟩) (Y.length + 2) c) Y) {j : Nat} (hj : j < Y.length) : w.cell? ⟨g, j * 3, none⟩ = some (.int .i64 (Y[j]'hj).1.m) ∧ w.cell? ⟨g, j * 3 + 1, none⟩ = some (.int .i64 (Y[j]'hj).1.r) ∧ w.cell? ⟨g, j * 3 + 2, none⟩ = some (Y[j]'hj).2 := by
  have hr : ∀ i, i < 3 → (opRow Y ++ patMarks)[j * 3 + i]? = (opCells (Y[j]'hj))[i]? := fun i hi => by rw [List.getElem?_append_left (by rw [opRow_len]; omega), opRow_at Y j i hj hi]
  have e0 := h.row.cells (g := g) rfl (j * 3 + 0) (.int .i64 (Y[j]'hj).1.m) (by rw [hr 0 (by omega)]; rfl)
  have e1 := h.row.cells (g := g) rfl (j * 3 + 1) (.int .i64 (Y[j]'hj).1.r) (by rw [hr 1 (by omega)]; rfl)
  have e2 := h.row.cells (g := g) rfl (j * 3 + 2) (Y[j]'hj).2 (by rw [hr 2 (by omega)]; rfl)
  rw [Go.WideShapes.add_plain, Nat.zero_add] at e0 e1 e2
  exact ⟨e0, e1, e2⟩
theorem LPats.marks {w : World} {lo g c : Nat} {Y : List OP} (h : LPats w lo (.slice (some ⟨g, 0, none⟩) (Y.length + 2) c) Y) {j : Nat} (hj : j < 2) : w.cell? ⟨g, (Y.length + j) * 3, none⟩ = some (.int .i64 (-77)) ∧ w.cell? ⟨g, (Y.length + j) * 3 + 1, none⟩ = some (.int .i64 0) ∧ w.cell? ⟨g, (Y.length + j) * 3 + 2, none⟩ = some (.slice none 0 0) := by
  have hr : ∀ q, (opRow Y ++ patMarks)[Y.length * 3 + q]? = patMarks[q]? := fun q => by rw [List.getElem?_append_right (by rw [opRow_len]; omega), opRow_len, show Y.length * 3 + q - Y.length * 3 = q by omega]
  have e0 := h.row.cells (g := g) rfl (Y.length * 3 + j * 3) (.int .i64 (-77)) (by rw [hr]; match j, hj with | 0, _ => rfl | 1, _ => rfl)
  have e1 := h.row.cells (g := g) rfl (Y.length * 3 + (j * 3 + 1)) (.int .i64 0) (by rw [hr]; match j, hj with | 0, _ => rfl | 1, _ => rfl)
  have e2 := h.row.cells (g := g) rfl (Y.length * 3 + (j * 3 + 2)) (.slice none 0 0) (by rw [hr]; match j, hj with | 0, _ => rfl | 1, _ => rfl)
  rw [Go.WideShapes.add_plain, Nat.zero_add] at e0 e1 e2
  exact ⟨by rw [show (Y.length + j) * 3 = Y.length * 3 + j * 3 by omega]; exact e0, by rw [show (Y.length + j) * 3 + 1 = Y.length * 3 + (j * 3 + 1) by omega]; exact e1, by rw [show (Y.length + j) * 3 + 2 = Y.length * 3 + (j * 3 + 2) by omega]; exact e2⟩
theorem LPats.lt {w : World} {lo g n c : Nat} {Y : List OP} (h : LPats w lo (.slice (some ⟨g, 0, none⟩) n c) Y) : g < w.heap.size := (h.row.lt g rfl).2
/-- .. to be read. -/
theorem LPats.pseg {w : World} {lo g c : Nat} {Y : List OP} (h : LPats w lo (.slice (some ⟨g, 0, none⟩) (Y.length + 2) c) Y) (hf : Y.length ≤ 300000) (hl : ∀ y ∈ Y, y.1.d.length ≤ 300000) : PSeg w (.slice (some ⟨g, 0, none⟩) Y.length c) (Y.map (·.1)) := by
  refine ⟨_, c, by rw [List.length_map], by rw [List.length_map]; omega, fun p hp => ?_, .inr ⟨g, 0, rfl, h.lt, fun j hj => ?_⟩⟩
  · obtain ⟨y, hy, rfl⟩ := List.mem_map.1 hp
    have := hl y hy
    omega
  · rw [List.length_map] at hj
    obtain ⟨e0, e1, e2⟩ := h.cells hj
    rw [Nat.zero_add, List.getElem_map]
    exact ⟨e0, e1, _, e2, (h.dat _ (List.getElem_mem hj)).seg⟩

theorem six_one : ∀ u ∈ [Value.int .i64 (-77), .int .i64 0, .slice none 0 0, .int .i64 (-77), .int .i64 0, .slice none 0 0], u.oneCell' = true := by
  intro u hu
  simp only [List.mem_cons, List.not_mem_nil, or_false] at hu
  rcases hu with rfl | rfl | rfl | rfl | rfl | rfl <;> rfl
theorem new_six (W : World) (x y z u p q : Value) (t : TypeId) (ad : Addr) (had : ad = ⟨W.heap.size, 0, none⟩) : ∀ j v, [x, y, z, u, p, q][j]? = some v → (W.alloc (.cells #[x, y, z, u, p, q] t)).cell? (ad.add j) = some v := by
  intro j v hj
  subst had
  rw [Go.WideShapes.add_plain, Nat.zero_add, (At.new W #[x, y, z, u, p, q] t).cell j, List.getElem?_toArray]
  exact hj

theorem lent_doneP {w W w2 : World} {Y : List OP} {v v1 : Value} {n : Nat} (h : LRowP W w.heap.size v Y) (hB : Below w.heap.size w W) (hn : Y.length = n)
    (hrow : w2.ownsRow w.heap.size 153 3 v1 (Y.length + 2) (opRow Y ++ [Value.int .i64 (-77), .int .i64 0, .slice none 0 0, .int .i64 (-77), .int .i64 0, .slice none 0 0])) (hc : Chg (fun k => v.ownBlock = some k) W w2) :
    ∃ g c, v1 = .slice (some ⟨g, 0, none⟩) (n + 2) c ∧ Hid (LPats w2 w.heap.size (.slice (some ⟨g, 0, none⟩) (Y.length + 2) c) Y) ∧ Hid (Below w.heap.size w w2) ∧ (n : Int) ≤ (c : Int) ∧ ¬ c = 0 := by
  have hP := h.done hc hrow
  obtain ⟨g, c, rfl, -, -⟩ := ownsRow_full hrow (by omega)
  have hcap := (own_at hrow).2.1
  exact ⟨g, c, by rw [hn], hP, Chg.own hB hc (fun q hq => (h.row.lt q hq).1), by omega, by omega⟩

set_option maxRecDepth 100000 in
set_option maxHeartbeats 4000000 in
theorem lent_pats (v : Value) (us : List Pat) (w : World) (hv : PSeg w v us) (hn : us.length ≤ 300000) (hl : ∀ u ∈ us, u.d.length ≤ 300000) :
    Calls Tryz.prog 20 #[v] w fun e w' => (∃ g c Y, e = .returned (.slice (some ⟨g, 0, none⟩) us.length c) ∧ Y.map (·.1) = us ∧ LPats w' w.heap.size (.slice (some ⟨g, 0, none⟩) (Y.length + 2) c) Y) ∧ Below w.heap.size w w' := by
  have HV := Lib.hid hv
  have HL := Lib.hid hl
  obtain ⟨a, c, rfl⟩ := hv.shape
  clear hv hl
  go_enter Tryz.func20, Tryz.ntmps20
  go_wp2_with (first
    | (refine wpList_make_room rfl _ _ 69 153 3 40 rfl slice_pats _ _ _ (us.length + 2) rfl rfl (by omega) (by omega) (by unfold maxLen; omega) ?_; intro w1 hown1 hb1 hlt1; have HR1 : Hid (LRowP w1 w.heap.size (.slice (some ⟨w.heap.size, 0, none⟩) 0 (us.length + 2)) []) := ⟨hown1, fun x hx => (by cases hx)⟩; have HB1 := Lib.hid hb1; clear hown1 hb1 hlt1))
  go_loopw [3, 4] (fun x q wx => ∃ (k : Nat) (Y : List OP), k ≤ us.length ∧ q = .int .i64 k ∧ Y.map (·.1) = us.take k ∧ LRowP wx w.heap.size x Y ∧ Below w.heap.size w wx) (fun _ q _ => us.length - (intOf q).toNat)
  case atStart => exact ⟨0, [], by omega, rfl, by simp, HR1.out, HB1.out⟩
  case round =>
    obtain ⟨k, Y, hk, rfl, hY, hR, hB⟩ := hrel
    have HY := Lib.hid hY
    have HR := Lib.hid hR
    have HB := Lib.hid hB
    have hYk : Y.length = k := by
      have h := congrArg List.length hY
      rw [List.length_map, List.length_take] at h
      omega
    have HYK := Lib.hid hYk
    have hYn : Y.length ≤ 300000 := by omega
    have hw0 := hB.size
    clear hY hR hB HR1 HB1 hYk
    by_cases hkn : k < us.length
    · skip
      · skip
        have K1 : Hid (k + 1 ≤ us.length) := hkn
        obtain ⟨b, o, rfl, hlt, hx⟩ := PSeg.full HV.out (by omega)
        obtain ⟨p0, p1, u, p2, hu⟩ := hx k hkn
        have hlen := HL.out _ (List.getElem_mem hkn)
        obtain ⟨y, hye⟩ : ∃ y, us[k]'hkn = y := ⟨_, rfl⟩
        have HYE := Lib.hid hye
        rw [hye] at p0 p1 hu hlen
        clear hye hx
        obtain ⟨pm, pr, dd⟩ := y
        simp only at p0 p1 hu hlen
        have HLB : Hid (∀ W, Below w.heap.size w W → Calls Tryz.prog 83 #[u] W _) := fun W hW => lent_bytes u dd W (by omega) (hu.below hW)
        obtain ⟨ua, uc, rfl⟩ := hu.shape
        have HK : Hid (∀ X, Below w.heap.size w X → X.cell? ⟨b, o + k * 3, none⟩ = some (.int .i64 pm) ∧ X.cell? ⟨b, o + k * 3 + 1, none⟩ = some (.int .i64 pr) ∧ X.cell? ⟨b, o + k * 3 + 2, none⟩ = some (.slice ua dd.length uc)) := fun X hX =>
          ⟨(hX.cell (p := ⟨b, o + k * 3, none⟩) hlt).trans p0, (hX.cell (p := ⟨b, o + k * 3 + 1, none⟩) hlt).trans p1, (hX.cell (p := ⟨b, o + k * 3 + 2, none⟩) hlt).trans p2⟩
        have HBD : Hid (Below w.heap.size w wr.drew) := HB.out.drew
        have HRD : Hid (LRowP wr.drew w.heap.size u3 Y) := HR.out.below (Below.refl _ _).drew
        clear p0 p1 p2 hu
        go_wp2
        go_region_held3 (fun w' => w'.cell? ⟨b, o + k * 3, none⟩ = some (.int .i64 pm) ∧ w'.cell? ⟨b, o + k * 3 + 1, none⟩ = some (.int .i64 pr) ∧ w'.cell? ⟨b, o + k * 3 + 2, none⟩ = some (.slice ua dd.length uc))
          (first | with_reducible exact HK.out _ HB.out | with_reducible exact HK.out _ HBD.out | with_reducible exact HK.out _ HB2.out | with_reducible exact HK.out _ HB3.out | with_reducible exact HK.out _ HB4.out)
          (first
            | (go_at_call 83; (with_reducible refine (HLB.out _ HBD.out).mono ?_); rintro e w2 ⟨rfl, hat, hb2⟩; have HAT := Lib.hid hat; have HB2 : Hid (Below w.heap.size w w2) := below_then HBD.out hb2; have HR2 := Lib.hid (HRD.out.below hb2); have HNEW := Lib.hid (new_three w2 (.int .i64 pm) (.int .i64 pr) (.slice (some ⟨wr.heap.size, 0, none⟩) dd.length (dd.length + 2)) 153); have HAL : Hid (Below w2.heap.size w2 (w2.alloc (.cells #[.int .i64 pm, .int .i64 pr, .slice (some ⟨wr.heap.size, 0, none⟩) dd.length (dd.length + 2)] 153))) := (Below.refl _ _).alloc (Nat.le_refl _) _; have HB3 : Hid (Below w.heap.size w (w2.alloc (.cells #[.int .i64 pm, .int .i64 pr, .slice (some ⟨wr.heap.size, 0, none⟩) dd.length (dd.length + 2)] 153))) := below_then HB2.out HAL.out; have HR3 := Lib.hid (HR2.out.below HAL.out); have hs2 := HB2.out.size; clear hat hb2)
            | (rw [if_pos (by rfl)]; refine wp_append_keeps _ _ 69 153 3 40 rfl slice_pats w.heap.size u3 Y.length _ rfl HR3.out.row _ 1 1 [.int .i64 pm, .int .i64 pr, .slice (some ⟨wr.heap.size, 0, none⟩) dd.length (dd.length + 2)] rfl rfl (HNEW.out _ rfl) (by intro u hu; simp at hu; rcases hu with rfl | rfl | rfl <;> rfl) (by unfold maxLen; omega) (by omega) (by rw [size_alloc]; omega) (by omega) ?_; intro v' w10 hrow10 hvb10 hc10; have HB4 : Hid (Below w.heap.size w w10) := Chg.own HB3.out hc10 (fun q hq => (HR3.out.row.lt q hq).1); have HROW10 := Lib.hid hrow10; have HC10 := Lib.hid hc10; clear hrow10 hvb10 hc10))
        go_wp2
        go_roundw
        case measure => simp [intOf]; omega
        refine ⟨k + 1, Y ++ [(⟨pm, pr, dd⟩, .slice (some ⟨wr.heap.size, 0, none⟩) dd.length (dd.length + 2))], K1.out, by go_num, ?_, ?_, HB4.out⟩
        · rw [List.map_append, HY.out, List.take_succ_eq_append_getElem hkn, HYE.out]
          rfl
        · have hlent : Lent (w2.alloc (.cells #[.int .i64 pm, .int .i64 pr, .slice (some ⟨wr.heap.size, 0, none⟩) dd.length (dd.length + 2)] 153)) w.heap.size (.slice (some ⟨wr.heap.size, 0, none⟩) dd.length (dd.length + 2)) dd := ⟨wr.heap.size, hw0, rfl, HAT.out.alloc _⟩
          exact HR3.out.snoc (x := (⟨pm, pr, dd⟩, .slice (some ⟨wr.heap.size, 0, none⟩) dd.length (dd.length + 2))) hlent HC10.out HROW10.out
    · skip
      · skip
        obtain rfl : k = us.length := by omega
        have HYU : Hid (Y.map (·.1) = us) := by have h := HY.out; rw [List.take_length] at h; exact h
        have HAL : Hid (Below wr.heap.size wr (wr.alloc (.cells #[.int .i64 (-77), .int .i64 0, .slice none 0 0, .int .i64 (-77), .int .i64 0, .slice none 0 0] 153))) := (Below.refl _ _).alloc (Nat.le_refl _) _
        have HR3 := Lib.hid (HR.out.below HAL.out)
        have HB3 := Lib.hid (below_then HB.out HAL.out)
        go_wp2_with (refine wpList_append_keeps rfl _ _ 69 153 3 40 rfl slice_pats w.heap.size u3 Y.length _ rfl HR3.out.row _ 2 2 [.int .i64 (-77), .int .i64 0, .slice none 0 0, .int .i64 (-77), .int .i64 0, .slice none 0 0] rfl rfl (new_six _ _ _ _ _ _ _ _ _ (by first | rfl | simp)) six_one (by unfold maxLen; omega) (by omega) (by rw [size_alloc]; omega) (by omega) ?_; intro v1 w2 hrow hvb hc hkk; obtain ⟨ga, gc, rfl, HP, HB4, hci, hc0⟩ := lent_doneP HR3.out HB3.out HYK.out hrow hc; clear hrow hvb hc hkk)
        go_ret
        exact ⟨⟨ga, gc, Y, rfl, HYU.out, HP.out⟩, HB4.out⟩

end Go.Proofs.YtpegbgomnpinfaaGreat
