/- Batches lent: blocks to be put, with marks behind; whole; spoilt. -/
import Derived.Test.YtkcfmkhakghniaaGreatMrg9
import Derived.Deep.MidRow
set_option linter.unusedVariables false
namespace Go.Proofs.YtkcfmkhakghniaaGreat
open Go.RowKit

theorem own_at {w : World} {B e sz g n c : Nat} {xs : List Value} (h : w.ownsRow B e sz (.slice (some ⟨g, 0, none⟩) n c) n xs) : B ≤ g ∧ n ≤ c ∧ c ≤ maxLen ∧ ∃ cur, At w g cur e ∧ cur.size = c * sz ∧ cur.toList.take (n * sz) = xs := by
  rcases h.2 with ⟨h, _⟩ | ⟨g', cap, cur, hv, hb, hg, hc, hm, hs, ht⟩
  · cases h
  · simp only [Value.slice.injEq, Option.some.injEq, Addr.mk.injEq] at hv
    obtain ⟨⟨rfl, _, _⟩, _, rfl⟩ := hv
    exact ⟨hb, hc, hm, cur, hg, hs, ht⟩

def putMarks : List Value := [.int .i64 (-77), .slice none 0 0, .int .i64 (-77), .slice none 0 0]

/-- While it is lent: the first blocks. -/
structure LRow (w : World) (lo : Nat) (v : Value) (Y : List OU) : Prop where
  row : w.ownsRow lo 167 2 v Y.length (ouRow Y)
  dat : ∀ x ∈ Y, Lent w lo x.1 x.2.2
/-- Lent. -/
structure LPuts (w : World) (lo : Nat) (v : Value) (Y : List OU) : Prop where
  row : w.ownsRow lo 167 2 v (Y.length + 2) (ouRow Y ++ putMarks)
  dat : ∀ x ∈ Y, Lent w lo x.1 x.2.2

theorem LRow.below {w w' : World} {lo : Nat} {v : Value} {Y : List OU} (h : LRow w lo v Y) (hb : Below w.heap.size w w') : LRow w' lo v Y := ⟨ownsRow_below h.row hb (Nat.le_refl _), fun x hx => (h.dat x hx).below hb⟩
theorem LPuts.below {w w' : World} {lo : Nat} {v : Value} {Y : List OU} (h : LPuts w lo v Y) (hb : Below w.heap.size w w') : LPuts w' lo v Y := ⟨ownsRow_below h.row hb (Nat.le_refl _), fun x hx => (h.dat x hx).below hb⟩
theorem lent_keep {w w' : World} {lo B sz n : Nat} {t : TypeId} {v : Value} {xs : List Value} {x : OU} (h : Lent w lo x.1 x.2.2) (hr : w.ownsRow B t sz v n xs) (hne : t ≠ 5) (hc : Chg (fun k => v.ownBlock = some k) w w') : Lent w' lo x.1 x.2.2 :=
  h.mod hc fun g hg e => by
    obtain ⟨cs, ha⟩ := h.block hg
    exact own_ne_at hr ha hne e
theorem LRow.snoc {w w' : World} {lo : Nat} {v v' : Value} {Y : List OU} {x : OU} (h : LRow w lo v Y) (hx : Lent w lo x.1 x.2.2) (hc : Chg (fun k => v.ownBlock = some k) w w')
    (hrow : w'.ownsRow lo 167 2 v' (Y.length + 1) (ouRow Y ++ ouCells x)) : LRow w' lo v' (Y ++ [x]) := by
  refine ⟨?_, fun y hy => ?_⟩
  · rw [ouRow_app, ouRow_one, List.length_append, List.length_singleton]
    exact hrow
  · rcases List.mem_append.1 hy with hy | hy
    · exact lent_keep (h.dat y hy) h.row (by decide) hc
    · obtain rfl : y = x := by simpa using hy
      exact lent_keep hx h.row (by decide) hc
theorem LRow.done {w w' : World} {lo : Nat} {v v' : Value} {Y : List OU} (h : LRow w lo v Y) (hc : Chg (fun k => v.ownBlock = some k) w w')
    (hrow : w'.ownsRow lo 167 2 v' (Y.length + 2) (ouRow Y ++ putMarks)) : LPuts w' lo v' Y := ⟨hrow, fun y hy => lent_keep (h.dat y hy) h.row (by decide) hc⟩

/-- Such a batch's cells. -/
theorem LPuts.cells {w : World} {lo g c : Nat} {Y : List OU} (h : LPuts w lo (.slice (some ⟨g, 0, none⟩) (Y.length + 2) c) Y) {j : Nat} (hj : j < Y.length) : w.cell? ⟨g, j * 2, none⟩ = some (.int .i64 (Y[j]'hj).2.1) ∧ w.cell? ⟨g, j * 2 + 1, none⟩ = some (Y[j]'hj).1 := by
  have hr : ∀ i, i < 2 → (ouRow Y ++ putMarks)[j * 2 + i]? = (ouCells (Y[j]'hj))[i]? := fun i hi => by rw [List.getElem?_append_left (by rw [ouRow_len]; omega), ouRow_at Y j i hj hi]
  have e0 := h.row.cells (g := g) rfl (j * 2 + 0) (.int .i64 (Y[j]'hj).2.1) (by rw [hr 0 (by omega)]; rfl)
  have e1 := h.row.cells (g := g) rfl (j * 2 + 1) (Y[j]'hj).1 (by rw [hr 1 (by omega)]; rfl)
  rw [Go.WideShapes.add_plain, Nat.zero_add] at e0 e1
  exact ⟨e0, e1⟩
theorem LPuts.marks {w : World} {lo g c : Nat} {Y : List OU} (h : LPuts w lo (.slice (some ⟨g, 0, none⟩) (Y.length + 2) c) Y) {j : Nat} (hj : j < 2) : w.cell? ⟨g, (Y.length + j) * 2, none⟩ = some (.int .i64 (-77)) ∧ w.cell? ⟨g, (Y.length + j) * 2 + 1, none⟩ = some (.slice none 0 0) := by
  have hr : ∀ q, (ouRow Y ++ putMarks)[Y.length * 2 + q]? = putMarks[q]? := fun q => by rw [List.getElem?_append_right (by rw [ouRow_len]; omega), ouRow_len, show Y.length * 2 + q - Y.length * 2 = q by omega]
  have e0 := h.row.cells (g := g) rfl (Y.length * 2 + j * 2) (.int .i64 (-77)) (by rw [hr]; match j, hj with | 0, _ => rfl | 1, _ => rfl)
  have e1 := h.row.cells (g := g) rfl (Y.length * 2 + (j * 2 + 1)) (.slice none 0 0) (by rw [hr]; match j, hj with | 0, _ => rfl | 1, _ => rfl)
  rw [Go.WideShapes.add_plain, Nat.zero_add] at e0 e1
  exact ⟨by rw [show (Y.length + j) * 2 = Y.length * 2 + j * 2 by omega]; exact e0, by rw [show (Y.length + j) * 2 + 1 = Y.length * 2 + (j * 2 + 1) by omega]; exact e1⟩
theorem LPuts.lt {w : World} {lo g n c : Nat} {Y : List OU} (h : LPuts w lo (.slice (some ⟨g, 0, none⟩) n c) Y) : g < w.heap.size := (h.row.lt g rfl).2
/-- .. to be read. -/
theorem LPuts.pseg {w : World} {lo g c : Nat} {Y : List OU} (h : LPuts w lo (.slice (some ⟨g, 0, none⟩) (Y.length + 2) c) Y) (hf : Y.length ≤ 300000) (hl : ∀ y ∈ Y, y.2.2.length ≤ 300000) : PutSeg w (.slice (some ⟨g, 0, none⟩) Y.length c) (Y.map (·.2)) := by
  refine ⟨_, c, by rw [List.length_map], by rw [List.length_map]; omega, fun p hp => ?_, .inr ⟨g, 0, rfl, h.lt, fun j hj => ?_⟩⟩
  · obtain ⟨y, hy, rfl⟩ := List.mem_map.1 hp
    have := hl y hy
    omega
  · rw [List.length_map] at hj
    obtain ⟨e0, e1⟩ := h.cells hj
    rw [Nat.zero_add, List.getElem_map]
    exact ⟨e0, _, e1, (h.dat _ (List.getElem_mem hj)).seg⟩

theorem four_one : ∀ u ∈ [Value.int .i64 (-77), .slice none 0 0, .int .i64 (-77), .slice none 0 0], u.oneCell' = true := by
  intro u hu
  simp only [List.mem_cons, List.not_mem_nil, or_false] at hu
  rcases hu with rfl | rfl | rfl | rfl <;> rfl
theorem new_four (W : World) (x y z u : Value) (t : TypeId) (ad : Addr) (had : ad = ⟨W.heap.size, 0, none⟩) : ∀ j v, [x, y, z, u][j]? = some v → (W.alloc (.cells #[x, y, z, u] t)).cell? (ad.add j) = some v := by
  intro j v hj
  subst had
  rw [Go.WideShapes.add_plain, Nat.zero_add, (At.new W #[x, y, z, u] t).cell j, List.getElem?_toArray]
  exact hj

theorem lent_done {w W w2 : World} {Y : List OU} {v v1 : Value} {n : Nat} (h : LRow W w.heap.size v Y) (hB : Below w.heap.size w W) (hn : Y.length = n)
    (hrow : w2.ownsRow w.heap.size 167 2 v1 (Y.length + 2) (ouRow Y ++ [Value.int .i64 (-77), .slice none 0 0, .int .i64 (-77), .slice none 0 0])) (hc : Chg (fun k => v.ownBlock = some k) W w2) :
    ∃ g c, v1 = .slice (some ⟨g, 0, none⟩) (n + 2) c ∧ Hid (LPuts w2 w.heap.size (.slice (some ⟨g, 0, none⟩) (Y.length + 2) c) Y) ∧ Hid (Below w.heap.size w w2) ∧ (n : Int) ≤ (c : Int) ∧ ¬ c = 0 := by
  have hP := h.done hc hrow
  obtain ⟨g, c, rfl, -, -⟩ := ownsRow_full hrow (by omega)
  have hcap := (own_at hrow).2.1
  exact ⟨g, c, by rw [hn], hP, Chg.own hB hc (fun q hq => (h.row.lt q hq).1), by omega, by omega⟩

set_option maxRecDepth 100000 in
set_option maxHeartbeats 4000000 in
theorem lent_puts (v : Value) (us : List (Int × List UInt8)) (w : World) (hv : PutSeg w v us) (hn : us.length ≤ 300000) (hl : ∀ u ∈ us, u.2.length ≤ 300000) :
    Calls Tryz.prog 21 #[v] w fun e w' => (∃ g c Y, e = .returned (.slice (some ⟨g, 0, none⟩) us.length c) ∧ Y.map (·.2) = us ∧ LPuts w' w.heap.size (.slice (some ⟨g, 0, none⟩) (Y.length + 2) c) Y) ∧ Below w.heap.size w w' := by
  have HV := Lib.hid hv
  have HL := Lib.hid hl
  obtain ⟨a, c, rfl⟩ := hv.shape
  clear hv hl
  go_enter Tryz.func21, Tryz.ntmps21
  go_wp2_with (first
    | (refine wpList_make_room rfl _ _ 68 167 2 32 rfl slice_puts _ _ _ (us.length + 2) rfl rfl (by omega) (by omega) (by unfold maxLen; omega) ?_; intro w1 hown1 hb1 hlt1; have HR1 : Hid (LRow w1 w.heap.size (.slice (some ⟨w.heap.size, 0, none⟩) 0 (us.length + 2)) []) := ⟨hown1, fun x hx => (by cases hx)⟩; have HB1 := Lib.hid hb1; clear hown1 hb1 hlt1))
  go_loopw [3, 4] (fun x q wx => ∃ (k : Nat) (Y : List OU), k ≤ us.length ∧ q = .int .i64 k ∧ Y.map (·.2) = us.take k ∧ LRow wx w.heap.size x Y ∧ Below w.heap.size w wx) (fun _ q _ => us.length - (intOf q).toNat)
  case atStart => exact ⟨0, [], by omega, rfl, by simp, HR1.out, HB1.out⟩
  case round =>
    obtain ⟨k, Y, hk, rfl, hY, hR, hB⟩ := hrel
    have HY := Lib.hid hY
    have HR := Lib.hid hR
    have HB := Lib.hid hB
    have hYk : Y.length = k := by
      have h := congrArg List.length hY
      rw [List.length_map, List.length_take] at h
      omega
    have HYK := Lib.hid hYk
    have hYn : Y.length ≤ 300000 := by omega
    have hw0 := hB.size
    clear hY hR hB HR1 HB1 hYk
    by_cases hkn : k < us.length
    · as_aux_lemma =>
        have K1 : Hid (k + 1 ≤ us.length) := hkn
        obtain ⟨b, o, rfl, hlt, hx⟩ := PutSeg.full HV.out (by omega)
        obtain ⟨p0, u, p1, hu⟩ := hx k hkn
        have hlen := HL.out _ (List.getElem_mem hkn)
        obtain ⟨y, hye⟩ : ∃ y, us[k]'hkn = y := ⟨_, rfl⟩
        have HYE := Lib.hid hye
        rw [hye] at p0 hu hlen
        clear hye hx
        obtain ⟨bk, dd⟩ := y
        simp only at p0 hu hlen
        have HLB : Hid (∀ W, Below w.heap.size w W → Calls Tryz.prog 92 #[u] W _) := fun W hW => lent_bytes u dd W (by omega) (hu.below hW)
        obtain ⟨ua, uc, rfl⟩ := hu.shape
        have HK : Hid (∀ X, Below w.heap.size w X → X.cell? ⟨b, o + k * 2, none⟩ = some (.int .i64 bk) ∧ X.cell? ⟨b, o + k * 2 + 1, none⟩ = some (.slice ua dd.length uc)) := fun X hX =>
          ⟨(hX.cell (p := ⟨b, o + k * 2, none⟩) hlt).trans p0, (hX.cell (p := ⟨b, o + k * 2 + 1, none⟩) hlt).trans p1⟩
        have HBD : Hid (Below w.heap.size w wr.drew) := HB.out.drew
        have HRD : Hid (LRow wr.drew w.heap.size u3 Y) := HR.out.below (Below.refl _ _).drew
        clear p0 p1 hu
        go_wp2
        go_region_held3 (fun w' => w'.cell? ⟨b, o + k * 2, none⟩ = some (.int .i64 bk) ∧ w'.cell? ⟨b, o + k * 2 + 1, none⟩ = some (.slice ua dd.length uc))
          (first | with_reducible exact HK.out _ HB.out | with_reducible exact HK.out _ HBD.out | with_reducible exact HK.out _ HB2.out | with_reducible exact HK.out _ HB3.out | with_reducible exact HK.out _ HB4.out)
          (first
            | (go_at_call 92; (with_reducible refine (HLB.out _ HBD.out).mono ?_); rintro e w2 ⟨rfl, hat, hb2⟩; have HAT := Lib.hid hat; have HB2 : Hid (Below w.heap.size w w2) := below_then HBD.out hb2; have HR2 := Lib.hid (HRD.out.below hb2); have HNEW := Lib.hid (new_two w2 (.int .i64 bk) (.slice (some ⟨wr.heap.size, 0, none⟩) dd.length (dd.length + 2)) 167); have HAL : Hid (Below w2.heap.size w2 (w2.alloc (.cells #[.int .i64 bk, .slice (some ⟨wr.heap.size, 0, none⟩) dd.length (dd.length + 2)] 167))) := (Below.refl _ _).alloc (Nat.le_refl _) _; have HB3 : Hid (Below w.heap.size w (w2.alloc (.cells #[.int .i64 bk, .slice (some ⟨wr.heap.size, 0, none⟩) dd.length (dd.length + 2)] 167))) := below_then HB2.out HAL.out; have HR3 := Lib.hid (HR2.out.below HAL.out); have hs2 := HB2.out.size; clear hat hb2)
            | (rw [if_pos (by rfl)]; refine wp_append_keeps _ _ 68 167 2 32 rfl slice_puts w.heap.size u3 Y.length _ rfl HR3.out.row _ 1 1 [.int .i64 bk, .slice (some ⟨wr.heap.size, 0, none⟩) dd.length (dd.length + 2)] rfl rfl (HNEW.out _ rfl) (by intro u hu; simp at hu; rcases hu with rfl | rfl <;> rfl) (by unfold maxLen; omega) (by omega) (by rw [size_alloc]; omega) (by omega) ?_; intro v' w10 hrow10 hvb10 hc10; have HB4 : Hid (Below w.heap.size w w10) := Chg.own HB3.out hc10 (fun q hq => (HR3.out.row.lt q hq).1); have HROW10 := Lib.hid hrow10; have HC10 := Lib.hid hc10; clear hrow10 hvb10 hc10))
        go_wp2
        go_roundw
        case measure => simp [intOf]; omega
        refine ⟨k + 1, Y ++ [(.slice (some ⟨wr.heap.size, 0, none⟩) dd.length (dd.length + 2), bk, dd)], K1.out, by go_num, ?_, ?_, HB4.out⟩
        · rw [List.map_append, HY.out, List.take_succ_eq_append_getElem hkn, HYE.out]
          rfl
        · have hlent : Lent (w2.alloc (.cells #[.int .i64 bk, .slice (some ⟨wr.heap.size, 0, none⟩) dd.length (dd.length + 2)] 167)) w.heap.size (.slice (some ⟨wr.heap.size, 0, none⟩) dd.length (dd.length + 2)) dd := ⟨wr.heap.size, hw0, rfl, HAT.out.alloc _⟩
          exact HR3.out.snoc (x := (.slice (some ⟨wr.heap.size, 0, none⟩) dd.length (dd.length + 2), bk, dd)) hlent HC10.out HROW10.out
    · as_aux_lemma =>
        obtain rfl : k = us.length := by omega
        have HYU : Hid (Y.map (·.2) = us) := by have h := HY.out; rw [List.take_length] at h; exact h
        have HAL : Hid (Below wr.heap.size wr (wr.alloc (.cells #[.int .i64 (-77), .slice none 0 0, .int .i64 (-77), .slice none 0 0] 167))) := (Below.refl _ _).alloc (Nat.le_refl _) _
        have HR3 := Lib.hid (HR.out.below HAL.out)
        have HB3 := Lib.hid (below_then HB.out HAL.out)
        go_wp2_with (refine wpList_append_keeps rfl _ _ 68 167 2 32 rfl slice_puts w.heap.size u3 Y.length _ rfl HR3.out.row _ 2 2 [.int .i64 (-77), .slice none 0 0, .int .i64 (-77), .slice none 0 0] rfl rfl (new_four _ _ _ _ _ _ _ (by first | rfl | simp)) four_one (by unfold maxLen; omega) (by omega) (by rw [size_alloc]; omega) (by omega) ?_; intro v1 w2 hrow hvb hc hkk; obtain ⟨ga, gc, rfl, HP, HB4, hci, hc0⟩ := lent_done HR3.out HB3.out HYK.out hrow hc; clear hrow hvb hc hkk)
        go_ret
        exact ⟨⟨ga, gc, Y, rfl, HYU.out, HP.out⟩, HB4.out⟩

end Go.Proofs.YtkcfmkhakghniaaGreat
