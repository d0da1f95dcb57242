/- A bay of disks: New. -/
import Derived.Test.YtleicmmbaacbmaaGreatBayH
set_option linter.unusedVariables false
namespace Go.Proofs.YtleicmmbaacbmaaGreat
open Go.RowKit

/-- A new disk is laid into a place. -/
theorem BayIn.lay {w W : World} {T : Nat → Nat} {b : Nat} {s : BaySt} {gs : Nat} {ptr : Nat → Option Nat} {tg dp : Nat → Nat} (h : BayIn w T b s gs ptr tg dp) {i t p : Nat} {d : Dsk} (hi : i < 3 * s.n) (hd : DiskNew w T t p d W) (ht : 2 ≤ t) (hap : ∀ j, j < 3 * s.n → j ≠ i → s.pos j ≠ none → tg j ≠ t) :
    ∃ T', BayIn ((W.alloc (.cells #[.pointer (some ⟨p, 0, none⟩), .bool false, .int .i64 0] 86)).setCell ⟨gs, i, none⟩ (.pointer (some ⟨W.heap.size, 0, none⟩))) T' b (s.laid i ⟨d, false, 0⟩) gs (fun q => if q = i then some W.heap.size else ptr q) (fun q => if q = i then t else tg q) (fun q => if q = i then p else dp q) ∧
      (∀ q, q < w.heap.size → T' q = T q) ∧ Chg (fun q => q = gs) w ((W.alloc (.cells #[.pointer (some ⟨p, 0, none⟩), .bool false, .int .i64 0] 86)).setCell ⟨gs, i, none⟩ (.pointer (some ⟨W.heap.size, 0, none⟩))) := by
  obtain ⟨T1, d1, d2, d3, d4, d5⟩ := hd
  have hsz := d4.size
  have hc0 : Chg (fun q => q = gs) w W := Chg.ofBelow d4 _
  have hc1 : Chg (fun q => q = gs) w (W.alloc (.cells #[.pointer (some ⟨p, 0, none⟩), .bool false, .int .i64 0] 86)) := hc0.alloc _
  have hc : Chg (fun q => q = gs) w ((W.alloc (.cells #[.pointer (some ⟨p, 0, none⟩), .bool false, .int .i64 0] 86)).setCell ⟨gs, i, none⟩ (.pointer (some ⟨W.heap.size, 0, none⟩))) := Chg.setCell (S := fun q => q = gs) hc1 ⟨gs, i, none⟩ (.inl rfl) _
  have hgs := h.slots.lt
  have hset : Chg (fun q => q = gs) (W.alloc (.cells #[.pointer (some ⟨p, 0, none⟩), .bool false, .int .i64 0] 86)) ((W.alloc (.cells #[.pointer (some ⟨p, 0, none⟩), .bool false, .int .i64 0] 86)).setCell ⟨gs, i, none⟩ (.pointer (some ⟨W.heap.size, 0, none⟩))) := Chg.setCell (S := fun q => q = gs) (Chg.refl _ _) ⟨gs, i, none⟩ (.inl rfl) _
  have e3 : ((W.alloc (.cells #[.pointer (some ⟨p, 0, none⟩), .bool false, .int .i64 0] 86)).setCell ⟨gs, i, none⟩ (.pointer (some ⟨W.heap.size, 0, none⟩))).heap.size = W.heap.size + 1 := by rw [size_setCell, size_alloc]
  let T' : Nat → Nat := tagAt T1 W.heap.size 1
  have hT : ∀ q, q < W.heap.size → T' q = T1 q := fun q hq => tagAt_lt _ _ _ _ hq
  have hTo : ∀ q, q < w.heap.size → T' q = T q := fun q hq => (hT q (by omega)).trans (d2 q (.inl hq))
  have hne : ∀ g cs ty, At w g cs ty → ty ≠ 88 → g ≠ gs := fun g cs ty ha hty e => by
    subst e
    have c := h.slots
    unfold At at ha c
    rw [ha] at c
    simp only [Option.some.injEq, Obj.cells.injEq] at c
    exact hty c.2.1
  refine ⟨T', ⟨h.bay.mod hc (hne b _ _ h.bay (by decide)), ?_, by rw [hTo b h.bay.lt]; exact h.tb, by rw [hTo gs hgs]; exact h.ts, fun j hj y hy => ?_, fun j hj hy => ?_, fun j l hj hl hjl a c => ?_, fun j l hj hl hjl dv hdv => ?_, fun k hk => ?_, h.few, h.cl, h.trl, h.trh⟩, hTo, hc⟩
  · have h1 : At (W.alloc (.cells #[.pointer (some ⟨p, 0, none⟩), .bool false, .int .i64 0] 86)) gs (slotCells ptr s.n) 88 := (h.slots.below d4 hgs).alloc _
    have h2 := h1.set i (.pointer (some ⟨W.heap.size, 0, none⟩))
    have e : (slotCells ptr s.n).setIfInBounds i (.pointer (some ⟨W.heap.size, 0, none⟩)) = slotCells (fun q => if q = i then some W.heap.size else ptr q) s.n := by
      apply Array.ext_getElem?
      intro j
      rw [Array.getElem?_setIfInBounds]
      have hs : (slotCells ptr s.n).size = 3 * s.n := by simp [slotCells]
      rw [hs]
      by_cases hj : j < 3 * s.n
      · rw [slotCells_at _ _ _ hj, slotCells_at _ _ _ hj]
        by_cases hji : i = j
        · subst hji; rw [if_pos rfl, if_pos hj, if_pos rfl]; rfl
        · rw [if_neg hji, if_neg (Ne.symm hji)]
      · rw [if_neg (by omega)]
        have q1 : ∀ f, (slotCells f s.n)[j]? = none := fun f => by rw [Array.getElem?_eq_none]; simp [slotCells]; omega
        rw [q1, q1]
    rw [e] at h2
    exact h2
  · by_cases hji : j = i
    · subst hji
      have hy' : (some (⟨d, false, 0⟩ : Dev)) = some y := by simpa [BaySt.laid] using hy
      simp only [Option.some.injEq] at hy'
      subst hy'
      refine ⟨W.heap.size, by simp, ?_⟩
      show DevAt _ T' (if j = j then t else tg j) W.heap.size (if j = j then p else dp j) _
      rw [if_pos rfl, if_pos rfl]
      have hgw : gs ≠ W.heap.size := by omega
      refine ⟨(At.new W _ _).setOther (Ne.symm hgw) _, tagAt_same _ _ _, ht, ?_, by show (0 : Int) ≤ 0; omega, by show (0 : Int) ≤ 9223372036854775807; omega⟩
      refine ((d1.retag hT).below (Below.refl _ _ |>.alloc (Nat.le_refl _) _)).keep hset (fun k hk e => ?_)
      subst e
      rw [hT k (by omega), d2 k (.inl hgs), h.ts] at hk
      omega
    · have hy' : s.pos j = some y := by simpa [BaySt.laid, hji] using hy
      obtain ⟨dv2, e1, e2⟩ := h.some' j hj y hy'
      refine ⟨dv2, by simp [hji, e1], ?_⟩
      show DevAt _ T' (if j = i then t else tg j) dv2 (if j = i then p else dp j) _
      rw [if_neg hji, if_neg hji]
      refine (e2.retag hTo).keep hc (fun q hq e => ?_)
      subst e
      have := h.ts
      have := e2.two
      rcases hq with hq | hq
      · rw [hTo q hgs] at hq; omega
      · exact hne dv2 _ _ e2.dev (by decide) hq.symm
  · by_cases hji : j = i
    · subst hji; simp [BaySt.laid] at hy
    · have hy' : s.pos j = none := by simpa [BaySt.laid, hji] using hy
      show (if j = i then some W.heap.size else ptr j) = none
      rw [if_neg hji]
      exact h.none' j hj hy'
  · show (if j = i then t else tg j) ≠ (if l = i then t else tg l)
    by_cases hji : j = i
    · by_cases hli : l = i
      · omega
      · rw [if_pos hji, if_neg hli]
        exact (hap l hl hli (by simpa [BaySt.laid, hli] using c)).symm
    · rw [if_neg hji]
      by_cases hli : l = i
      · rw [if_pos hli]
        exact hap j hj hji (by simpa [BaySt.laid, hji] using a)
      · rw [if_neg hli]
        exact h.apart j l hj hl hjl (by simpa [BaySt.laid, hji] using a) (by simpa [BaySt.laid, hli] using c)
  · have old : ∀ m, m < 3 * s.n → ∀ dv, ptr m = some dv → dv < w.heap.size := fun m hm dv hdv => by
      cases hx : s.pos m with
      | none => rw [h.none' m hm hx] at hdv; cases hdv
      | some x =>
        obtain ⟨dv2, e1, e2⟩ := h.some' m hm x hx
        rw [hdv] at e1
        simp only [Option.some.injEq] at e1
        subst e1
        exact e2.dev.lt
    have hdv' : (if j = i then some W.heap.size else ptr j) = some dv := hdv
    show (if l = i then some W.heap.size else ptr l) ≠ some dv
    intro hl'
    by_cases hji : j = i
    · rw [if_pos hji] at hdv'
      rw [if_neg (by omega)] at hl'
      have := old l hl dv hl'
      simp only [Option.some.injEq] at hdv'
      omega
    · rw [if_neg hji] at hdv'
      by_cases hli : l = i
      · rw [if_pos hli] at hl'
        have := old j hj dv hdv'
        simp only [Option.some.injEq] at hl'
        omega
      · rw [if_neg hli] at hl'
        exact h.own j l hj hl hjl dv hdv' hl'
  · rw [e3] at hk
    show tagAt T1 W.heap.size 1 k = 0
    unfold tagAt
    rw [if_neg (by omega), d2 k (.inr (by omega))]
    exact h.virgin k (by omega)

def kcells (l : List Nat) : List Value := l.map fun x : Nat => .int .i64 (x : Int)
theorem kcells_at (l : List Nat) (i : Nat) (h : i < l.length) : (kcells l)[i]? = some (.int .i64 ((l[i] : Nat) : Int)) := by simp [kcells, h]

def freshBay (l : List Nat) (i : Nat) : BaySt := ⟨l.length, fun q => if q % 3 = 0 ∧ q / 3 < i ∧ 0 < l.getD (q / 3) 0 then some ⟨freshDsk (l.getD (q / 3) 0), false, 0⟩ else none, false, -1, fun _ => 0⟩

theorem freshBay_skip (l : List Nat) (k : Nat) (h : l.getD k 0 = 0) : freshBay l (k + 1) = freshBay l k := by
  unfold freshBay
  congr 1
  funext q
  by_cases hq : q % 3 = 0 ∧ q / 3 < k + 1 ∧ 0 < l.getD (q / 3) 0
  · have hne : q / 3 ≠ k := fun e => by rw [e] at hq; omega
    rw [if_pos hq, if_pos ⟨hq.1, by omega, hq.2.2⟩]
  · rw [if_neg hq, if_neg (fun h => hq ⟨h.1, by omega, h.2.2⟩)]

theorem freshBay_lay (l : List Nat) (k : Nat) (h : 0 < l.getD k 0) : freshBay l (k + 1) = (freshBay l k).laid (k * 3) ⟨freshDsk (l.getD k 0), false, 0⟩ := by
  unfold freshBay BaySt.laid
  congr 1
  funext q
  show _ = if q = k * 3 then _ else if _ then _ else _
  by_cases hq : q = k * 3
  · subst hq
    have e : k * 3 / 3 = k := by omega
    rw [if_pos rfl, e, if_pos ⟨by omega, by omega, h⟩]
  · rw [if_neg hq]
    by_cases hq2 : q % 3 = 0 ∧ q / 3 < k + 1 ∧ 0 < l.getD (q / 3) 0
    · rw [if_pos hq2, if_pos ⟨hq2.1, by omega, hq2.2.2⟩]
    · rw [if_neg hq2, if_neg (fun h => hq2 ⟨h.1, by omega, h.2.2⟩)]

theorem slice_slots : SliceOf Tryz.prog 78 88 3 24 :=
  SliceOf.mk' (z := .agg (List.replicate 3 (.pointer none)).toArray) Tryz.underlying78 (by decide) (by kernel_rfl) (by kernel_rfl)

theorem new_bay {w w1 : World} (l : List Nat) (h2 : l.length ≤ 17) (a1 : At w1 w.heap.size (List.replicate (l.length * 3) (.pointer none)).toArray 88) (b1 : Below w.heap.size w w1) :
    ∃ T, BayIn (w1.alloc (.cells #[.slice (some ⟨w.heap.size, 0, none⟩) l.length l.length, .bool false, .int .i64 (-1), .int .i64 0, .int .i64 0, .int .i64 0] 80)) T w1.heap.size (freshBay l 0) w.heap.size (fun _ => none) (fun q => q + 2) (fun _ => 0) ∧ (∀ q, q < w.heap.size → T q = 0) := by
  have hsz := b1.size
  have hl := a1.lt
  refine ⟨fun q => if q = w.heap.size ∨ q = w1.heap.size then 1 else 0, ⟨At.new _ _ _, ?_, by simp, by simp, fun i hi x hx => ?_, fun i hi _ => rfl, fun i j hi hj hij ha => ?_, fun i j hi hj hij dv hdv => by simp at hdv, fun k hk => ?_, h2, fun j => by show (0 : Int) ≤ 0; omega, by show (-1 : Int) ≤ -1; omega, by show (-1 : Int) ≤ 9223372036854775807; omega⟩, fun q hq => by show (if _ then _ else _) = _; rw [if_neg (by omega)]⟩
  · have := a1.alloc (.cells #[.slice (some ⟨w.heap.size, 0, none⟩) l.length l.length, .bool false, .int .i64 (-1), .int .i64 0, .int .i64 0, .int .i64 0] 80)
    have e : slotCells (fun _ => none) l.length = (List.replicate (l.length * 3) (Value.pointer none)).toArray := by
      apply Array.ext_getElem?
      intro j
      by_cases hj : j < 3 * l.length
      · rw [slotCells_at _ _ _ hj]
        have hj' : j < l.length * 3 := by omega
        simp [hj', pcell]
      · have hj' : ¬ j < l.length * 3 := by omega
        rw [Array.getElem?_eq_none (by simp [slotCells]; omega), Array.getElem?_eq_none (by simp; omega)]
    show At _ _ (slotCells (fun _ => none) l.length) _
    rw [e]
    exact this
  · simp [freshBay] at hx
  · simp [freshBay] at ha
  · rw [size_alloc] at hk
    show (if _ then _ else _) = _
    rw [if_neg (by omega)]

/-- What New leaves. -/
def BayMade (w : World) (s : BaySt) (b : Nat) (w' : World) : Prop := ∃ T, BayAt w' T b s ∧ (∀ q, q < w.heap.size → T q = 0) ∧ w.heap.size ≤ b ∧ Below w.heap.size w w'

set_option maxRecDepth 100000 in
set_option maxHeartbeats 4000000 in
theorem bay_new (l : List Nat) (v : Value) (B : Nat) (w : World) (hv : w.ownsRow B 3 1 v l.length (kcells l)) (h1 : 1 ≤ l.length) (h2 : l.length ≤ 17) (hl : ∀ x ∈ l, x ≤ 8192) :
    Calls Tryz.prog 7 #[v] w fun e w' => ∃ b, e = .returned (.tuple #[.pointer (some ⟨b, 0, none⟩), .int .u16 0]) ∧ BayMade w (freshBay l l.length) b w' := by
  obtain ⟨g, cap, rfl, hBg, hg⟩ := ownsRow_full hv (by omega)
  have HV := Lib.hid hv
  have HL := Lib.hid hl
  clear hv hl
  go_enter Tryz.func7, Tryz.ntmps7
  go_wp2_with (refine wpList_make_same rfl _ _ 78 88 3 24 rfl slice_slots (.pointer none) (by kernel_rfl) _ _ _ _ l.length rfl rfl rfl rfl (by omega) (by unfold maxLen; omega) ?_; intro w1 a1 b1)
  go_loopw [24] (fun q wr => ∃ k : Nat, k ≤ l.length ∧ q = .int .i64 k ∧ ∃ T gs ptr tg dp, BayIn wr T w1.heap.size (freshBay l k) gs ptr tg dp ∧ (∀ q, q < w.heap.size → T q = 0) ∧ (∀ j, j < 3 * l.length → (freshBay l k).pos j ≠ none → tg j = j + 2) ∧ w.heap.size ≤ gs ∧ Below w.heap.size w wr) (fun q _ => l.length - (intOf q).toNat)
  case atStart =>
    obtain ⟨T, k1, k2⟩ := new_bay l h2 a1 b1
    exact ⟨0, by omega, rfl, T, _, _, _, _, k1, k2, fun j _ _ => rfl, Nat.le_refl _, b1.alloc b1.size _⟩
  case round =>
    obtain ⟨k, hk, rfl, T, gs, ptr, tg, dp, hB, hT, htg, hgs, hbel⟩ := hrel
    have HB := Lib.hid hB
    have HT := Lib.hid hT
    have HG := Lib.hid htg
    have c0 : wr.cell? ⟨w1.heap.size, 0, none⟩ = some (.slice (some ⟨gs, 0, none⟩) l.length l.length) := hB.bay.cell 0
    have hgl := hB.slots.lt
    have fg := hB.slots.free (k * 3)
    clear hB hT htg
    by_cases hkn : k < l.length
    · have d0 : wr.cell? ⟨g, k, none⟩ = some (.int .i64 ((l[k] : Nat) : Int)) := by
        have := HV.out.cells (g := g) rfl k _ (kcells_at l k hkn)
        rw [Go.WideShapes.add_plain, Nat.zero_add] at this
        exact (hbel.cell (p := ⟨g, k, none⟩) hg).trans this
      have hx8 := HL.out l[k] (List.getElem_mem hkn)
      have egd : l.getD k 0 = l[k] := by rw [List.getD_eq_getElem?_getD, List.getElem?_eq_getElem hkn]; rfl
      have EG := Lib.hid egd
      clear egd
      have K1 : Hid (k + 1 ≤ l.length) := hkn
      generalize hx : l[k] = x at *
      clear hx
      by_cases hx0 : x = 0
      · subst hx0
        go_wp2
        refine ⟨⟨k + 1, K1.out, by go_num, T, gs, ptr, tg, dp, ?_, HT.out, ?_, hgs, hbel⟩, by simp [intOf]; omega⟩
        · rw [freshBay_skip l k EG.out]; exact HB.out
        · rw [freshBay_skip l k EG.out]; exact HG.out
      · have HN := Lib.hid (disk_new T (k * 3 + 2) x wr (by omega) hx8)
        go_wp2_with (go_at_call 24; refine HN.out.mono ?_; rintro e w2 ⟨p, rfl, hd⟩; have c2 : w2.cell? ⟨w1.heap.size, 0, none⟩ = some (.slice (some ⟨gs, 0, none⟩) l.length l.length) := (by obtain ⟨_, _, _, _, hb, _⟩ := hd; exact (hb.cell (p := ⟨w1.heap.size, 0, none⟩) HB.out.bay.lt).trans c0); have a2 : At (w2.alloc (.cells #[.pointer (some ⟨p, 0, none⟩), .bool false, .int .i64 0] 86)) gs (slotCells ptr l.length) 88 := (At.below HB.out.slots (by obtain ⟨_, _, _, _, hb, _⟩ := hd; exact hb) HB.out.slots.lt).alloc _; have f2 := a2.free (k * 3); have c3 := (a2.cell (k * 3)).trans (slotCells_at ptr l.length (k * 3) (by have := K1.out; omega)); have HD := Lib.hid hd; clear hd a2)
        have K0 : k * 3 < 3 * l.length := by have := K1.out; omega
        obtain ⟨T', m1, m2, m3⟩ := HB.out.lay (i := k * 3) (t := k * 3 + 2) K0 HD.out (by omega) (fun j hj hjk hp => by have := HG.out j hj hp; omega)
        have ef : freshBay l (k + 1) = (freshBay l k).laid (k * 3) ⟨freshDsk x, false, 0⟩ := by rw [freshBay_lay l k (by rw [EG.out]; omega), EG.out]
        rw [← ef] at m1
        refine ⟨⟨k + 1, K1.out, by go_num, T', gs, _, _, _, m1, fun q hq => (m2 q (Nat.lt_of_lt_of_le hq hbel.size)).trans (HT.out q hq), fun j hj hp => ?_, hgs, ?_⟩, by simp [intOf]; omega⟩
        · show (if j = k * 3 then k * 3 + 2 else tg j) = j + 2
          by_cases hj3 : j = k * 3
          · rw [if_pos hj3, hj3]
          · rw [if_neg hj3]
            refine HG.out j hj fun h0 => hp ?_
            rw [ef]
            show (if j = k * 3 then _ else (freshBay l k).pos j) = none
            rw [if_neg hj3, h0]
        · exact Chg.own hbel m3 (fun q hq => by subst hq; exact hgs)
    · obtain rfl : k = l.length := by omega
      go_wp2
      go_ret2
      exact ⟨_, rfl, T, ⟨gs, ptr, tg, dp, HB.out⟩, HT.out, b1.size, hbel⟩

end Go.Proofs.YtleicmmbaacbmaaGreat
