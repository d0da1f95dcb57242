/- A bay of disks: Cut. -/
import Derived.Test.YtleicmmbaacbmaaGreatMrg8
set_option linter.unusedVariables false
namespace Go.Proofs.YtleicmmbaacbmaaGreat
open Go.RowKit

def Dev.crash (x : Dev) (l : List Bool) : Dev := ⟨x.d.crash l, x.worn, x.left⟩

/-- Slot k behind a cut. -/
def BaySt.crashAt (s : BaySt) (k : Nat) (l : List Bool) : BaySt := { s with pos := fun q => if q = k * 3 then (s.pos (k * 3)).map (·.crash l) else s.pos q }
def BaySt.come (s : BaySt) (k : Nat) : BaySt :=
  match s.pos (k * 3 + 2) with
  | none => s
  | some y => { s with pos := fun q => if q = k * 3 then some y else if q = k * 3 + 2 then none else s.pos q }
def BaySt.cutTo (s : BaySt) (ks : List (List Bool)) : Nat → BaySt
  | 0 => s
  | k + 1 => ((s.cutTo ks k).crashAt k (ks.getD k [])).come k
def BaySt.cut (s : BaySt) (ks : List (List Bool)) : BaySt := { s.cutTo ks s.n with dark := false, trip := -1 }

theorem come_n (s : BaySt) (k : Nat) : (s.come k).n = s.n := by unfold BaySt.come; split <;> rfl
theorem cutTo_n (s : BaySt) (ks : List (List Bool)) : ∀ k, (s.cutTo ks k).n = s.n
  | 0 => rfl
  | k + 1 => by
    show (((s.cutTo ks k).crashAt k (ks.getD k [])).come k).n = s.n
    rw [come_n]
    exact cutTo_n s ks k
theorem come_cnt (s : BaySt) (k : Nat) : (s.come k).cnt = s.cnt := by unfold BaySt.come; split <;> rfl
theorem cutTo_cnt (s : BaySt) (ks : List (List Bool)) : ∀ k, (s.cutTo ks k).cnt = s.cnt
  | 0 => rfl
  | k + 1 => by
    show (((s.cutTo ks k).crashAt k (ks.getD k [])).come k).cnt = s.cnt
    rw [come_cnt]
    exact cutTo_cnt s ks k

theorem come_pos (s : BaySt) (k q : Nat) (hq : q / 3 ≠ k) : (s.come k).pos q = s.pos q := by
  unfold BaySt.come
  split
  · rfl
  · show (if q = k * 3 then _ else if q = k * 3 + 2 then none else s.pos q) = _
    rw [if_neg (by omega), if_neg (by omega)]
theorem cutTo_pos (s : BaySt) (ks : List (List Bool)) : ∀ k q, k ≤ q / 3 → (s.cutTo ks k).pos q = s.pos q
  | 0, q, _ => rfl
  | k + 1, q, h => by
    show (((s.cutTo ks k).crashAt k (ks.getD k [])).come k).pos q = s.pos q
    rw [come_pos _ _ _ (by omega)]
    show (if q = k * 3 then _ else (s.cutTo ks k).pos q) = _
    rw [if_neg (by omega)]
    exact cutTo_pos s ks k q (by omega)

/-- A device moves from one place to another one. -/
theorem BayIn.move {w w' : World} {T : Nat → Nat} {b : Nat} {s : BaySt} {gs : Nat} {ptr : Nat → Option Nat} {tg dp : Nat → Nat} (h : BayIn w T b s gs ptr tg dp) {i j : Nat} {y : Dev} {dv : Nat} (hi : i < 3 * s.n) (hj : j < 3 * s.n) (hij : i ≠ j) (hy : s.pos j = some y) (hp : ptr j = some dv)
    (he : w' = (w.setCell ⟨gs, i, none⟩ (.pointer (some ⟨dv, 0, none⟩))).setCell ⟨gs, j, none⟩ (.pointer none)) :
    BayIn w' T b { s with pos := fun q => if q = i then some y else if q = j then none else s.pos q } gs (fun q => if q = i then some dv else if q = j then none else ptr q) (fun q => if q = i then tg j else tg q) (fun q => if q = i then dp j else dp q) ∧ Chg (fun q => q = gs) w w' := by
  have hc : Chg (fun q => q = gs) w w' := by
    rw [he]
    exact Chg.setCell (S := fun q => q = gs) (Chg.setCell (S := fun q => q = gs) (Chg.refl _ _) ⟨gs, i, none⟩ (.inl rfl) _) ⟨gs, j, none⟩ (.inl rfl) _
  have hne : ∀ g cs ty, At w g cs ty → ty ≠ 88 → g ≠ gs := fun g cs ty ha hty e => by
    subst e
    have c := h.slots
    unfold At at ha c
    rw [ha] at c
    simp only [Option.some.injEq, Obj.cells.injEq] at c
    exact hty c.2.1
  have hkeep : ∀ (t : Nat) (x : Dev) (dvq d : Nat), DevAt w T t dvq d x → DevAt w' T t dvq d x := fun t x dvq d hd => hd.keep hc (fun k hk e => by
    subst e
    have := h.ts
    have := hd.two
    rcases hk with hk | hk
    · omega
    · exact hne dvq _ _ hd.dev (by decide) hk.symm)
  refine ⟨⟨h.bay.mod hc (hne b _ _ h.bay (by decide)), ?_, h.tb, h.ts, fun q hq x hx => ?_, fun q hq hx => ?_, fun q l hq hl hql a c => ?_, fun q l hq hl hql d hd hd2 => ?_, fun k hk => h.virgin k (Nat.le_trans hc.size hk), h.few, h.cl, h.trl, h.trh⟩, hc⟩
  · rw [he]
    have h2 := (h.slots.set i (.pointer (some ⟨dv, 0, none⟩))).set j (.pointer none)
    have e : ((slotCells ptr s.n).setIfInBounds i (.pointer (some ⟨dv, 0, none⟩))).setIfInBounds j (.pointer none) = slotCells (fun q => if q = i then some dv else if q = j then none else ptr q) s.n := by
      apply Array.ext_getElem?
      intro m
      have hs : (slotCells ptr s.n).size = 3 * s.n := by simp [slotCells]
      rw [Array.getElem?_setIfInBounds, Array.getElem?_setIfInBounds, Array.size_setIfInBounds, hs]
      by_cases hm : m < 3 * s.n
      · rw [slotCells_at _ _ _ hm, slotCells_at _ _ _ hm]
        by_cases hjm : j = m
        · subst hjm; rw [if_pos rfl, if_pos hm, if_neg (Ne.symm hij), if_pos rfl]; rfl
        · rw [if_neg hjm]
          by_cases him : i = m
          · subst him; rw [if_pos rfl, if_pos hm, if_pos rfl]; rfl
          · rw [if_neg him, if_neg (Ne.symm him), if_neg (Ne.symm hjm)]
      · have q1 : ∀ f, (slotCells f s.n)[m]? = none := fun f => by rw [Array.getElem?_eq_none]; simp [slotCells]; omega
        rw [q1, q1, if_neg (by omega), if_neg (by omega)]
    rw [e] at h2
    exact h2
  · have hx' : (if q = i then some y else if q = j then none else s.pos q) = some x := hx
    by_cases hqi : q = i
    · rw [if_pos hqi] at hx'
      simp only [Option.some.injEq] at hx'
      subst hx'
      obtain ⟨dv2, e1, e2⟩ := h.some' j hj y hy
      rw [hp] at e1
      simp only [Option.some.injEq] at e1
      subst e1
      exact ⟨dv, if_pos hqi, by simp only [if_pos hqi]; exact hkeep _ _ _ _ e2⟩
    · rw [if_neg hqi] at hx'
      by_cases hqj : q = j
      · rw [if_pos hqj] at hx'; cases hx'
      · rw [if_neg hqj] at hx'
        obtain ⟨dv2, e1, e2⟩ := h.some' q hq x hx'
        exact ⟨dv2, by simp only [if_neg hqi, if_neg hqj]; exact e1, by simp only [if_neg hqi]; exact hkeep _ _ _ _ e2⟩
  · have hx' : (if q = i then some y else if q = j then none else s.pos q) = none := hx
    show (if q = i then some dv else if q = j then none else ptr q) = none
    by_cases hqi : q = i
    · rw [if_pos hqi] at hx'; cases hx'
    · rw [if_neg hqi] at hx' ⊢
      by_cases hqj : q = j
      · rw [if_pos hqj]
      · rw [if_neg hqj] at hx' ⊢
        exact h.none' q hq hx'
  · have a' : (if q = i then some y else if q = j then none else s.pos q) ≠ none := a
    have c' : (if l = i then some y else if l = j then none else s.pos l) ≠ none := c
    show (if q = i then tg j else tg q) ≠ (if l = i then tg j else tg l)
    have hyj : s.pos j ≠ none := by rw [hy]; simp
    by_cases hqi : q = i
    · have hli : l ≠ i := by omega
      rw [if_neg hli] at c'
      have hlj : l ≠ j := fun e => by rw [if_pos e] at c'; exact c' rfl
      rw [if_neg hlj] at c'
      rw [if_pos hqi, if_neg hli]
      exact h.apart j l hj hl (Ne.symm hlj) hyj c'
    · rw [if_neg hqi] at a'
      have hqj : q ≠ j := fun e => by rw [if_pos e] at a'; exact a' rfl
      rw [if_neg hqj] at a'
      rw [if_neg hqi]
      by_cases hli : l = i
      · rw [if_pos hli]
        exact h.apart q j hq hj hqj a' hyj
      · rw [if_neg hli] at c' ⊢
        have hlj : l ≠ j := fun e => by rw [if_pos e] at c'; exact c' rfl
        rw [if_neg hlj] at c'
        exact h.apart q l hq hl hql a' c'
  · have hd' : (if q = i then some dv else if q = j then none else ptr q) = some d := hd
    have hd2' : (if l = i then some dv else if l = j then none else ptr l) = some d := hd2
    by_cases hqi : q = i
    · have hli : l ≠ i := by omega
      rw [if_pos hqi] at hd'
      rw [if_neg hli] at hd2'
      have hlj : l ≠ j := fun e => by rw [if_pos e] at hd2'; cases hd2'
      rw [if_neg hlj] at hd2'
      exact h.own j l hj hl (Ne.symm hlj) d (by rw [hp, ← hd']) hd2'
    · rw [if_neg hqi] at hd'
      have hqj : q ≠ j := fun e => by rw [if_pos e] at hd'; cases hd'
      rw [if_neg hqj] at hd'
      by_cases hli : l = i
      · rw [if_pos hli] at hd2'
        exact h.own q j hq hj hqj d hd' (by rw [hp, ← hd2'])
      · rw [if_neg hli] at hd2'
        have hlj : l ≠ j := fun e => by rw [if_pos e] at hd2'; cases hd2'
        rw [if_neg hlj] at hd2'
        exact h.own q l hq hl hql d hd' hd2'

/-- No cache of a disk in a slot is long. -/
def BaySt.smallIn (s : BaySt) (m : Nat) : Prop := ∀ k, k < s.n → ∀ x, s.pos (k * 3) = some x → x.d.cache.length ≤ m
theorem BaySt.small.in {s : BaySt} {m : Nat} (h : s.small m) : s.smallIn m := fun k hk x hx => h (k * 3) (by omega) x hx

/- WALK -/
theorem crashAt_none {s : BaySt} {k : Nat} {l : List Bool} (h : s.pos (k * 3) = none) : s.crashAt k l = s := by
  unfold BaySt.crashAt
  have e : (fun q => if q = k * 3 then (s.pos (k * 3)).map (·.crash l) else s.pos q) = s.pos := by
    funext q
    by_cases hq : q = k * 3
    · subst hq; rw [if_pos rfl, h]; rfl
    · rw [if_neg hq]
  rw [e]
theorem crashAt_some {s : BaySt} {k : Nat} {l : List Bool} {x : Dev} (h : s.pos (k * 3) = some x) : s.crashAt k l = { s with pos := fun q => if q = k * 3 then some (x.crash l) else s.pos q } := by
  unfold BaySt.crashAt
  rw [h]
  rfl
theorem come_none {s : BaySt} {k : Nat} (h : s.pos (k * 3 + 2) = none) : s.come k = s := by
  unfold BaySt.come
  rw [h]
theorem come_some {s : BaySt} {k : Nat} {y : Dev} (h : s.pos (k * 3 + 2) = some y) : s.come k = { s with pos := fun q => if q = k * 3 then some y else if q = k * 3 + 2 then none else s.pos q } := by
  unfold BaySt.come
  rw [h]

/-- Where the cut stands. -/
def CutAt (w : World) (b : Nat) (T : Nat → Nat) (s' : BaySt) (wr : World) : Prop := ∃ gs ptr tg dp, BayIn wr T b s' gs ptr tg dp ∧ Chg (fun q => T q ≠ 0) w wr

set_option maxRecDepth 100000 in
set_option maxHeartbeats 8000000 in
theorem bay_cut {w : World} {T : Nat → Nat} {b : Nat} {s : BaySt} (h : BayAt w T b s) (v : Value) (ks : List (List Bool)) (hv : Bitss w T v ks) (hm : s.smallIn 1000000) :
    Calls Tryz.prog 11 #[.pointer (some ⟨b, 0, none⟩), v] w fun e w' => e = .returned (.tuple #[]) ∧ BayAt w' T b (s.cut ks) ∧ Chg (fun q => T q ≠ 0) w w' := by
  obtain ⟨gs0, ptr0, tg0, dp0, h⟩ := h
  obtain ⟨va, vc, rfl⟩ := hv.shape
  have c0 : w.cell? ⟨b, 0, none⟩ = some (.slice (some ⟨gs0, 0, none⟩) s.n s.n) := h.bay.cell 0
  have hfew := h.few
  have hkl : ks.length ≤ 1000000000 := by obtain ⟨_, _, _, q, _⟩ := hv; exact q
  have HV := Lib.hid hv
  have HM := Lib.hid hm
  have HB0 := Lib.hid h
  have htb := Lib.hid h.tb
  clear h hv hm
  go_enter Tryz.func11, Tryz.ntmps11
  go_wp2
  go_loopw [12] (fun q wr => ∃ k : Nat, k ≤ s.n ∧ q = .int .i64 k ∧ CutAt w b T (s.cutTo ks k) wr) (fun q _ => s.n - (intOf q).toNat)
  case atStart => exact ⟨0, by omega, rfl, gs0, ptr0, tg0, dp0, HB0.out, Chg.refl _ _⟩
  case round =>
    clear c0
    obtain ⟨k, hk, rfl, gs, ptr, tg, dp, hB, hch⟩ := hrel
    have hn : (s.cutTo ks k).n = s.n := cutTo_n s ks k
    have c0 : wr.cell? ⟨b, 0, none⟩ = some (.slice (some ⟨gs, 0, none⟩) s.n s.n) := by rw [← hn]; exact hB.bay.cell 0
    have HN := Lib.hid hn
    have HB := Lib.hid hB
    have HC := Lib.hid hch
    have HVr := Lib.hid (HV.out.keep hch (fun k h => h))
    by_cases hkn : k < s.n
    · have K1 : Hid (k + 1 ≤ s.n) := hkn
      have K3 : Hid (k * 3 + 2 < 3 * (s.cutTo ks k).n) := by show k * 3 + 2 < 3 * (s.cutTo ks k).n; rw [hn]; omega
      have a0 : wr.cell? ⟨gs, k * 3, none⟩ = some (pcell (ptr (k * 3))) := (hB.slots.cell (k * 3)).trans (slotCells_at _ _ _ (by rw [hn]; omega))
      have a2 : wr.cell? ⟨gs, k * 3 + 2, none⟩ = some (pcell (ptr (k * 3 + 2))) := (hB.slots.cell (k * 3 + 2)).trans (slotCells_at _ _ _ (by rw [hn]; omega))
      have fs0 := hB.slots.free (k * 3)
      have fs2 := hB.slots.free (k * 3 + 2)
      clear hch hn
      cases hx : (s.cutTo ks k).pos (k * 3) with
      | none =>
        cases hy : (s.cutTo ks k).pos (k * 3 + 2) with
        | none =>
          have P0 := Lib.hid hx
          rw [hB.none' (k * 3) (by have := K3.out; omega) hx] at a0
          clear hx
          rw [hB.none' (k * 3 + 2) K3.out hy] at a2
          have P2 := Lib.hid hy
          clear hB hy
          unfold pcell at a0 a2
          simp only [Option.map_some, Option.map_none] at a0 a2
          go_wp2
          have HB3 : BayIn wr T b ((s.cutTo ks k).crashAt k (ks.getD k [])) gs ptr tg dp := by rw [crashAt_none P0.out]; exact HB.out
          have HC3 := HC.out
          have Q2 : ((s.cutTo ks k).crashAt k (ks.getD k [])).pos (k * 3 + 2) = (s.cutTo ks k).pos (k * 3 + 2) := if_neg (by omega)
          rw [P2.out] at Q2
          refine ⟨⟨k + 1, K1.out, by go_num, gs, ptr, tg, dp, ?_, HC3⟩, by simp [intOf]; omega⟩
          show BayIn _ T b (((s.cutTo ks k).crashAt k (ks.getD k [])).come k) gs ptr tg dp
          rw [come_none Q2]
          exact HB3
        | some y =>
          have P0 := Lib.hid hx
          rw [hB.none' (k * 3) (by have := K3.out; omega) hx] at a0
          clear hx
          obtain ⟨dv2, e3, e4⟩ := hB.some' (k * 3 + 2) K3.out y hy
          rw [e3] at a2
          have E3 := Lib.hid e3
          clear e3 e4
          have P2 := Lib.hid hy
          clear hB hy
          unfold pcell at a0 a2
          simp only [Option.map_some, Option.map_none] at a0 a2
          go_wp2
          have HB3 : BayIn wr T b ((s.cutTo ks k).crashAt k (ks.getD k [])) gs ptr tg dp := by rw [crashAt_none P0.out]; exact HB.out
          have HC3 := HC.out
          have Q2 : ((s.cutTo ks k).crashAt k (ks.getD k [])).pos (k * 3 + 2) = (s.cutTo ks k).pos (k * 3 + 2) := if_neg (by omega)
          rw [P2.out] at Q2
          have hmv := HB3.move (i := k * 3) (j := k * 3 + 2) (by have := K3.out; show k * 3 < 3 * (s.cutTo ks k).n; omega) K3.out (by omega) Q2 E3.out rfl
          rw [← come_some Q2] at hmv
          refine ⟨⟨k + 1, K1.out, by go_num, gs, _, _, _, hmv.1, HC3.trans (hmv.2.mono fun q hq => ?_)⟩, by simp [intOf]; omega⟩
          subst hq; rw [HB3.ts]; simp
      | some x =>
        by_cases hkk : k < ks.length
        · cases hy : (s.cutTo ks k).pos (k * 3 + 2) with
          | none =>
            have p0 : (s.cutTo ks k).pos (k * 3) = some x := hx
            obtain ⟨dv, e1, e2⟩ := hB.some' (k * 3) (by have := K3.out; omega) x p0
            have d0 : wr.cell? ⟨dv, 0, none⟩ = some (.pointer (some ⟨dp (k * 3), 0, none⟩)) := e2.dev.cell 0
            rw [e1] at a0
            have hsm : x.d.cache.length ≤ 1000000 := HM.out k hkn x (by rw [← cutTo_pos s ks k (k * 3) (by omega)]; exact p0)
            obtain ⟨va', vc', q1, q2, q3⟩ := HVr.out
            simp only [Value.slice.injEq, true_and] at q1
            obtain ⟨rfl, rfl⟩ := q1
            rcases q3 with q3 | ⟨kb, ko, rfl, q4, q5, q6⟩
            · rw [q3] at hkk; simp at hkk
            obtain ⟨u, u1, u2⟩ := q6 k hkk
            obtain ⟨ua, uc, rfl⟩ := u2.shape
            have eg : ks.getD k [] = ks[k] := by rw [List.getD_eq_getElem?_getD, List.getElem?_eq_getElem hkk]; rfl
            have HCR := Lib.hid (disk_crash T (tg (k * 3)) (dp (k * 3)) x.d _ ks[k] wr e2.disk e2.two hB.virgin hsm u2)
            clear q6
            generalize ks[k].length = un at *
            rw [← eg] at HCR
            clear u2 eg
            have E2 := Lib.hid e2
            have P0 := Lib.hid p0
            have E1 := Lib.hid e1
            clear hsm e2 p0 hx e1
            rw [hB.none' (k * 3 + 2) K3.out hy] at a2
            have P2 := Lib.hid hy
            clear hB hy
            unfold pcell at a0 a2
            simp only [Option.map_some, Option.map_none] at a0 a2
            go_wp2_with (go_at_call 39; refine HCR.out.mono ?_; rintro e w2 ⟨rfl, r1, r2⟩; have HB2 := Lib.hid (HB.out.used (i := k * 3) (x := x) (x' := x.crash (ks.getD k [])) (by have := K3.out; omega) P0.out E1.out ⟨E2.out.dev.mod r2 (fun e => by have := E2.out.tag; have := E2.out.two; omega), E2.out.tag, E2.out.two, r1, E2.out.lo, E2.out.hi⟩ (r2.mono fun q hq => .inl hq)); have b2 : w2.cell? ⟨gs, k * 3 + 2, none⟩ = some (pcell (ptr (k * 3 + 2))) := (HB2.out.1.slots.cell (k * 3 + 2)).trans (slotCells_at _ _ _ K3.out); have b0 : w2.cell? ⟨gs, k * 3, none⟩ = some (pcell (ptr (k * 3))) := (HB2.out.1.slots.cell (k * 3)).trans (slotCells_at _ _ _ (by have := K3.out; show k * 3 < 3 * (s.cutTo ks k).n; omega)); have g0 := HB2.out.1.slots.free (k * 3); have g2 := HB2.out.1.slots.free (k * 3 + 2); rw [E1.out] at b0; rw [HB.out.none' (k * 3 + 2) K3.out P2.out] at b2; unfold pcell at b0 b2; simp only [Option.map_some, Option.map_none] at b0 b2)
            have HB3 : BayIn w2 T b ((s.cutTo ks k).crashAt k (ks.getD k [])) gs ptr tg dp := by rw [crashAt_some P0.out]; exact HB2.out.1
            have HC3 := HC.out.trans HB2.out.2
            have Q2 : ((s.cutTo ks k).crashAt k (ks.getD k [])).pos (k * 3 + 2) = (s.cutTo ks k).pos (k * 3 + 2) := if_neg (by omega)
            rw [P2.out] at Q2
            refine ⟨⟨k + 1, K1.out, by go_num, gs, ptr, tg, dp, ?_, HC3⟩, by simp [intOf]; omega⟩
            show BayIn _ T b (((s.cutTo ks k).crashAt k (ks.getD k [])).come k) gs ptr tg dp
            rw [come_none Q2]
            exact HB3
          | some y =>
            have p0 : (s.cutTo ks k).pos (k * 3) = some x := hx
            obtain ⟨dv, e1, e2⟩ := hB.some' (k * 3) (by have := K3.out; omega) x p0
            have d0 : wr.cell? ⟨dv, 0, none⟩ = some (.pointer (some ⟨dp (k * 3), 0, none⟩)) := e2.dev.cell 0
            rw [e1] at a0
            have hsm : x.d.cache.length ≤ 1000000 := HM.out k hkn x (by rw [← cutTo_pos s ks k (k * 3) (by omega)]; exact p0)
            obtain ⟨va', vc', q1, q2, q3⟩ := HVr.out
            simp only [Value.slice.injEq, true_and] at q1
            obtain ⟨rfl, rfl⟩ := q1
            rcases q3 with q3 | ⟨kb, ko, rfl, q4, q5, q6⟩
            · rw [q3] at hkk; simp at hkk
            obtain ⟨u, u1, u2⟩ := q6 k hkk
            obtain ⟨ua, uc, rfl⟩ := u2.shape
            have eg : ks.getD k [] = ks[k] := by rw [List.getD_eq_getElem?_getD, List.getElem?_eq_getElem hkk]; rfl
            have HCR := Lib.hid (disk_crash T (tg (k * 3)) (dp (k * 3)) x.d _ ks[k] wr e2.disk e2.two hB.virgin hsm u2)
            clear q6
            generalize ks[k].length = un at *
            rw [← eg] at HCR
            clear u2 eg
            have E2 := Lib.hid e2
            have P0 := Lib.hid p0
            have E1 := Lib.hid e1
            clear hsm e2 p0 hx e1
            obtain ⟨dv2, e3, e4⟩ := hB.some' (k * 3 + 2) K3.out y hy
            rw [e3] at a2
            have E3 := Lib.hid e3
            clear e3 e4
            have P2 := Lib.hid hy
            clear hB hy
            unfold pcell at a0 a2
            simp only [Option.map_some, Option.map_none] at a0 a2
            go_wp2_with (go_at_call 39; refine HCR.out.mono ?_; rintro e w2 ⟨rfl, r1, r2⟩; have HB2 := Lib.hid (HB.out.used (i := k * 3) (x := x) (x' := x.crash (ks.getD k [])) (by have := K3.out; omega) P0.out E1.out ⟨E2.out.dev.mod r2 (fun e => by have := E2.out.tag; have := E2.out.two; omega), E2.out.tag, E2.out.two, r1, E2.out.lo, E2.out.hi⟩ (r2.mono fun q hq => .inl hq)); have b2 : w2.cell? ⟨gs, k * 3 + 2, none⟩ = some (pcell (ptr (k * 3 + 2))) := (HB2.out.1.slots.cell (k * 3 + 2)).trans (slotCells_at _ _ _ K3.out); have b0 : w2.cell? ⟨gs, k * 3, none⟩ = some (pcell (ptr (k * 3))) := (HB2.out.1.slots.cell (k * 3)).trans (slotCells_at _ _ _ (by have := K3.out; show k * 3 < 3 * (s.cutTo ks k).n; omega)); have g0 := HB2.out.1.slots.free (k * 3); have g2 := HB2.out.1.slots.free (k * 3 + 2); rw [E1.out] at b0; rw [E3.out] at b2; unfold pcell at b0 b2; simp only [Option.map_some, Option.map_none] at b0 b2)
            have HB3 : BayIn w2 T b ((s.cutTo ks k).crashAt k (ks.getD k [])) gs ptr tg dp := by rw [crashAt_some P0.out]; exact HB2.out.1
            have HC3 := HC.out.trans HB2.out.2
            have Q2 : ((s.cutTo ks k).crashAt k (ks.getD k [])).pos (k * 3 + 2) = (s.cutTo ks k).pos (k * 3 + 2) := if_neg (by omega)
            rw [P2.out] at Q2
            have hmv := HB3.move (i := k * 3) (j := k * 3 + 2) (by have := K3.out; show k * 3 < 3 * (s.cutTo ks k).n; omega) K3.out (by omega) Q2 E3.out rfl
            rw [← come_some Q2] at hmv
            refine ⟨⟨k + 1, K1.out, by go_num, gs, _, _, _, hmv.1, HC3.trans (hmv.2.mono fun q hq => ?_)⟩, by simp [intOf]; omega⟩
            subst hq; rw [HB3.ts]; simp
        · cases hy : (s.cutTo ks k).pos (k * 3 + 2) with
          | none =>
            have p0 : (s.cutTo ks k).pos (k * 3) = some x := hx
            obtain ⟨dv, e1, e2⟩ := hB.some' (k * 3) (by have := K3.out; omega) x p0
            have d0 : wr.cell? ⟨dv, 0, none⟩ = some (.pointer (some ⟨dp (k * 3), 0, none⟩)) := e2.dev.cell 0
            rw [e1] at a0
            have hsm : x.d.cache.length ≤ 1000000 := HM.out k hkn x (by rw [← cutTo_pos s ks k (k * 3) (by omega)]; exact p0)
            have eg : ks.getD k [] = [] := by rw [List.getD_eq_getElem?_getD, List.getElem?_eq_none (by omega)]; rfl
            have HCR := Lib.hid (disk_crash T (tg (k * 3)) (dp (k * 3)) x.d _ [] wr e2.disk e2.two hB.virgin hsm (Bits.nil wr T))
            rw [← eg] at HCR
            clear eg
            have E2 := Lib.hid e2
            have P0 := Lib.hid p0
            have E1 := Lib.hid e1
            clear hsm e2 p0 hx e1
            rw [hB.none' (k * 3 + 2) K3.out hy] at a2
            have P2 := Lib.hid hy
            clear hB hy
            unfold pcell at a0 a2
            simp only [Option.map_some, Option.map_none] at a0 a2
            go_wp2_with (go_at_call 39; refine HCR.out.mono ?_; rintro e w2 ⟨rfl, r1, r2⟩; have HB2 := Lib.hid (HB.out.used (i := k * 3) (x := x) (x' := x.crash (ks.getD k [])) (by have := K3.out; omega) P0.out E1.out ⟨E2.out.dev.mod r2 (fun e => by have := E2.out.tag; have := E2.out.two; omega), E2.out.tag, E2.out.two, r1, E2.out.lo, E2.out.hi⟩ (r2.mono fun q hq => .inl hq)); have b2 : w2.cell? ⟨gs, k * 3 + 2, none⟩ = some (pcell (ptr (k * 3 + 2))) := (HB2.out.1.slots.cell (k * 3 + 2)).trans (slotCells_at _ _ _ K3.out); have b0 : w2.cell? ⟨gs, k * 3, none⟩ = some (pcell (ptr (k * 3))) := (HB2.out.1.slots.cell (k * 3)).trans (slotCells_at _ _ _ (by have := K3.out; show k * 3 < 3 * (s.cutTo ks k).n; omega)); have g0 := HB2.out.1.slots.free (k * 3); have g2 := HB2.out.1.slots.free (k * 3 + 2); rw [E1.out] at b0; rw [HB.out.none' (k * 3 + 2) K3.out P2.out] at b2; unfold pcell at b0 b2; simp only [Option.map_some, Option.map_none] at b0 b2)
            have HB3 : BayIn w2 T b ((s.cutTo ks k).crashAt k (ks.getD k [])) gs ptr tg dp := by rw [crashAt_some P0.out]; exact HB2.out.1
            have HC3 := HC.out.trans HB2.out.2
            have Q2 : ((s.cutTo ks k).crashAt k (ks.getD k [])).pos (k * 3 + 2) = (s.cutTo ks k).pos (k * 3 + 2) := if_neg (by omega)
            rw [P2.out] at Q2
            refine ⟨⟨k + 1, K1.out, by go_num, gs, ptr, tg, dp, ?_, HC3⟩, by simp [intOf]; omega⟩
            show BayIn _ T b (((s.cutTo ks k).crashAt k (ks.getD k [])).come k) gs ptr tg dp
            rw [come_none Q2]
            exact HB3
          | some y =>
            have p0 : (s.cutTo ks k).pos (k * 3) = some x := hx
            obtain ⟨dv, e1, e2⟩ := hB.some' (k * 3) (by have := K3.out; omega) x p0
            have d0 : wr.cell? ⟨dv, 0, none⟩ = some (.pointer (some ⟨dp (k * 3), 0, none⟩)) := e2.dev.cell 0
            rw [e1] at a0
            have hsm : x.d.cache.length ≤ 1000000 := HM.out k hkn x (by rw [← cutTo_pos s ks k (k * 3) (by omega)]; exact p0)
            have eg : ks.getD k [] = [] := by rw [List.getD_eq_getElem?_getD, List.getElem?_eq_none (by omega)]; rfl
            have HCR := Lib.hid (disk_crash T (tg (k * 3)) (dp (k * 3)) x.d _ [] wr e2.disk e2.two hB.virgin hsm (Bits.nil wr T))
            rw [← eg] at HCR
            clear eg
            have E2 := Lib.hid e2
            have P0 := Lib.hid p0
            have E1 := Lib.hid e1
            clear hsm e2 p0 hx e1
            obtain ⟨dv2, e3, e4⟩ := hB.some' (k * 3 + 2) K3.out y hy
            rw [e3] at a2
            have E3 := Lib.hid e3
            clear e3 e4
            have P2 := Lib.hid hy
            clear hB hy
            unfold pcell at a0 a2
            simp only [Option.map_some, Option.map_none] at a0 a2
            go_wp2_with (go_at_call 39; refine HCR.out.mono ?_; rintro e w2 ⟨rfl, r1, r2⟩; have HB2 := Lib.hid (HB.out.used (i := k * 3) (x := x) (x' := x.crash (ks.getD k [])) (by have := K3.out; omega) P0.out E1.out ⟨E2.out.dev.mod r2 (fun e => by have := E2.out.tag; have := E2.out.two; omega), E2.out.tag, E2.out.two, r1, E2.out.lo, E2.out.hi⟩ (r2.mono fun q hq => .inl hq)); have b2 : w2.cell? ⟨gs, k * 3 + 2, none⟩ = some (pcell (ptr (k * 3 + 2))) := (HB2.out.1.slots.cell (k * 3 + 2)).trans (slotCells_at _ _ _ K3.out); have b0 : w2.cell? ⟨gs, k * 3, none⟩ = some (pcell (ptr (k * 3))) := (HB2.out.1.slots.cell (k * 3)).trans (slotCells_at _ _ _ (by have := K3.out; show k * 3 < 3 * (s.cutTo ks k).n; omega)); have g0 := HB2.out.1.slots.free (k * 3); have g2 := HB2.out.1.slots.free (k * 3 + 2); rw [E1.out] at b0; rw [E3.out] at b2; unfold pcell at b0 b2; simp only [Option.map_some, Option.map_none] at b0 b2)
            have HB3 : BayIn w2 T b ((s.cutTo ks k).crashAt k (ks.getD k [])) gs ptr tg dp := by rw [crashAt_some P0.out]; exact HB2.out.1
            have HC3 := HC.out.trans HB2.out.2
            have Q2 : ((s.cutTo ks k).crashAt k (ks.getD k [])).pos (k * 3 + 2) = (s.cutTo ks k).pos (k * 3 + 2) := if_neg (by omega)
            rw [P2.out] at Q2
            have hmv := HB3.move (i := k * 3) (j := k * 3 + 2) (by have := K3.out; show k * 3 < 3 * (s.cutTo ks k).n; omega) K3.out (by omega) Q2 E3.out rfl
            rw [← come_some Q2] at hmv
            refine ⟨⟨k + 1, K1.out, by go_num, gs, _, _, _, hmv.1, HC3.trans (hmv.2.mono fun q hq => ?_)⟩, by simp [intOf]; omega⟩
            subst hq; rw [HB3.ts]; simp
    · obtain rfl : k = s.n := by omega
      have f1 := hB.bay.free 1
      have f2 := hB.bay.free 2
      have c1 : wr.cell? ⟨b, 1, none⟩ = some (.bool (s.cutTo ks s.n).dark) := hB.bay.cell 1
      have c2 : wr.cell? ⟨b, 2, none⟩ = some (.int .i64 (s.cutTo ks s.n).trip) := hB.bay.cell 2
      clear hB hn
      go_wp2
      go_end0
      have hset : Chg (fun k => k = b) wr ((wr.setCell ⟨b, 1, none⟩ (.bool false)).setCell ⟨b, 2, none⟩ (.int .i64 (-1))) := Chg.setCell (S := fun k => k = b) (Chg.setCell (S := fun k => k = b) (Chg.refl _ _) ⟨b, 1, none⟩ (.inl rfl) _) ⟨b, 2, none⟩ (.inl rfl) _
      refine ⟨rfl, ⟨gs, ptr, tg, dp, HB.out.cells' hset false (-1) (s.cutTo ks s.n).cnt ((HB.out.bay.set 1 (.bool false)).set 2 (.int .i64 (-1))) HB.out.cl (by omega) (by omega)⟩, HC.out.trans (hset.mono fun q hq => ?_)⟩
      subst hq; rw [htb.out]; simp

end Go.Proofs.YtleicmmbaacbmaaGreat
