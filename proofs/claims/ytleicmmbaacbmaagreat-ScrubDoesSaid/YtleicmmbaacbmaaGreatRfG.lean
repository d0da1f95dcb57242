/- The document's bay: Fail, Wear, Trip, Image. -/
import Derived.Test.YtleicmmbaacbmaaGreatMrg13
import Derived.Test.YtleicmmbaacbmaaGreatMrg14
set_option linter.unusedVariables false
namespace Go.Proofs.YtleicmmbaacbmaaGreat
open Go.RowKit

set_option maxRecDepth 100000 in
set_option maxHeartbeats 1000000 in
theorem rbay_there_none {w : World} {R : Nat → Prop} {c : Nat} {s : BaySt} {gs cap : Nat} {ptr : Nat → Option Nat} {D : Nat → Nat → Prop} (h : RBayIn w R c s gs cap ptr D) (k : Int) (hk : ¬ s.is k ∨ (s.is k ∧ s.pos (k.toNat * 3) = none)) :
    Calls Tryz.prog 43 #[.pointer (some ⟨c, 0, none⟩), .int .i64 k] w fun e w' => e = .returned (.int .u16 (s.why k)) ∧ w' = w := by
  rcases hk with hk | ⟨hk, hp⟩
  · rw [show s.why k = 1 from if_neg hk]
    have HIS := Lib.hid (rbay_is_no h k hk)
    clear h hk
    go_enter Tryz.func43, Tryz.ntmps43
    go_wp2_with (first
      | (go_at_call 81; (with_reducible refine HIS.out.mono ?_); rintro e w1 ⟨rfl, hw⟩; obtain rfl : w = w1 := hw.symm))
    go_ret
    exact ⟨rfl, rfl⟩
  · rw [show s.why k = 51 from if_pos hk]
    have hk2 : 0 ≤ k ∧ k < (s.n : Int) := hk
    obtain ⟨j, rfl⟩ := Int.eq_ofNat_of_zero_le hk2.1
    rw [Int.toNat_natCast] at hp
    have hj : j < s.n := by omega
    have HIS := Lib.hid (rbay_is h j hj)
    have c0 : w.cell? ⟨c, 0, none⟩ = some (.slice (some ⟨gs, 0, none⟩) s.n cap) := h.bay.cell 0
    have p0 : w.cell? ⟨gs, j * 6, none⟩ = some (pcell (ptr (j * 3))) := h.cellP hj 0 (by omega)
    rw [h.none' (j * 3) (by omega) hp] at p0
    unfold pcell at p0
    rw [Option.map_none] at p0
    have hfew := h.few
    clear h hk hk2 hp
    go_enter Tryz.func43, Tryz.ntmps43
    go_wp2_with (first
      | (go_at_call 81; (with_reducible refine HIS.out.mono ?_); rintro e w1 ⟨rfl, hw⟩; obtain rfl : w = w1 := hw.symm))
    go_ret
    exact ⟨rfl, rfl⟩

set_option maxRecDepth 100000 in
set_option maxHeartbeats 1000000 in
theorem rbay_there {w : World} {R : Nat → Prop} {c : Nat} {s : BaySt} {gs cap : Nat} {ptr : Nat → Option Nat} {D : Nat → Nat → Prop} (h : RBayIn w R c s gs cap ptr D) (j p : Nat) (hj : j < s.n) (hp : ptr (j * 3) = some p) :
    Calls Tryz.prog 43 #[.pointer (some ⟨c, 0, none⟩), .int .i64 j] w fun e w' => e = .returned (.int .u16 0) ∧ w' = w := by
  have HIS := Lib.hid (rbay_is h j hj)
  have c0 : w.cell? ⟨c, 0, none⟩ = some (.slice (some ⟨gs, 0, none⟩) s.n cap) := h.bay.cell 0
  have p0 : w.cell? ⟨gs, j * 6, none⟩ = some (pcell (ptr (j * 3))) := h.cellP hj 0 (by omega)
  rw [hp] at p0
  unfold pcell at p0
  rw [Option.map_some] at p0
  have hfew := h.few
  clear h hp
  go_enter Tryz.func43, Tryz.ntmps43
  go_wp2_with (first
    | (go_at_call 81; (with_reducible refine HIS.out.mono ?_); rintro e w1 ⟨rfl, hw⟩; obtain rfl : w = w1 := hw.symm))
  go_ret
  exact ⟨rfl, rfl⟩

theorem fails_none {s : BaySt} {k : Int} (hno : ¬ s.is k ∨ (s.is k ∧ s.pos (k.toNat * 3) = none)) : s.fails k = ((s.why k).toNat, s) := by
  unfold BaySt.fails BaySt.why
  rcases hno with hno | ⟨h1, h2⟩
  · unfold BaySt.is at hno; rw [if_neg hno, if_neg hno]; rfl
  · unfold BaySt.is at h1; rw [if_pos h1, if_pos h1, h2]; rfl
theorem fails_some {s : BaySt} {i : Nat} {x : Dev} (hi : i < s.n) (hx : s.pos (i * 3) = some x) : s.fails (i : Int) = (0, s.laid (i * 3) ⟨⟨x.d.last, [], true⟩, x.worn, x.left⟩) := by
  unfold BaySt.fails
  rw [if_pos (by omega), Int.toNat_natCast, hx]
theorem wears_none {s : BaySt} {k n : Int} (hn : ¬ n < 0) (hno : ¬ s.is k ∨ (s.is k ∧ s.pos (k.toNat * 3) = none)) : s.wears k n = ((s.why k).toNat, s) := by
  unfold BaySt.wears BaySt.why
  rw [if_neg hn]
  rcases hno with hno | ⟨h1, h2⟩
  · unfold BaySt.is at hno; rw [if_neg hno, if_neg hno]; rfl
  · unfold BaySt.is at h1; rw [if_pos h1, if_pos h1, h2]; rfl
theorem wears_some {s : BaySt} {i : Nat} {n : Int} {x : Dev} (hn : ¬ n < 0) (hi : i < s.n) (hx : s.pos (i * 3) = some x) : s.wears (i : Int) n = (0, s.laid (i * 3) ⟨x.d, true, n⟩) := by
  unfold BaySt.wears
  rw [if_neg hn, if_pos (by omega), Int.toNat_natCast, hx]
theorem image_none {s : BaySt} {k : Int} (hno : ¬ s.is k ∨ (s.is k ∧ s.pos (k.toNat * 3) = none)) : s.image k = ((s.why k).toNat, none) := by
  unfold BaySt.image BaySt.why
  rcases hno with hno | ⟨h1, h2⟩
  · unfold BaySt.is at hno; rw [if_neg hno, if_neg hno]; rfl
  · unfold BaySt.is at h1; rw [if_pos h1, if_pos h1, h2]; rfl
theorem image_some {s : BaySt} {i : Nat} {x : Dev} (hi : i < s.n) (hx : s.pos (i * 3) = some x) : s.image (i : Int) = (0, if x.d.failed = true then none else some x.d.last) := by
  unfold BaySt.image
  rw [if_pos (by omega), Int.toNat_natCast, hx]

set_option maxRecDepth 100000 in
set_option maxHeartbeats 1000000 in
theorem rbay_fails {w : World} {R : Nat → Prop} {c : Nat} {s : BaySt} (h : RBayAt w R c s) (k : Int) :
    Calls Tryz.prog 31 #[.pointer (some ⟨c, 0, none⟩), .int .i64 k] w fun e w' => e = .returned (.int .u16 (((s.fails k).1 : Nat) : Int)) ∧ RBPost w R c (s.fails k).2 w' := by
  obtain ⟨gs, cap, ptr, D, h⟩ := h
  rcases slot_three s k with hno | ⟨i, x, rfl, hi, hx⟩
  · rw [fails_none hno]
    have hth := Lib.hid (rbay_there_none h k hno)
    have hne : s.why k = 51 ∨ s.why k = 1 := s.why_is k
    have HP : Hid (RBPost w R c s w) := .same ⟨gs, cap, ptr, D, h⟩ (Chg.refl _ _)
    clear h hno
    generalize s.why k = z at *
    rcases hne with rfl | rfl
    all_goals
      go_enter Tryz.func31, Tryz.ntmps31
      go_wp2_with (first
        | (go_at_call 43; (with_reducible refine hth.out.mono ?_); rintro e w1 ⟨rfl, hw⟩; obtain rfl : w = w1 := hw.symm))
      go_ret
      exact ⟨rfl, HP.out⟩
  · rw [fails_some hi hx]
    obtain ⟨p, hp, hd⟩ := h.some' (i * 3) (by omega) x hx
    have hth := Lib.hid (rbay_there h i p hi hp)
    have c0 : w.cell? ⟨c, 0, none⟩ = some (.slice (some ⟨gs, 0, none⟩) s.n cap) := h.bay.cell 0
    have p0 : w.cell? ⟨gs, i * 6, none⟩ = some (pcell (ptr (i * 3))) := h.cellP hi 0 (by omega)
    rw [hp] at p0
    unfold pcell at p0
    rw [Option.map_some] at p0
    have hfew := h.few
    obtain ⟨wl, wh⟩ := h.wear (i * 3) (by omega) x hx
    have HF : Hid (Calls Tryz.prog 75 #[.pointer (some ⟨p, 0, none⟩)] w fun e w' => e = .returned (.tuple #[]) ∧ RBTurned w R c (s.laid (i * 3) ⟨⟨x.d.last, [], true⟩, x.worn, x.left⟩) gs cap ptr w') :=
      (rdisk_fail hd).mono fun e w' ⟨q1, q2⟩ => ⟨q1, h.turn (y := ⟨⟨x.d.last, [], true⟩, x.worn, x.left⟩) (by omega) hx hp (by unfold wearOf; rfl) wl wh q2⟩
    clear h hx hp hd wl wh
    go_enter Tryz.func31, Tryz.ntmps31
    go_wp2_with (first
      | (go_at_call 43; (with_reducible refine hth.out.mono ?_); rintro e w1 ⟨rfl, hw⟩; obtain rfl : w = w1 := hw.symm)
      | (go_at_call 75; (with_reducible refine HF.out.mono ?_); rintro e w2 ⟨rfl, hpost⟩; have HPO := Lib.hid hpost; clear hpost c0 p0))
    go_ret
    exact ⟨rfl, HPO.out.post⟩

set_option maxRecDepth 100000 in
set_option maxHeartbeats 1000000 in
theorem rbay_wears {w : World} {R : Nat → Prop} {c : Nat} {s : BaySt} (h : RBayAt w R c s) (k n : Int) (hn2 : n ≤ 9223372036854775807) :
    Calls Tryz.prog 33 #[.pointer (some ⟨c, 0, none⟩), .int .i64 k, .int .i64 n] w fun e w' => e = .returned (.int .u16 (((s.wears k n).1 : Nat) : Int)) ∧ RBPost w R c (s.wears k n).2 w' := by
  obtain ⟨gs, cap, ptr, D, h⟩ := h
  by_cases hneg : n < 0
  · have hr : s.wears k n = (1, s) := by unfold BaySt.wears; rw [if_pos hneg]
    rw [hr]
    have HP : Hid (RBPost w R c s w) := .same ⟨gs, cap, ptr, D, h⟩ (Chg.refl _ _)
    clear h hr
    go_enter Tryz.func33, Tryz.ntmps33
    go_wp2
    go_ret
    exact ⟨rfl, HP.out⟩
  · rcases slot_three s k with hno | ⟨i, x, rfl, hi, hx⟩
    · rw [wears_none hneg hno]
      have hth := Lib.hid (rbay_there_none h k hno)
      have hne : s.why k = 51 ∨ s.why k = 1 := s.why_is k
      have HP : Hid (RBPost w R c s w) := .same ⟨gs, cap, ptr, D, h⟩ (Chg.refl _ _)
      clear h hno
      generalize s.why k = z at *
      rcases hne with rfl | rfl
      all_goals
        go_enter Tryz.func33, Tryz.ntmps33
        go_wp2_with (first
          | (go_at_call 43; (with_reducible refine hth.out.mono ?_); rintro e w1 ⟨rfl, hw⟩; obtain rfl : w = w1 := hw.symm))
        go_ret
        exact ⟨rfl, HP.out⟩
    · rw [wears_some hneg hi hx]
      obtain ⟨p, hp, hd⟩ := h.some' (i * 3) (by omega) x hx
      have hth := Lib.hid (rbay_there h i p hi hp)
      have c0 : w.cell? ⟨c, 0, none⟩ = some (.slice (some ⟨gs, 0, none⟩) s.n cap) := h.bay.cell 0
      have p3 : w.cell? ⟨gs, i * 6 + 3, none⟩ = some (.int .i64 (wearOf (s.pos (i * 3)))) := h.cellW hi 0 (by omega)
      have p3f := h.slots.frozenAt (i * 6 + 3)
      generalize wearOf (s.pos (i * 3)) = we at *
      have hfew := h.few
      obtain ⟨r1, r2⟩ := h.worn hi hx true n (by omega) hn2 n (by unfold wearOf; rfl)
      have HR : Hid (RBPost w R c (s.laid (i * 3) ⟨x.d, true, n⟩) (w.setCell ⟨gs, i * 6 + 3, none⟩ (.int .i64 n))) := .same ⟨gs, cap, ptr, D, r1⟩ (r2.mono fun q hq => hq ▸ h.inS)
      clear h hx hp hd r1 r2
      go_enter Tryz.func33, Tryz.ntmps33
      go_wp2_with (first
        | (go_at_call 43; (with_reducible refine hth.out.mono ?_); rintro e w1 ⟨rfl, hw⟩; obtain rfl : w = w1 := hw.symm))
      go_ret
      exact ⟨rfl, HR.out⟩

set_option maxRecDepth 100000 in
set_option maxHeartbeats 1000000 in
theorem rbay_trips {w : World} {R : Nat → Prop} {c : Nat} {s : BaySt} (h : RBayAt w R c s) (n : Int) (hn : n ≤ 9223372036854775807) :
    Calls Tryz.prog 35 #[.pointer (some ⟨c, 0, none⟩), .int .i64 n] w fun e w' => e = .returned (.int .u16 (((s.trips n).1 : Nat) : Int)) ∧ RBPost w R c (s.trips n).2 w' := by
  obtain ⟨gs, cap, ptr, D, h⟩ := h
  have c1 : w.cell? ⟨c, 1, none⟩ = some (.bool s.dark) := h.bay.cell 1
  have c2 : w.cell? ⟨c, 2, none⟩ = some (.int .i64 s.trip) := h.bay.cell 2
  have f2 := h.bay.free 2
  have HP : Hid (RBPost w R c s w) := .same ⟨gs, cap, ptr, D, h⟩ (Chg.refl _ _)
  have HB := Lib.hid h
  clear h
  by_cases hneg : n < 0
  · have hr : s.trips n = (1, s) := by unfold BaySt.trips; rw [if_pos hneg]
    rw [hr]
    clear hr
    go_enter Tryz.func35, Tryz.ntmps35
    go_wp2
    go_ret
    exact ⟨rfl, HP.out⟩
  · cases hd : s.dark
    · have hr : s.trips n = (0, { s with trip := n }) := by unfold BaySt.trips; rw [if_neg hneg, if_neg (by rw [hd]; simp)]
      rw [hr]
      rw [hd] at c1
      obtain ⟨q1, q2⟩ := HB.out.tripTo n (by omega) hn (fun e => by rw [hd] at e; cases e)
      have HQ : Hid (RBPost w R c { s with trip := n } (w.setCell ⟨c, 2, none⟩ (.int .i64 n))) := .same ⟨gs, cap, ptr, D, q1⟩ (q2.mono fun q hq => hq ▸ HB.out.inB)
      clear hr q1 q2 hd
      go_enter Tryz.func35, Tryz.ntmps35
      go_wp2
      go_ret
      exact ⟨rfl, HQ.out⟩
    · have hr : s.trips n = (50, s) := by unfold BaySt.trips; rw [if_neg hneg, if_pos hd]
      rw [hr]
      rw [hd] at c1
      clear hr
      go_enter Tryz.func35, Tryz.ntmps35
      go_wp2
      go_ret
      exact ⟨rfl, HP.out⟩

set_option maxRecDepth 100000 in
set_option maxHeartbeats 1000000 in
theorem rbay_image {w : World} {R : Nat → Prop} {c : Nat} {s : BaySt} (h : RBayAt w R c s) (k : Int) :
    Calls Tryz.prog 14 #[.pointer (some ⟨c, 0, none⟩), .int .i64 k] w (ImagePost w (s.image k)) := by
  obtain ⟨gs, cap, ptr, D, h⟩ := h
  rcases slot_three s k with hno | ⟨i, x, rfl, hi, hx⟩
  · rw [image_none hno]
    have hth := Lib.hid (rbay_there_none h k hno)
    have hne : s.why k = 51 ∨ s.why k = 1 := s.why_is k
    clear h hno
    generalize s.why k = z at *
    rcases hne with rfl | rfl
    all_goals
      go_enter Tryz.func14, Tryz.ntmps14
      go_wp2_with (first
        | (go_at_call 43; (with_reducible refine hth.out.mono ?_); rintro e w1 ⟨rfl, hw⟩; obtain rfl : w = w1 := hw.symm))
      go_ret2
      exact ⟨_, rfl, Below.refl _ _, fun l hl => (by cases hl), fun _ => rfl⟩
  · rw [image_some hi hx]
    obtain ⟨o, ho⟩ : ∃ o, o = if x.d.failed = true then none else some x.d.last := ⟨_, rfl⟩
    rw [← ho]
    have HO := Lib.hid ho
    obtain ⟨p, hp, hd⟩ := h.some' (i * 3) (by omega) x hx
    have hth := Lib.hid (rbay_there h i p hi hp)
    have c0 : w.cell? ⟨c, 0, none⟩ = some (.slice (some ⟨gs, 0, none⟩) s.n cap) := h.bay.cell 0
    have p0 : w.cell? ⟨gs, i * 6, none⟩ = some (pcell (ptr (i * 3))) := h.cellP hi 0 (by omega)
    rw [hp] at p0
    unfold pcell at p0
    rw [Option.map_some] at p0
    have hfew := h.few
    have HF := Lib.hid (rdisk_image hd)
    have hfw : Hid (x.d.last.length ≤ 8192) := by obtain ⟨_, _, _, q⟩ := hd; exact q.few
    clear h hx hp hd ho
    go_enter Tryz.func14, Tryz.ntmps14
    go_wp2_with (first
      | (go_at_call 43; (with_reducible refine hth.out.mono ?_); rintro e w1 ⟨rfl, hw⟩; obtain rfl : w = w1 := hw.symm)
      | (go_at_call 44; (with_reducible refine HF.out.mono ?_); rintro e w2 ⟨v, rfl, hb, hv1, hv2⟩; have HV1 := Lib.hid hv1; have HV2 := Lib.hid hv2; have HB := Lib.hid hb; clear hv1 hv2 hb c0 p0))
    go_ret2
    refine ⟨_, rfl, HB.out, fun l hl => ?_, fun hl => ?_⟩
    · have hl2 : o = some l := hl
      rw [HO.out] at hl2
      cases hf : x.d.failed
      · rw [hf, if_neg (by simp)] at hl2
        obtain rfl := Option.some.inj hl2
        exact ⟨hfw.out, HV1.out hf⟩
      · rw [hf, if_pos rfl] at hl2; cases hl2
    · have hl2 : o = none := hl
      rw [HO.out] at hl2
      cases hf : x.d.failed
      · rw [hf, if_neg (by simp)] at hl2; cases hl2
      · exact HV2.out hf

end Go.Proofs.YtleicmmbaacbmaaGreat
