/- Several texts in one: BayM, RfF. -/
import Derived.Test.YtleicmmbaacbmaaGreatMrg5
import Derived.Test.YtleicmmbaacbmaaGreatMrg7
import Derived.Test.YtleicmmbaacbmaaGreatBayH
/- A bay of disks: Trip, Wear, Fail. -/
set_option linter.unusedVariables false
namespace Go.Proofs.YtleicmmbaacbmaaGreat
open Go.RowKit

set_option maxRecDepth 100000 in
set_option maxHeartbeats 1000000 in
theorem bay_trip {w : World} {T : Nat → Nat} {b : Nat} {s : BaySt} (h : BayAt w T b s) (n : Int) (hn : n ≤ 9223372036854775807) :
    Calls Tryz.prog 34 #[.pointer (some ⟨b, 0, none⟩), .int .i64 n] w fun e w' => e = .returned (.int .u16 (if n < 0 then 1 else if s.dark = true then 50 else 0)) ∧ BayAt w' T b (if n < 0 then s else if s.dark = true then s else { s with trip := n }) ∧ Chg (fun q => q = b) w w' := by
  obtain ⟨gs, ptr, tg, dp, h⟩ := h
  have HB := Lib.hid h
  have c1 : w.cell? ⟨b, 1, none⟩ = some (.bool s.dark) := h.bay.cell 1
  have c2 : w.cell? ⟨b, 2, none⟩ = some (.int .i64 s.trip) := h.bay.cell 2
  have f2 := h.bay.free 2
  clear h
  by_cases hneg : n < 0
  · rw [if_pos hneg, if_pos hneg]
    go_enter Tryz.func34, Tryz.ntmps34
    go_wp2
    go_ret
    exact ⟨rfl, ⟨gs, ptr, tg, dp, HB.out⟩, Chg.refl _ _⟩
  · rw [if_neg hneg, if_neg hneg]
    cases hd : s.dark
    · rw [hd] at c1
      rw [if_neg (by simp), if_neg (by simp)]
      go_enter Tryz.func34, Tryz.ntmps34
      go_wp2
      go_ret
      have hc : Chg (fun q => q = b) w (w.setCell ⟨b, 2, none⟩ (.int .i64 n)) := Chg.setCell (S := fun q => q = b) (Chg.refl _ _) ⟨b, 2, none⟩ (.inl rfl) _
      refine ⟨rfl, ⟨gs, ptr, tg, dp, ?_⟩, hc⟩
      have h2 := HB.out.cells' hc s.dark n s.cnt (HB.out.bay.set 2 (.int .i64 n)) HB.out.cl (by omega) hn
      rw [hd] at h2
      exact h2
    · rw [hd] at c1
      rw [if_pos rfl, if_pos rfl]
      go_enter Tryz.func34, Tryz.ntmps34
      go_wp2
      go_ret
      exact ⟨rfl, ⟨gs, ptr, tg, dp, HB.out⟩, Chg.refl _ _⟩

set_option maxRecDepth 100000 in
set_option maxHeartbeats 1000000 in
theorem bay_fail_some {w : World} {T : Nat → Nat} {b : Nat} {s : BaySt} {gs : Nat} {ptr : Nat → Option Nat} {tg dp : Nat → Nat} (h : BayIn w T b s gs ptr tg dp) (k : Nat) (hk : k < s.n) (x : Dev) (hx : s.pos (k * 3) = some x) (hm : x.d.cache.length ≤ 1000000) :
    Calls Tryz.prog 30 #[.pointer (some ⟨b, 0, none⟩), .int .i64 k] w fun e w' => e = .returned (.int .u16 0) ∧ BayIn w' T b { s with pos := fun q => if q = k * 3 then some ⟨⟨x.d.last, [], true⟩, x.worn, x.left⟩ else s.pos q } gs ptr tg dp ∧ Chg (fun q => T q ≠ 0) w w' := by
  obtain ⟨dv, hp, hD⟩ := h.some' (k * 3) (by omega) x hx
  have hth := Lib.hid (bay_there h k dv hk hp)
  have d0 : w.cell? ⟨dv, 0, none⟩ = some (.pointer (some ⟨dp (k * 3), 0, none⟩)) := hD.dev.cell 0
  have HF := Lib.hid (disk_fail T (tg (k * 3)) (dp (k * 3)) x.d w hD.disk hm)
  have HD := Lib.hid hD
  have HB := Lib.hid h
  have HX := Lib.hid hx
  have HP := Lib.hid hp
  have HK := Lib.hid hk
  clear h hD hx hp hk hm
  generalize hg : dp (k * 3) = gd at *
  go_enter Tryz.func30, Tryz.ntmps30
  go_wp2_with (first
    | (go_at_call 41; (with_reducible refine hth.out.mono ?_); rintro e w1 ⟨rfl, hw⟩; obtain rfl : w = w1 := hw.symm)
    | (go_at_call 74; (with_reducible refine HF.out.mono ?_); rintro e w2 ⟨rfl, hdk, hch⟩; have HDK := Lib.hid hdk; have HCH := Lib.hid hch; clear hdk hch d0))
  go_ret
  have ht := HD.out.tag
  have h2 := HD.out.two
  subst hg
  obtain ⟨q1, q2⟩ := HB.out.used (by have := HK.out; omega) HX.out HP.out (x' := ⟨⟨x.d.last, [], true⟩, x.worn, x.left⟩) ⟨HD.out.dev.mod HCH.out (fun e => by omega), ht, h2, HDK.out, HD.out.lo, HD.out.hi⟩ (HCH.out.mono fun q hq => .inl hq)
  exact ⟨rfl, q1, q2⟩

/-- Why there is no disk to be asked: no such slot, or none in it. -/
def BaySt.why (s : BaySt) (k : Int) : Int := if 0 ≤ k ∧ k < (s.n : Int) then 51 else 1
theorem BaySt.why_is (s : BaySt) (k : Int) : s.why k = 51 ∨ s.why k = 1 := by unfold BaySt.why; split <;> simp
theorem there_none {w : World} {T : Nat → Nat} {b : Nat} {s : BaySt} {gs : Nat} {ptr : Nat → Option Nat} {tg dp : Nat → Nat} (h : BayIn w T b s gs ptr tg dp) (k : Int) (hk : ¬ s.is k ∨ (s.is k ∧ s.pos (k.toNat * 3) = none)) :
    Calls Tryz.prog 41 #[.pointer (some ⟨b, 0, none⟩), .int .i64 k] w fun e w' => e = .returned (.tuple #[.pointer none, .int .u16 (s.why k)]) ∧ w' = w := by
  rcases hk with hk | ⟨hk, hp⟩
  · rw [show s.why k = 1 from if_neg hk]
    exact bay_there_none h k hk
  · rw [show s.why k = 51 from if_pos hk]
    have hk2 : 0 ≤ k ∧ k < (s.n : Int) := hk
    obtain ⟨j, rfl⟩ := Int.eq_ofNat_of_zero_le hk2.1
    rw [Int.toNat_natCast] at hp
    exact bay_there_empty h j (by omega) (h.none' (j * 3) (by omega) hp)

set_option maxRecDepth 100000 in
set_option maxHeartbeats 1000000 in
theorem bay_fail_none {w : World} {T : Nat → Nat} {b : Nat} {s : BaySt} {gs : Nat} {ptr : Nat → Option Nat} {tg dp : Nat → Nat} (h : BayIn w T b s gs ptr tg dp) (k : Int) (hk : ¬ s.is k ∨ (s.is k ∧ s.pos (k.toNat * 3) = none)) :
    Calls Tryz.prog 30 #[.pointer (some ⟨b, 0, none⟩), .int .i64 k] w fun e w' => e = .returned (.int .u16 (s.why k)) ∧ w' = w := by
  have hth := Lib.hid (there_none h k hk)
  have hne : s.why k = 51 ∨ s.why k = 1 := s.why_is k
  clear h hk
  generalize s.why k = z at *
  rcases hne with rfl | rfl
  all_goals
    go_enter Tryz.func30, Tryz.ntmps30
    go_wp2_with (first
      | (go_at_call 41; (with_reducible refine hth.out.mono ?_); rintro e w1 ⟨rfl, hw⟩; obtain rfl : w = w1 := hw.symm))
    go_ret
    exact ⟨rfl, rfl⟩

set_option maxRecDepth 100000 in
set_option maxHeartbeats 1000000 in
theorem bay_wear_none {w : World} {T : Nat → Nat} {b : Nat} {s : BaySt} {gs : Nat} {ptr : Nat → Option Nat} {tg dp : Nat → Nat} (h : BayIn w T b s gs ptr tg dp) (k n : Int) (hn : 0 ≤ n) (hk : ¬ s.is k ∨ (s.is k ∧ s.pos (k.toNat * 3) = none)) :
    Calls Tryz.prog 32 #[.pointer (some ⟨b, 0, none⟩), .int .i64 k, .int .i64 n] w fun e w' => e = .returned (.int .u16 (s.why k)) ∧ w' = w := by
  have hth := Lib.hid (there_none h k hk)
  have hne : s.why k = 51 ∨ s.why k = 1 := s.why_is k
  clear h hk
  generalize s.why k = z at *
  rcases hne with rfl | rfl
  all_goals
    go_enter Tryz.func32, Tryz.ntmps32
    go_wp2_with (first
      | (go_at_call 41; (with_reducible refine hth.out.mono ?_); rintro e w1 ⟨rfl, hw⟩; obtain rfl : w = w1 := hw.symm))
    go_ret
    exact ⟨rfl, rfl⟩

set_option maxRecDepth 100000 in
set_option maxHeartbeats 1000000 in
theorem bay_wear_neg (w : World) (b : Nat) (k n : Int) (hn : n < 0) :
    Calls Tryz.prog 32 #[.pointer (some ⟨b, 0, none⟩), .int .i64 k, .int .i64 n] w fun e w' => e = .returned (.int .u16 1) ∧ w' = w := by
  go_enter Tryz.func32, Tryz.ntmps32
  go_wp2
  go_ret
  exact ⟨rfl, rfl⟩

set_option maxRecDepth 100000 in
set_option maxHeartbeats 1000000 in
theorem bay_wear_some {w : World} {T : Nat → Nat} {b : Nat} {s : BaySt} {gs : Nat} {ptr : Nat → Option Nat} {tg dp : Nat → Nat} (h : BayIn w T b s gs ptr tg dp) (k : Nat) (hk : k < s.n) (x : Dev) (hx : s.pos (k * 3) = some x) (n : Int) (hn : 0 ≤ n) (hn2 : n ≤ 9223372036854775807) :
    Calls Tryz.prog 32 #[.pointer (some ⟨b, 0, none⟩), .int .i64 k, .int .i64 n] w fun e w' => e = .returned (.int .u16 0) ∧ BayIn w' T b { s with pos := fun q => if q = k * 3 then some ⟨x.d, true, n⟩ else s.pos q } gs ptr tg dp ∧ Chg (fun q => T q ≠ 0) w w' := by
  obtain ⟨dv, hp, hD⟩ := h.some' (k * 3) (by omega) x hx
  have hth := Lib.hid (bay_there h k dv hk hp)
  have c1 : w.cell? ⟨dv, 1, none⟩ = some (.bool x.worn) := hD.dev.cell 1
  have c2 : w.cell? ⟨dv, 2, none⟩ = some (.int .i64 x.left) := hD.dev.cell 2
  have f1 := hD.dev.free 1
  have f2 := hD.dev.free 2
  have HD := Lib.hid hD
  have HB := Lib.hid h
  have HX := Lib.hid hx
  have HP := Lib.hid hp
  have HK := Lib.hid hk
  clear h hD hx hp hk
  go_enter Tryz.func32, Tryz.ntmps32
  go_wp2_with (first
    | (go_at_call 41; (with_reducible refine hth.out.mono ?_); rintro e w1 ⟨rfl, hw⟩; obtain rfl : w = w1 := hw.symm))
  go_ret
  have hc1 : Chg (fun q => q = dv) w (w.setCell ⟨dv, 1, none⟩ (.bool true)) := Chg.setCell (S := fun q => q = dv) (Chg.refl _ _) ⟨dv, 1, none⟩ (.inl rfl) _
  have hc2 : Chg (fun q => q = dv) w ((w.setCell ⟨dv, 1, none⟩ (.bool true)).setCell ⟨dv, 2, none⟩ (.int .i64 n)) := hc1.setCell ⟨dv, 2, none⟩ (.inl rfl) _
  obtain ⟨q1, q2⟩ := HB.out.used (by have := HK.out; omega) HX.out HP.out (HD.out.turn true n hc2 ((HD.out.dev.set 1 (.bool true)).set 2 (.int .i64 n)) hn hn2) (hc2.mono fun q hq => .inr hq)
  exact ⟨rfl, q1, q2⟩

end Go.Proofs.YtleicmmbaacbmaaGreat

/- A disk's and a bay's lasting bytes; a bay's Fail, Wear, Trip in one sentence each. -/
set_option linter.unusedVariables false
namespace Go.Proofs.YtleicmmbaacbmaaGreat
open Go.RowKit

theorem secCells_take_succ {l : List Sec} {k : Nat} (hk : k < l.length) : secCells (l.take (k + 1)) = secCells (l.take k) ++ ucells l[k] := by
  rw [List.take_succ_eq_append_getElem hk, secCells_append]
  show _ ++ (ucells l[k] ++ []) = _
  rw [List.append_nil]

set_option maxRecDepth 100000 in
set_option maxHeartbeats 4000000 in
theorem disk_image (T : Nat → Nat) (t p : Nat) (d : Dsk) (w : World) (h : DiskAt w T t p d) :
    Calls Tryz.prog 42 #[.pointer (some ⟨p, 0, none⟩)] w fun e w' => ∃ v, e = .returned v ∧ Below w.heap.size w w' ∧ (d.failed = false → w'.ownsRow w.heap.size 5 1 v (d.last.length * 128) (secCells d.last)) ∧ (d.failed = true → v = .slice none 0 0) := by
  obtain ⟨gl, gm, cv, f, h1, h2, h3, h4, h5, h6, h7, h8⟩ := h.at'
  have hfew := h.few
  have hlen := Lib.hid h.len
  have c0 : w.cell? ⟨p, 0, none⟩ = some (.slice (some ⟨gl, 0, none⟩) d.last.length d.last.length) := h1.cell 0
  have c3 : w.cell? ⟨p, 3, none⟩ = some (.bool d.failed) := h1.cell 3
  have H1 := Lib.hid h1
  have H2 := Lib.hid h2
  clear h h1 h2 h3 h4 h5 h6 h7 h8
  cases hf : d.failed
  · rw [hf] at c3
    obtain ⟨n, hn⟩ : ∃ n, n = d.last.length := ⟨_, rfl⟩
    have HN := Lib.hid hn
    rw [← hn] at c0 hfew
    rw [← hn]
    clear hn
    go_enter Tryz.func42, Tryz.ntmps42
    obtain ⟨u1, u0, ui, uz, u2, u3, u4, u5, u6⟩ := slice_bytes
    go_wp2_with (refine wpList_make_own w rfl _ _ 53 rfl w.heap.size 5 ui uz 1 u1 u2 u3 u4 _ _ _ (n * 128) rfl rfl (by omega) (by rw [u5]; omega) (by unfold maxLen; omega) (Nat.le_refl _) ?_; intro w1 a1 b1; have HA1 := Lib.hid a1; have HB1 : Hid (Below w.heap.size w w1) := (Below.refl _ _).grown b1 (Nat.le_refl _) (fun k hk => by simp at hk); have d0 : w1.cell? ⟨p, 0, none⟩ = some (.slice (some ⟨gl, 0, none⟩) n n) := (HB1.out.cell (p := ⟨p, 0, none⟩) H1.out.lt).trans c0; clear a1 b1)
    clear c0 c3 d0
    go_loopw [3, 4, 21] (fun b s4 q wx => ∃ k : Nat, k ≤ n ∧ q = .int .i64 k ∧ wx.ownsRow w.heap.size 5 1 b (k * 128) (secCells (d.last.take k)) ∧ Below w.heap.size w wx) (fun _ _ q _ => n - (intOf q).toNat)
    case atStart => exact ⟨0, by omega, rfl, by simpa [secCells] using HA1.out, HB1.out⟩
    case round =>
      obtain ⟨k, hk, rfl, hown, hb⟩ := hrel
      have HO := Lib.hid hown
      have HB := Lib.hid hb
      have c0 : wr.cell? ⟨p, 0, none⟩ = some (.slice (some ⟨gl, 0, none⟩) n n) := by
        have := (hb.cell (p := ⟨p, 0, none⟩) H1.out.lt).trans (H1.out.cell 0)
        rw [← HN.out] at this
        exact this
      clear hown hb
      by_cases hk2 : k < n
      · have K1 : Hid (k + 1 ≤ n) := hk2
        have hkl : k < d.last.length := by rw [← HN.out]; exact hk2
        obtain ⟨s0, hs0⟩ : ∃ s0, s0 = d.last[k] := ⟨_, rfl⟩
        have HS : Hid (secCells (d.last.take (k + 1)) = secCells (d.last.take k) ++ ucells s0) := by rw [hs0]; exact secCells_take_succ hkl
        have HL : Hid (s0.length = 128) := by rw [hs0]; exact hlen.out _ (List.getElem_mem hkl)
        have HG : Hid (wr.heap.size ≥ w.heap.size) := HB.out.size
        have HC : Hid (∀ ad : Addr, some (⟨gl, k * 128, none⟩ : Addr) = some ad → ∀ j u, (ucells s0)[j]? = some u → wr.cell? (ad.add j) = some u) := by
          intro ad had j u hu
          obtain rfl := Option.some.inj had
          have hj : j < 128 := by have := (List.getElem?_eq_some_iff.1 hu).1; rw [ucells_length, HL.out] at this; exact this
          rw [Addr.add_lit, HB.out.cell (p := ⟨gl, k * 128 + j, none⟩) H2.out.lt, H2.out.cell, List.getElem?_toArray, secCells_at hlen.out k j hkl hj, ← hs0]
          exact hu
        clear hs0 hkl
        go_wp2_with (refine wpList_append_many rfl _ _ 53 5 1 1 rfl slice_bytes w.heap.size _ (k * 128) _ rfl HO.out (some ⟨gl, k * 128, none⟩) 128 128 (ucells s0) rfl (by rw [ucells_length, HL.out]) (fun e => by cases e) HC.out (ucells_one _) (by unfold maxLen; omega) (by omega) HG.out ?_; intro v1 w2 hown1 hb1 hg1; have HO1 := Lib.hid hown1; have HB1 := Lib.hid (HB.out.trans hb1); clear hown1 hb1 hg1)
        go_roundw
        case rel => exact ⟨k + 1, K1.out, by go_num, by rw [HS.out, Nat.add_mul, Nat.one_mul]; exact HO1.out, HB1.out⟩
        case measure => simp [intOf]; have := K1.out; omega
      · obtain rfl : k = n := by omega
        have HT : Hid (d.last.take k = d.last) := List.take_of_length_le (by rw [HN.out]; omega)
        rw [HT.out] at HO
        go_wp2
        go_ret
        exact ⟨_, rfl, HB.out, fun _ => HO.out, fun e => by cases e⟩
  · rw [hf] at c3
    go_enter Tryz.func42, Tryz.ntmps42
    go_wp2
    go_ret
    exact ⟨_, rfl, Below.refl _ _, fun e => (by cases e), fun _ => rfl⟩

/-- What a bay's image is: why there is none, or the sectors (none, if the disk has failed). -/
def BaySt.image (s : BaySt) (k : Int) : Nat × Option (List Sec) :=
  if 0 ≤ k ∧ k < (s.n : Int) then (match s.pos (k.toNat * 3) with | none => (51, none) | some x => (0, if x.d.failed = true then none else some x.d.last)) else (1, none)

def ImagePost (w : World) (r : Nat × Option (List Sec)) (e : Ending) (w' : World) : Prop :=
  ∃ v, e = .returned (.tuple #[v, .int .u16 ((r.1 : Nat) : Int)]) ∧ Below w.heap.size w w' ∧ (∀ l, r.2 = some l → l.length ≤ 8192 ∧ w'.ownsRow w.heap.size 5 1 v (l.length * 128) (secCells l)) ∧ (r.2 = none → v = .slice none 0 0)

set_option maxRecDepth 100000 in
set_option maxHeartbeats 4000000 in
theorem bay_image {w : World} {T : Nat → Nat} {b : Nat} {s : BaySt} (h : BayAt w T b s) (k : Int) :
    Calls Tryz.prog 13 #[.pointer (some ⟨b, 0, none⟩), .int .i64 k] w (ImagePost w (s.image k)) := by
  obtain ⟨gs, ptr, tg, dp, h⟩ := h
  by_cases hno : ¬ s.is k ∨ (s.is k ∧ s.pos (k.toNat * 3) = none)
  · have hth := Lib.hid (there_none h k hno)
    have hne : s.why k = 51 ∨ s.why k = 1 := s.why_is k
    have hr : s.image k = ((s.why k).toNat, none) := by
      unfold BaySt.image BaySt.why
      rcases hno with hno | ⟨h1, h2⟩
      · unfold BaySt.is at hno; rw [if_neg hno, if_neg hno]; rfl
      · unfold BaySt.is at h1; rw [if_pos h1, if_pos h1, h2]; rfl
    rw [hr]
    clear hr h hno
    generalize s.why k = z at *
    rcases hne with rfl | rfl
    all_goals
      go_enter Tryz.func13, Tryz.ntmps13
      go_wp2_with (first
        | (go_at_call 41; (with_reducible refine hth.out.mono ?_); rintro e w1 ⟨rfl, hw⟩; obtain rfl : w = w1 := hw.symm))
      go_ret2
      exact ⟨_, rfl, Below.refl _ _, fun l hl => (by cases hl), fun _ => rfl⟩
  · have his : s.is k := Classical.byContradiction fun e => hno (.inl e)
    have hsome : s.pos (k.toNat * 3) ≠ none := fun e => hno (.inr ⟨his, e⟩)
    have his2 : 0 ≤ k ∧ k < (s.n : Int) := his
    obtain ⟨k, rfl⟩ : ∃ q : Nat, k = q := ⟨k.toNat, by omega⟩
    rw [Int.toNat_natCast] at hsome
    obtain ⟨x, hx⟩ : ∃ x, s.pos (k * 3) = some x := by
      cases hq : s.pos (k * 3) with
      | none => exact absurd hq hsome
      | some x => exact ⟨x, rfl⟩
    have hr : s.image (k : Int) = (0, if x.d.failed = true then none else some x.d.last) := by
      unfold BaySt.image
      rw [if_pos his2, Int.toNat_natCast, hx]
    rw [hr]
    obtain ⟨o, ho⟩ : ∃ o, o = if x.d.failed = true then none else some x.d.last := ⟨_, rfl⟩
    rw [← ho]
    have HO := Lib.hid ho
    obtain ⟨dv, hp, hD⟩ := h.some' (k * 3) (by omega) x hx
    have hth := Lib.hid (bay_there h k dv (by omega) hp)
    have d0 : w.cell? ⟨dv, 0, none⟩ = some (.pointer (some ⟨dp (k * 3), 0, none⟩)) := hD.dev.cell 0
    have HF := Lib.hid (disk_image T (tg (k * 3)) (dp (k * 3)) x.d w hD.disk)
    have hfw := Lib.hid hD.disk.few
    clear hr h hno his his2 hsome hx hp hD ho
    generalize dp (k * 3) = gd at *
    go_enter Tryz.func13, Tryz.ntmps13
    go_wp2_with (first
      | (go_at_call 41; (with_reducible refine hth.out.mono ?_); rintro e w1 ⟨rfl, hw⟩; obtain rfl : w = w1 := hw.symm)
      | (go_at_call 42; (with_reducible refine HF.out.mono ?_); rintro e w2 ⟨v, rfl, hb, hv1, hv2⟩; have HV1 := Lib.hid hv1; have HV2 := Lib.hid hv2; have HB := Lib.hid hb; clear hv1 hv2 hb d0))
    go_ret2
    refine ⟨_, rfl, HB.out, fun l hl => ?_, fun hl => ?_⟩
    · have hl2 : o = some l := hl
      rw [HO.out] at hl2
      cases hf : x.d.failed
      · rw [hf, if_neg (by simp)] at hl2
        obtain rfl := Option.some.inj hl2
        exact ⟨hfw.out, HV1.out hf⟩
      · rw [hf, if_pos rfl] at hl2; cases hl2
    · have hl2 : o = none := hl
      rw [HO.out] at hl2
      cases hf : x.d.failed
      · rw [hf, if_neg (by simp)] at hl2; cases hl2
      · exact HV2.out hf

def BaySt.fails (s : BaySt) (k : Int) : Nat × BaySt :=
  if 0 ≤ k ∧ k < (s.n : Int) then (match s.pos (k.toNat * 3) with | none => (51, s) | some x => (0, s.laid (k.toNat * 3) ⟨⟨x.d.last, [], true⟩, x.worn, x.left⟩)) else (1, s)
def BaySt.wears (s : BaySt) (k n : Int) : Nat × BaySt :=
  if n < 0 then (1, s) else if 0 ≤ k ∧ k < (s.n : Int) then (match s.pos (k.toNat * 3) with | none => (51, s) | some x => (0, s.laid (k.toNat * 3) ⟨x.d, true, n⟩)) else (1, s)
def BaySt.trips (s : BaySt) (n : Int) : Nat × BaySt := if n < 0 then (1, s) else if s.dark = true then (50, s) else (0, { s with trip := n })

/-- Which of three: no such slot, none in it, a disk. -/
theorem slot_three (s : BaySt) (k : Int) : (¬ s.is k ∨ (s.is k ∧ s.pos (k.toNat * 3) = none)) ∨ ∃ (i : Nat) (x : Dev), k = i ∧ i < s.n ∧ s.pos (i * 3) = some x := by
  by_cases h : 0 ≤ k ∧ k < (s.n : Int)
  · obtain ⟨i, rfl⟩ : ∃ q : Nat, k = q := ⟨k.toNat, by omega⟩
    cases hx : s.pos (i * 3) with
    | none => exact .inl (.inr ⟨h, by rw [Int.toNat_natCast]; exact hx⟩)
    | some x => exact .inr ⟨i, x, rfl, by omega, hx⟩
  · exact .inl (.inl h)

theorem bay_fails {w : World} {T : Nat → Nat} {b : Nat} {s : BaySt} (h : BayAt w T b s) (k : Int) (hm : s.small 1000000) :
    Calls Tryz.prog 30 #[.pointer (some ⟨b, 0, none⟩), .int .i64 k] w fun e w' => e = .returned (.int .u16 (((s.fails k).1 : Nat) : Int)) ∧ BayPost w T b (s.fails k).2 w' := by
  obtain ⟨gs, ptr, tg, dp, h⟩ := h
  rcases slot_three s k with hno | ⟨i, x, rfl, hi, hx⟩
  · have hr : s.fails k = ((s.why k).toNat, s) := by
      unfold BaySt.fails BaySt.why
      rcases hno with hno | ⟨h1, h2⟩
      · unfold BaySt.is at hno; rw [if_neg hno, if_neg hno]; rfl
      · unfold BaySt.is at h1; rw [if_pos h1, if_pos h1, h2]; rfl
    rw [hr]
    refine (bay_fail_none h k hno).mono fun e w' ⟨q1, q2⟩ => ⟨?_, ?_⟩
    · rw [q1]
      rcases s.why_is k with e | e <;> rw [e] <;> rfl
    · rw [q2]; exact .same ⟨gs, ptr, tg, dp, h⟩ (Chg.refl _ _)
  · have hr : s.fails (i : Int) = (0, s.laid (i * 3) ⟨⟨x.d.last, [], true⟩, x.worn, x.left⟩) := by
      unfold BaySt.fails
      rw [if_pos (by omega), Int.toNat_natCast, hx]
    rw [hr]
    exact (bay_fail_some h i hi x hx (hm _ (by omega) x hx)).mono fun e w' ⟨q1, q2, q3⟩ => ⟨q1, .same ⟨gs, ptr, tg, dp, q2⟩ q3⟩

theorem bay_wears {w : World} {T : Nat → Nat} {b : Nat} {s : BaySt} (h : BayAt w T b s) (k n : Int) (hn : n ≤ 9223372036854775807) :
    Calls Tryz.prog 32 #[.pointer (some ⟨b, 0, none⟩), .int .i64 k, .int .i64 n] w fun e w' => e = .returned (.int .u16 (((s.wears k n).1 : Nat) : Int)) ∧ BayPost w T b (s.wears k n).2 w' := by
  obtain ⟨gs, ptr, tg, dp, h⟩ := h
  by_cases hneg : n < 0
  · have hr : s.wears k n = (1, s) := by unfold BaySt.wears; rw [if_pos hneg]
    rw [hr]
    exact (bay_wear_neg w b k n hneg).mono fun e w' ⟨q1, q2⟩ => ⟨q1, by rw [q2]; exact .same ⟨gs, ptr, tg, dp, h⟩ (Chg.refl _ _)⟩
  · rcases slot_three s k with hno | ⟨i, x, rfl, hi, hx⟩
    · have hr : s.wears k n = ((s.why k).toNat, s) := by
        unfold BaySt.wears BaySt.why
        rw [if_neg hneg]
        rcases hno with hno | ⟨h1, h2⟩
        · unfold BaySt.is at hno; rw [if_neg hno, if_neg hno]; rfl
        · unfold BaySt.is at h1; rw [if_pos h1, if_pos h1, h2]; rfl
      rw [hr]
      refine (bay_wear_none h k n (by omega) hno).mono fun e w' ⟨q1, q2⟩ => ⟨?_, ?_⟩
      · rw [q1]
        rcases s.why_is k with e | e <;> rw [e] <;> rfl
      · rw [q2]; exact .same ⟨gs, ptr, tg, dp, h⟩ (Chg.refl _ _)
    · have hr : s.wears (i : Int) n = (0, s.laid (i * 3) ⟨x.d, true, n⟩) := by
        unfold BaySt.wears
        rw [if_neg hneg, if_pos (by omega), Int.toNat_natCast, hx]
      rw [hr]
      exact (bay_wear_some h i hi x hx n (by omega) hn).mono fun e w' ⟨q1, q2, q3⟩ => ⟨q1, .same ⟨gs, ptr, tg, dp, q2⟩ q3⟩

theorem bay_trips {w : World} {T : Nat → Nat} {b : Nat} {s : BaySt} (h : BayAt w T b s) (n : Int) (hn : n ≤ 9223372036854775807) :
    Calls Tryz.prog 34 #[.pointer (some ⟨b, 0, none⟩), .int .i64 n] w fun e w' => e = .returned (.int .u16 (((s.trips n).1 : Nat) : Int)) ∧ BayPost w T b (s.trips n).2 w' := by
  have htb := h.tb
  refine (bay_trip h n hn).mono fun e w' ⟨q1, q2, q3⟩ => ⟨?_, .same ?_ (q3.mono fun q hq => by rw [hq, htb]; omega)⟩
  · rw [q1]
    unfold BaySt.trips
    split
    · rfl
    · split <;> rfl
  · unfold BaySt.trips
    split
    · rw [if_pos (by assumption)] at q2; exact q2
    · rename_i hh
      rw [if_neg hh] at q2
      split
      · rw [if_pos (by assumption)] at q2; exact q2
      · rename_i hh2
        rw [if_neg hh2] at q2; exact q2

end Go.Proofs.YtleicmmbaacbmaaGreat
