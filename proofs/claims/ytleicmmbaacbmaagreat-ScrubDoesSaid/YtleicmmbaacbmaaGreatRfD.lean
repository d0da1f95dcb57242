/- The document's bay: may an operation be done? -/
import Derived.Test.YtleicmmbaacbmaaGreatRfC
import Derived.Test.YtleicmmbaacbmaaGreatRfB
import Derived.Deep.CutRange
import Derived.Deep.CutBlock
set_option linter.unusedVariables false
namespace Go.Proofs.YtleicmmbaacbmaaGreat
open Go.RowKit

theorem RBayIn.cellP {W : World} {R : Nat → Prop} {c : Nat} {s : BaySt} {gs cap : Nat} {ptr : Nat → Option Nat} {D : Nat → Nat → Prop} (h : RBayIn W R c s gs cap ptr D) {k : Nat} (hk : k < s.n) (j : Nat) (hj : j < 3) : W.cell? ⟨gs, k * 6 + j, none⟩ = some (pcell (ptr (k * 3 + j))) := by
  rw [h.slots.cellAt (k * 6 + j) (by omega), rslots_at _ _ _ _ (by omega), rcell_ptr _ _ _ _ hj]
theorem RBayIn.cellW {W : World} {R : Nat → Prop} {c : Nat} {s : BaySt} {gs cap : Nat} {ptr : Nat → Option Nat} {D : Nat → Nat → Prop} (h : RBayIn W R c s gs cap ptr D) {k : Nat} (hk : k < s.n) (j : Nat) (hj : j < 3) : W.cell? ⟨gs, k * 6 + 3 + j, none⟩ = some (.int .i64 (wearOf (s.pos (k * 3 + j)))) := by
  rw [h.slots.cellAt (k * 6 + 3 + j) (by omega), rslots_at _ _ _ _ (by omega), rcell_wear _ _ _ _ hj]

/-- The trip, the light, a count turned. -/
theorem RBayIn.tripTo {W : World} {R : Nat → Prop} {c : Nat} {s : BaySt} {gs cap : Nat} {ptr : Nat → Option Nat} {D : Nat → Nat → Prop} (h : RBayIn W R c s gs cap ptr D) (t : Int) (h1 : -1 ≤ t) (h2 : t ≤ 9223372036854775807) (h3 : s.dark = true → t = -1) :
    RBayIn (W.setCell ⟨c, 2, none⟩ (.int .i64 t)) R c { s with trip := t } gs cap ptr D ∧ Chg (fun q => q = c) W (W.setCell ⟨c, 2, none⟩ (.int .i64 t)) := by
  have hc : Chg (fun q => q = c) W (W.setCell ⟨c, 2, none⟩ (.int .i64 t)) := Chg.setCell (S := fun q => q = c) (Chg.refl _ _) ⟨c, 2, none⟩ (.inl rfl) _
  exact ⟨h.cells hc s.dark t s.cnt (h.bay.set 2 (.int .i64 t)) h.cl h1 h2 h3, hc⟩
theorem RBayIn.darkTo {W : World} {R : Nat → Prop} {c : Nat} {s : BaySt} {gs cap : Nat} {ptr : Nat → Option Nat} {D : Nat → Nat → Prop} (h : RBayIn W R c s gs cap ptr D) (v : Bool) :
    RBayIn ((W.setCell ⟨c, 1, none⟩ (.bool v)).setCell ⟨c, 2, none⟩ (.int .i64 (-1))) R c { s with dark := v, trip := -1 } gs cap ptr D ∧ Chg (fun q => q = c) W ((W.setCell ⟨c, 1, none⟩ (.bool v)).setCell ⟨c, 2, none⟩ (.int .i64 (-1))) := by
  have hc : Chg (fun q => q = c) W ((W.setCell ⟨c, 1, none⟩ (.bool v)).setCell ⟨c, 2, none⟩ (.int .i64 (-1))) := (Chg.setCell (S := fun q => q = c) (Chg.refl _ _) ⟨c, 1, none⟩ (.inl rfl) _).setCell ⟨c, 2, none⟩ (.inl rfl) _
  exact ⟨h.cells hc v (-1) s.cnt ((h.bay.set 1 (.bool v)).set 2 (.int .i64 (-1))) h.cl (by omega) (by omega) (fun _ => rfl), hc⟩
theorem RBayIn.counted {W : World} {R : Nat → Prop} {c : Nat} {s : BaySt} {gs cap : Nat} {ptr : Nat → Option Nat} {D : Nat → Nat → Prop} (h : RBayIn W R c s gs cap ptr D) (j : Nat) (hj : j < 3) :
    RBayIn (W.setCell ⟨c, 3 + j, none⟩ (.int .i64 (s.cnt j + 1))) R c { s with cnt := fun q => if q = j then s.cnt j + 1 else s.cnt q } gs cap ptr D ∧ Chg (fun q => q = c) W (W.setCell ⟨c, 3 + j, none⟩ (.int .i64 (s.cnt j + 1))) := by
  have hc : Chg (fun q => q = c) W (W.setCell ⟨c, 3 + j, none⟩ (.int .i64 (s.cnt j + 1))) := Chg.setCell (S := fun q => q = c) (Chg.refl _ _) ⟨c, 3 + j, none⟩ (.inl rfl) _
  have hcl : ∀ q, 0 ≤ (if q = j then s.cnt j + 1 else s.cnt q) := fun q => by
    split
    · have := h.cl j; omega
    · exact h.cl q
  refine ⟨h.cells hc s.dark s.trip (fun q => if q = j then s.cnt j + 1 else s.cnt q) ?_ hcl h.trl h.trh h.lit, hc⟩
  have h2 := h.bay.set (3 + j) (.int .i64 (s.cnt j + 1))
  rcases (by omega : j = 0 ∨ j = 1 ∨ j = 2) with rfl | rfl | rfl
  · simpa using h2
  · simpa using h2
  · simpa using h2

theorem laid_same {s : BaySt} {i : Nat} {x : Dev} (h : s.pos i = some x) : s.laid i x = s := by
  unfold BaySt.laid
  have : (fun q => if q = i then some x else s.pos q) = s.pos := by
    funext q
    by_cases e : q = i
    · rw [if_pos e, e, h]
    · rw [if_neg e]
  rw [this]

theorem RBTurned.next {w w1 w2 : World} {R : Nat → Prop} {c : Nat} {s2 : BaySt} {gs cap : Nat} {ptr : Nat → Option Nat} (hc : Chg R w w1) (h : RBTurned w1 R c s2 gs cap ptr w2) : RBTurned w R c s2 gs cap ptr w2 := by
  obtain ⟨R', D', h1, h2, h3⟩ := h
  exact ⟨R', D', h1, fun q hq => (h2 q hq).imp id (fun h => Nat.le_trans hc.size h), hc.trans h3⟩
theorem RBTurned.of {w w' : World} {R : Nat → Prop} {c : Nat} {s' : BaySt} {gs cap : Nat} {ptr : Nat → Option Nat} {D : Nat → Nat → Prop} (h : RBayIn w' R c s' gs cap ptr D) (hc : Chg R w w') : RBTurned w R c s' gs cap ptr w' := ⟨R, D, h, fun q hq => .inl hq, hc⟩

set_option maxRecDepth 100000 in
set_option maxHeartbeats 1000000 in
theorem rbay_is {w : World} {R : Nat → Prop} {c : Nat} {s : BaySt} {gs cap : Nat} {ptr : Nat → Option Nat} {D : Nat → Nat → Prop} (h : RBayIn w R c s gs cap ptr D) (k : Nat) (hk : k < s.n) :
    Calls Tryz.prog 81 #[.pointer (some ⟨c, 0, none⟩), .int .i64 k] w fun e w' => e = .returned (.bool true) ∧ w' = w := by
  have c0 : w.cell? ⟨c, 0, none⟩ = some (.slice (some ⟨gs, 0, none⟩) s.n cap) := h.bay.cell 0
  have hf := h.few
  clear h
  go_enter Tryz.func81, Tryz.ntmps81
  go_wp2
  go_ret
  exact ⟨rfl, rfl⟩

set_option maxRecDepth 100000 in
set_option maxHeartbeats 1000000 in
theorem rbay_is_no {w : World} {R : Nat → Prop} {c : Nat} {s : BaySt} {gs cap : Nat} {ptr : Nat → Option Nat} {D : Nat → Nat → Prop} (h : RBayIn w R c s gs cap ptr D) (k : Int) (hk : ¬ (0 ≤ k ∧ k < (s.n : Int))) :
    Calls Tryz.prog 81 #[.pointer (some ⟨c, 0, none⟩), .int .i64 k] w fun e w' => e = .returned (.bool false) ∧ w' = w := by
  have c0 : w.cell? ⟨c, 0, none⟩ = some (.slice (some ⟨gs, 0, none⟩) s.n cap) := h.bay.cell 0
  have hf := h.few
  clear h
  by_cases h0 : 0 ≤ k
  · have hn : ¬ k < (s.n : Int) := by omega
    clear hk
    go_enter Tryz.func81, Tryz.ntmps81
    go_wp2
    go_ret
    exact ⟨rfl, rfl⟩
  · clear hk
    go_enter Tryz.func81, Tryz.ntmps81
    go_wp2
    go_ret
    exact ⟨rfl, rfl⟩

def startCode : Nat ⊕ Dev → Nat
  | .inl c => c
  | .inr _ => 0

set_option maxRecDepth 100000 in
set_option maxHeartbeats 4000000 in
theorem rbay_begins {w : World} {R : Nat → Prop} {c : Nat} {s : BaySt} {gs cap : Nat} {ptr : Nat → Option Nat} {D : Nat → Nat → Prop} (h : RBayIn w R c s gs cap ptr D) (j : Nat) (hj : j < 3) (k : Int) (hcnt : s.cnt j ≤ 1000000000000) :
    Calls Tryz.prog 72 #[.pointer (some ⟨c, 0, none⟩), .int .i64 k, .int .i64 ((j + 1 : Nat) : Int)] w fun e w' =>
      e = .returned (.int .u16 ((startCode (s.start j k).2 : Nat) : Int)) ∧ RBTurned w R c (s.start j k).1 gs cap ptr w' := by
  have HB := Lib.hid h
  have c1 : w.cell? ⟨c, 1, none⟩ = some (.bool s.dark) := h.bay.cell 1
  have c2 : w.cell? ⟨c, 2, none⟩ = some (.int .i64 s.trip) := h.bay.cell 2
  have f1 := h.bay.free 1
  have f2 := h.bay.free 2
  have hbay : Chg (fun q => q = c) w w := Chg.refl _ _
  by_cases hk : 0 ≤ k ∧ k < (s.n : Int)
  · obtain ⟨k, rfl⟩ : ∃ q : Nat, k = q := ⟨k.toNat, by omega⟩
    have hkn : k < s.n := by omega
    have HIS := Lib.hid (rbay_is h k hkn)
    have trl := h.trl
    have trh := h.trh
    have hst : s.start j (k : Int) = if s.trip = 0 then ({ s with dark := true, trip := -1 }, .inl 50) else if s.dark = true then (s, .inl 50)
        else match s.pos (k * 3) with
        | none => ({ s with trip := (if 0 < s.trip then s.trip - 1 else s.trip), cnt := fun q => if q = j then s.cnt j + 1 else s.cnt q }, .inl 51)
        | some x => (s.begun j (k * 3) x.use, .inr x.use) := by
      unfold BaySt.start
      rw [if_neg (by simpa using hk), Int.toNat_natCast]
      cases s.pos (k * 3) <;> rfl
    rw [hst]
    clear hst hk
    by_cases hd : s.dark = true
    · have ht : ¬ s.trip = 0 := by rw [h.lit hd]; omega
      rw [if_neg ht, if_pos hd]
      rw [hd] at c1
      clear h hcnt
      go_enter Tryz.func72, Tryz.ntmps72
      go_wp2_with (first
        | (go_at_call 81; (with_reducible refine HIS.out.mono ?_); rintro e w1 ⟨rfl, hw⟩; obtain rfl : w = w1 := hw.symm))
      go_ret
      exact ⟨rfl, .of HB.out (Chg.refl _ _)⟩
    · have hd' : s.dark = false := by simpa using hd
      rw [hd'] at c1
      by_cases ht : s.trip = 0
      · rw [if_pos ht]
        have HT := HB.out.darkTo true
        rw [ht] at c2
        clear h hcnt
        go_enter Tryz.func72, Tryz.ntmps72
        go_wp2_with (first
          | (go_at_call 81; (with_reducible refine HIS.out.mono ?_); rintro e w1 ⟨rfl, hw⟩; obtain rfl : w = w1 := hw.symm))
        go_ret
        exact ⟨rfl, .of HT.1 (HT.2.mono fun q hq => hq ▸ HB.out.inB)⟩
      · rw [if_neg ht, if_neg hd]
        obtain ⟨A, hA⟩ : ∃ A : BaySt × (Nat ⊕ Dev), A = match s.pos (k * 3) with
          | none => ({ s with trip := (if 0 < s.trip then s.trip - 1 else s.trip), cnt := fun q => if q = j then s.cnt j + 1 else s.cnt q }, .inl 51)
          | some x => (s.begun j (k * 3) x.use, .inr x.use) := ⟨_, rfl⟩
        have HAA := Lib.hid hA
        rw [show (match s.pos (k * 3) with
          | none => ({ s with trip := (if 0 < s.trip then s.trip - 1 else s.trip), cnt := fun q => if q = j then s.cnt j + 1 else s.cnt q }, .inl 51)
          | some x => (s.begun j (k * 3) x.use, .inr x.use) : BaySt × (Nat ⊕ Dev)) = A from hA.symm]
        clear hA
        obtain ⟨s1, hs1⟩ : ∃ s1 : BaySt, s1 = { s with trip := (if 0 < s.trip then s.trip - 1 else s.trip) } := ⟨_, rfl⟩
        have HS1 := Lib.hid hs1
        have HC1 : Hid (s1.cnt = s.cnt) := by rw [hs1]; rfl
        clear h hs1
        go_enter Tryz.func72, Tryz.ntmps72
        go_upto_if 31 with (first
          | (go_at_call 81; (with_reducible refine HIS.out.mono ?_); rintro e w1 ⟨rfl, hw⟩; obtain rfl : w = w1 := hw.symm))
        go_cut [] from 12 (fun wx => RBayIn wx R c s1 gs cap ptr D ∧ Chg (fun q => q = c) w wx)
        case first =>
          by_cases hp : 0 < s.trip
          · go_wp2
            go_meet
            obtain ⟨q1, q2⟩ := HB.out.tripTo (s.trip - 1) (by omega) (by omega) (fun e => absurd e hd)
            refine ⟨?_, q2⟩
            rw [HS1.out, if_pos hp]
            exact q1
          · go_wp2
            go_meet
            refine ⟨?_, Chg.refl _ _⟩
            rw [HS1.out, if_neg (by omega)]
            exact HB.out
        case rest =>
          obtain ⟨hb1, hch1⟩ := hcut
          have HB1 := Lib.hid hb1
          have HCH1 := Lib.hid hch1
          clear hb1 hch1 c1 c2 f1 f2 hbay
          obtain ⟨s2, hs2⟩ : ∃ s2 : BaySt, s2 = { s1 with cnt := fun q => if q = j then s1.cnt j + 1 else s1.cnt q } := ⟨_, rfl⟩
          have HS2 := Lib.hid hs2
          clear hs2
          go_upto_block 0 with fail
          go_cut [] from 12 (fun wx => RBayIn wx R c s2 gs cap ptr D ∧ Chg (fun q => q = c) wc wx)
          case first =>
            have hcn : s1.cnt j ≤ 1000000000000 := by rw [HC1.out]; exact hcnt
            have hcl := HB1.out.cl j
            have HQ := Lib.hid (HB1.out.counted j hj)
            rw [← HS2.out] at HQ
            rcases (by omega : j = 0 ∨ j = 1 ∨ j = 2) with rfl | rfl | rfl
            · have c3 : wc.cell? ⟨c, 3, none⟩ = some (.int .i64 (s1.cnt 0)) := HB1.out.bay.cell 3
              have f3 := HB1.out.bay.free 3
              generalize s1.cnt 0 = z at *
              go_wp2
              go_meet
              exact HQ.out
            · have c3 : wc.cell? ⟨c, 4, none⟩ = some (.int .i64 (s1.cnt 1)) := HB1.out.bay.cell 4
              have f3 := HB1.out.bay.free 4
              generalize s1.cnt 1 = z at *
              go_wp2
              go_meet
              exact HQ.out
            · have c3 : wc.cell? ⟨c, 5, none⟩ = some (.int .i64 (s1.cnt 2)) := HB1.out.bay.cell 5
              have f3 := HB1.out.bay.free 5
              generalize s1.cnt 2 = z at *
              go_wp2
              go_meet
              exact HQ.out
          case rest =>
            obtain ⟨hb2, hch2⟩ := hcut
            have HB2 := Lib.hid hb2
            have HCH2 := Lib.hid (HCH1.out.trans hch2)
            clear hb2 hch2
            have hn2 : s2.n = s.n := by rw [HS2.out, HS1.out]
            have hp2 : s2.pos = s.pos := by rw [HS2.out, HS1.out]
            have hkn2 : k < s2.n := by omega
            have c0 : wc.cell? ⟨c, 0, none⟩ = some (.slice (some ⟨gs, 0, none⟩) s2.n cap) := HB2.out.bay.cell 0
            have p0 : wc.cell? ⟨gs, k * 6, none⟩ = some (pcell (ptr (k * 3))) := HB2.out.cellP hkn2 0 (by omega)
            have p3 : wc.cell? ⟨gs, k * 6 + 3, none⟩ = some (.int .i64 (wearOf (s2.pos (k * 3)))) := HB2.out.cellW hkn2 0 (by omega)
            have p3f := HB2.out.slots.frozenAt (k * 6 + 3)
            rw [hn2] at c0
            rw [hp2] at p3
            have hfew := HB.out.few
            have hRc : Hid (Chg R w wc) := HCH2.out.mono fun q hq => hq ▸ HB.out.inB
            have HN2 := Lib.hid hn2
            have HP2 := Lib.hid hp2
            clear hn2 hp2 hkn2
            cases hx : s.pos (k * 3) with
            | none =>
              rw [hx] at HAA
              have hA1 := congrArg Prod.fst HAA.out
              have hA2 : A.2 = .inl 51 := congrArg Prod.snd HAA.out
              have hpn := HB.out.none' (k * 3) (by omega) hx
              rw [hpn] at p0
              unfold pcell at p0
              rw [Option.map_none] at p0
              have HA1 := Lib.hid hA1
              have HA2 := Lib.hid hA2
              clear hx hpn hA1 hA2
              go_wp2
              go_ret
              refine ⟨by rw [HA2.out]; rfl, ?_⟩
              rw [HA1.out]
              have := RBTurned.of HB2.out hRc.out
              rw [HS2.out, HS1.out] at this
              exact this
            | some x =>
              obtain ⟨p, hp, hd0⟩ := HB2.out.some' (k * 3) (by rw [HN2.out]; omega) x (by rw [HP2.out]; exact hx)
              have hx2 : Hid (s2.pos (k * 3) = some x) := by show _ = _; rw [HP2.out]; exact hx
              have hi2 : Hid (k * 3 < 3 * s2.n) := by show _ < _; rw [HN2.out]; omega
              have HPP := Lib.hid hp
              have HD0 := Lib.hid hd0
              obtain ⟨wl, wh⟩ := HB.out.wear (k * 3) (by omega) x hx
              have hbeg : Hid (s.begun j (k * 3) x.use = s2.laid (k * 3) x.use) := by
                show _ = _
                rw [HS2.out, HS1.out]
                rfl
              rw [hp] at p0
              rw [hx] at p3
              unfold pcell at p0
              rw [Option.map_some] at p0
              rw [hx] at HAA
              have hA1 : A.1 = s.begun j (k * 3) x.use := congrArg Prod.fst HAA.out
              have hA2 : A.2 = .inr x.use := congrArg Prod.snd HAA.out
              have HA1 := Lib.hid hA1
              have HA2 := Lib.hid hA2
              clear hA1 hA2
              have HX := Lib.hid hx
              clear hp hd0 hx
              cases hwo : x.worn with
              | false =>
                have e : wearOf (some x) = -1 := by unfold wearOf; simp [hwo]
                rw [e] at p3
                have eu : x.use = x := by unfold Dev.use; rw [if_pos hwo]
                clear e
                go_wp2
                go_ret
                refine ⟨by rw [HA2.out]; rfl, ?_⟩
                rw [HA1.out]
                rw [hbeg.out, eu, laid_same hx2.out]
                exact .of HB2.out hRc.out
              | true =>
                have e : wearOf (some x) = x.left := by unfold wearOf; simp [hwo]
                rw [e] at p3
                have HWO := Lib.hid hwo
                have HEL := Lib.hid e
                clear e hwo
                by_cases hl : x.left = 0
                · have eu : Hid (x.use = ⟨⟨x.d.last, [], true⟩, false, x.left⟩) := by
                    show _ = _
                    unfold Dev.use; rw [if_neg (by rw [HWO.out]; simp), if_pos hl]
                  rw [hl] at p3
                  have HF := Lib.hid (rdisk_fail HD0.out)
                  have HLE := Lib.hid hl
                  clear hl
                  go_wp2_with (first
                    | (go_at_call 75; (with_reducible refine HF.out.mono ?_); rintro e w2 ⟨rfl, hpost⟩; obtain ⟨R2, D2, hin2, hR2, hch2⟩ := HB2.out.turn (y := ⟨⟨x.d.last, [], true⟩, x.worn, x.left⟩) hi2.out hx2.out HPP.out (by unfold wearOf; rfl) wl wh hpost; have q3 := hin2.cellW (k := k) (show k < s2.n by have := hi2.out; omega) 0 (by omega); rw [show ((s2.laid (k * 3) ⟨⟨x.d.last, [], true⟩, x.worn, x.left⟩).pos (k * 3 + 0)) = some ⟨⟨x.d.last, [], true⟩, x.worn, x.left⟩ from if_pos rfl] at q3; have q3f := hin2.slots.frozenAt (k * 6 + 3); have HI2 := Lib.hid hin2; have HR2 := Lib.hid hR2; have HC2 := Lib.hid hch2; clear hin2 hR2 hch2 hpost p0 p3 p3f c0))
                  go_ret
                  refine ⟨by rw [HA2.out]; rfl, ?_⟩
                  rw [HA1.out]
                  obtain ⟨r1, r2⟩ := HI2.out.worn (k := k) (x := ⟨⟨x.d.last, [], true⟩, x.worn, x.left⟩) (show k < s2.n by have := hi2.out; omega) (if_pos rfl) false x.left wl wh (-1) (by unfold wearOf; rfl)
                  rw [laid_laid] at r1
                  rw [hbeg.out, eu.out]
                  refine RBTurned.next hRc.out ⟨R2, _, r1, HR2.out, HC2.out.trans (r2.mono fun q hq => ?_)⟩
                  subst hq
                  exact HB2.out.inS
                · have hl0 : 0 < x.left := by omega
                  have eu : Hid (x.use = ⟨x.d, true, x.left - 1⟩) := by
                    show _ = _
                    unfold Dev.use; rw [if_neg (by rw [HWO.out]; simp), if_neg hl]
                    have := HWO.out
                    cases x
                    simp at this
                    simp [this]
                  have hl1 : ¬ x.left = 0 := hl
                  generalize hlx : x.left = lf at *
                  go_wp2
                  go_ret
                  refine ⟨by rw [HA2.out]; rfl, ?_⟩
                  rw [HA1.out]
                  obtain ⟨r1, r2⟩ := HB2.out.worn (k := k) (x := x) (show k < s2.n by have := hi2.out; omega) hx2.out true (lf - 1) (by omega) (by omega) (lf - 1) (by unfold wearOf; rfl)
                  rw [hbeg.out, eu.out]
                  refine RBTurned.next hRc.out (.of r1 (r2.mono fun q hq => ?_))
                  subst hq
                  exact HB2.out.inS
  · have HIS := Lib.hid (rbay_is_no h k hk)
    have hst : s.start j k = (s, .inl 1) := by unfold BaySt.start; rw [if_pos (by simpa using hk)]
    rw [hst]
    clear h hst hk
    go_enter Tryz.func72, Tryz.ntmps72
    go_wp2_with (first
      | (go_at_call 81; (with_reducible refine HIS.out.mono ?_); rintro e w1 ⟨rfl, hw⟩; obtain rfl : w = w1 := hw.symm))
    go_ret
    exact ⟨rfl, .of HB.out (Chg.refl _ _)⟩

end Go.Proofs.YtleicmmbaacbmaaGreat
