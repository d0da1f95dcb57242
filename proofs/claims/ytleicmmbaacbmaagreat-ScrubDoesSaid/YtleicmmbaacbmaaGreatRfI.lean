/- The document's bay: New. -/
import Derived.Test.YtleicmmbaacbmaaGreatRfH
set_option linter.unusedVariables false
namespace Go.Proofs.YtleicmmbaacbmaaGreat
open Go.RowKit

theorem newAt_start (w : World) (l : List Nat) : NewAt w (w.alloc (.cells #[.slice none 0 0, .bool false, .int .i64 (-1), .int .i64 0, .int .i64 0, .int .i64 0] 61)) w.heap.size l 0 (.slice none 0 0) (fun _ => none) (fun _ _ => False) := by
  refine ⟨At.new _ _ _, ?_, fun i hi => absurd hi (Nat.not_lt_zero i), fun i _ => rfl, fun i j hi => absurd hi (Nat.not_lt_zero i), fun i hi => absurd hi (Nat.not_lt_zero i), fun i hi => absurd hi (Nat.not_lt_zero i), Nat.le_refl _, fun e => ?_, (Below.refl _ _).alloc (Nat.le_refl _) _⟩
  · have e : rslots (fun _ => none) (fun _ => -1) 0 = [] := by unfold rslots; rw [Nat.zero_mul]; rfl
    rw [e]
    exact World.ownsRow_nil _ _ _ _
  · simp only [Value.ownBlock] at e
    cases e

def RBayMade (w : World) (s : BaySt) (c : Nat) (w' : World) : Prop := RBayAt w' (fun q => w.heap.size ≤ q ∧ q < w'.heap.size) c s ∧ Below w.heap.size w w'

set_option maxRecDepth 100000 in
set_option maxHeartbeats 4000000 in
theorem rbay_new (l : List Nat) (v : Value) (B : Nat) (w : World) (hv : w.ownsRow B 3 1 v l.length (kcells l)) (h1 : 1 ≤ l.length) (h2 : l.length ≤ 17) (hl : ∀ x ∈ l, 0 < x ∧ x ≤ 8192) :
    Calls Tryz.prog 8 #[v] w fun e w' => ∃ c, e = .returned (.tuple #[.pointer (some ⟨c, 0, none⟩), .int .u16 0]) ∧ RBayMade w (freshBay l l.length) c w' := by
  obtain ⟨g, cap, rfl, hBg, hg⟩ := ownsRow_full hv (by omega)
  have HV := Lib.hid hv
  have HL := Lib.hid hl
  have hgw : g < w.heap.size := hg
  have HNEW : Hid (∀ (n : Nat) W, 0 < n → n ≤ 8192 → Calls Tryz.prog 25 #[.int .i64 n] W fun e w' => ∃ p D, e = .returned (.tuple #[.pointer (some ⟨p, 0, none⟩), .int .i64 0]) ∧ RDisk w' D p (freshDsk n) ∧ (∀ q, D q → W.heap.size ≤ q) ∧ Below W.heap.size W w') := fun n W a b => rdisk_new n W a b
  have e1 : (w.alloc (.cells #[.slice none 0 0, .bool false, .int .i64 (-1), .int .i64 0, .int .i64 0, .int .i64 0] 61)).heap.size = w.heap.size + 1 := size_alloc _ _
  have HST := Lib.hid (newAt_start w l)
  have HVW : Hid (∀ W, Below w.heap.size w W → ∀ i (hi : i < l.length), W.cell? ⟨g, i, none⟩ = some (.int .i64 ((l[i] : Nat) : Int))) := fun W hW i hi => by
    rw [hW.cell (p := ⟨g, i, none⟩) hg]
    have := HV.out.cellAt i (by omega)
    rw [this, kcells_at l i hi]
  clear hv hl
  go_enter Tryz.func8, Tryz.ntmps8
  go_wp2
  go_loopw [5] (fun q wx => ∃ k : Nat, k ≤ l.length ∧ q = .int .i64 k ∧ wx = w.alloc (.cells #[.slice none 0 0, .bool false, .int .i64 (-1), .int .i64 0, .int .i64 0, .int .i64 0] 61)) (fun q _ => l.length - (intOf q).toNat)
  case atStart => exact ⟨0, by omega, rfl, rfl⟩
  case round =>
    obtain ⟨k, hk, rfl, rfl⟩ := hrel
    by_cases hk2 : k < l.length
    · have K1 : Hid (k + 1 ≤ l.length) := hk2
      have d0 := HVW.out _ HST.out.below k hk2
      obtain ⟨hx1, hx2⟩ := HL.out _ (List.getElem_mem hk2)
      generalize l[k]'hk2 = x at *
      go_wp2
      go_roundw
      case rel => exact ⟨k + 1, K1.out, by go_num, (by trivial)⟩
      case measure => simp [intOf]; have := K1.out; omega
    · obtain rfl : k = l.length := by omega
      obtain ⟨wo, hwo⟩ : ∃ wo : World, wo = w.alloc (.cells #[.slice none 0 0, .bool false, .int .i64 (-1), .int .i64 0, .int .i64 0, .int .i64 0] 61) := ⟨_, rfl⟩
      rw [← hwo] at HST ⊢
      clear hwo
      obtain ⟨n, hn⟩ : ∃ n, n = l.length := ⟨_, rfl⟩
      rw [← hn]
      have HN := Lib.hid hn
      rw [← hn] at h1 h2
      clear hn hk hk2
      go_wp2
      go_loopw [6, 7] (fun q _ wx => ∃ (k : Nat) (v : Value) (ptr : Nat → Option Nat) (D : Nat → Nat → Prop), k ≤ n ∧ q = .int .i64 k ∧ NewAt w wx w.heap.size l k v ptr D) (fun q _ _ => n - (intOf q).toNat)
      case atStart => exact ⟨0, _, _, _, by omega, rfl, HST.out⟩
      case round =>
        obtain ⟨k, v, ptr, D, hk, rfl, hin⟩ := hrel
        have HIN := Lib.hid hin
        clear hin
        by_cases hk2 : k < n
        · have K1 : Hid (k + 1 ≤ n) := hk2
          have hkl : k < l.length := by rw [← HN.out]; exact hk2
          have hsz : w.heap.size < wr.heap.size := HIN.out.bay.lt
          obtain ⟨x, hx⟩ : ∃ x, x = l[k] := ⟨_, rfl⟩
          have HX : Hid (l.getD k 0 = x) := by show _ = _; rw [hx, List.getD_eq_getElem?_getD, List.getElem?_eq_getElem hkl]; rfl
          have HXL : Hid (∀ W, Below w.heap.size w W → W.cell? ⟨g, k, none⟩ = some (.int .i64 ((x : Nat) : Int))) := fun W hW => by rw [hx]; exact HVW.out W hW k hkl
          obtain ⟨hx1, hx2⟩ := HL.out _ (List.getElem_mem hkl)
          rw [← hx] at hx1 hx2
          clear hx hkl
          have hb1 : Below w.heap.size w (wr.alloc (.cells #[.pointer none, .pointer none, .pointer none, .int .i64 (-1), .int .i64 (-1), .int .i64 (-1)] 91)) := HIN.out.below.alloc (by omega) _
          have d0 := HXL.out _ hb1
          have HS1 := At.new wr #[.pointer none, .pointer none, .pointer none, .int .i64 (-1), .int .i64 (-1), .int .i64 (-1)] 91
          have p0 := HS1.cell 0
          have p1 := HS1.cell 1
          have p2 := HS1.cell 2
          have p3 := HS1.cell 3
          have p4 := HS1.cell 4
          have p5 := HS1.cell 5
          have p0f := HS1.free 0
          go_upto_region 15 with (first
            | (go_at_call 25; (with_reducible refine (HNEW.out x _ hx1 hx2).mono ?_); rintro e w2 ⟨p, Dn, rfl, hd, hDn, hb2⟩; have q0f := (HS1.below hb2 HS1.lt).free 0; have q0 := (HS1.below hb2 HS1.lt).cell 0; have HD := Lib.hid hd; have HDN := Lib.hid hDn; have HB2 := Lib.hid hb2; clear hd hDn hb2 d0 p0 p1 p2 p3 p4 p5 p0f))
          have HS2 := HS1.below HB2.out HS1.lt
          have HSW := HS2.set 0 (.pointer (some ⟨p, 0, none⟩))
          have hsbs : wr.heap.size < w2.heap.size := HS2.lt
          have hc3 : Chg (fun q => q = wr.heap.size) w2 (w2.setCell ⟨wr.heap.size, 0, none⟩ (.pointer (some ⟨p, 0, none⟩))) := Chg.setCell (S := fun q => q = wr.heap.size) (Chg.refl _ _) ⟨wr.heap.size, 0, none⟩ (.inl rfl) _
          have hcb1 : Chg (fun _ => False) wr (wr.alloc (.cells #[.pointer none, .pointer none, .pointer none, .int .i64 (-1), .int .i64 (-1), .int .i64 (-1)] 91)) := (Chg.refl _ _).alloc _
          have hcb2 : Chg (fun _ => False) wr w2 := hcb1.trans (Chg.ofBelow HB2.out _)
          have hcb3 : Chg (fun q => q = wr.heap.size) wr (w2.setCell ⟨wr.heap.size, 0, none⟩ (.pointer (some ⟨p, 0, none⟩))) := (hcb2.mono (fun _ h => h.elim)).trans hc3
          have HBY := (HIN.out.bay.mod hcb3 (by omega))
          have HRW := ownsRow_chg HIN.out.row hcb3 (fun q hq e => by have := (HIN.out.row.lt q hq).2; omega)
          have HC3 := Lib.hid hc3
          clear hcb3 hcb2 hcb1 hc3 HS1 HS2 hb1
          obtain ⟨w3, hw3⟩ : ∃ w3, w3 = w2.setCell ⟨wr.heap.size, 0, none⟩ (.pointer (some ⟨p, 0, none⟩)) := ⟨_, rfl⟩
          have hz3 : w3.heap.size = w2.heap.size := by rw [hw3]; simp
          rw [← hw3] at HSW HBY HRW HC3 ⊢
          clear hw3 q0 q0f
          have HA0 : Hid (At w3 wr.heap.size #[.pointer (some ⟨p, 0, none⟩), .pointer none, .pointer none, .int .i64 (-1), .int .i64 (-1), .int .i64 (-1)] 91) := HSW
          have HK0 := Lib.hid HBY
          have HR0 := Lib.hid HRW
          clear HSW HBY HRW
          obtain ⟨sb, hsb⟩ : ∃ sb, sb = wr.heap.size := ⟨_, rfl⟩
          have HSB := Lib.hid hsb
          rw [← hsb] at HA0 HC3 hsz hsbs ⊢
          clear hsb
          have hvb : ∀ q, v.ownBlock = some q → w.heap.size ≤ q ∧ q < sb := fun q hq => by rw [HSB.out]; exact HIN.out.row.lt q hq
          have HVB := Lib.hid hvb
          have HH : Hid (∀ X, At X sb #[.pointer (some ⟨p, 0, none⟩), .pointer none, .pointer none, .int .i64 (-1), .int .i64 (-1), .int .i64 (-1)] 91 → X.cell? ⟨sb, 0, none⟩ = some (.pointer (some ⟨p, 0, none⟩)) ∧ X.cell? ⟨sb, 1, none⟩ = some (.pointer none) ∧ X.cell? ⟨sb, 2, none⟩ = some (.pointer none) ∧ X.cell? ⟨sb, 3, none⟩ = some (.int .i64 (-1)) ∧ X.cell? ⟨sb, 4, none⟩ = some (.int .i64 (-1)) ∧ X.cell? ⟨sb, 5, none⟩ = some (.int .i64 (-1))) := fun X a => ⟨a.cell 0, a.cell 1, a.cell 2, a.cell 3, a.cell 4, a.cell 5⟩
          have HH1 := Lib.hid (HH.out w3.drew HA0.out.drew)
          have HH2 := Lib.hid (HH.out (w3.drew.alloc (.cells #[.pointer (some ⟨p, 0, none⟩), .pointer none, .pointer none, .int .i64 (-1), .int .i64 (-1), .int .i64 (-1)] 91)) (HA0.out.drew.alloc _))
          have k0 : w3.drew.cell? ⟨w.heap.size, 0, none⟩ = some v := HK0.out.drew.cell 0
          have k1 : (w3.drew.alloc (.cells #[.pointer (some ⟨p, 0, none⟩), .pointer none, .pointer none, .int .i64 (-1), .int .i64 (-1), .int .i64 (-1)] 91)).cell? ⟨w.heap.size, 0, none⟩ = some v := (HK0.out.drew.alloc _).cell 0
          have k2 : (w3.alloc (.cells #[.pointer (some ⟨p, 0, none⟩), .pointer none, .pointer none, .int .i64 (-1), .int .i64 (-1), .int .i64 (-1)] 91)).drew.cell? ⟨w.heap.size, 0, none⟩ = some v := k1
          have HR2 : Hid ((w3.drew.alloc (.cells #[.pointer (some ⟨p, 0, none⟩), .pointer none, .pointer none, .int .i64 (-1), .int .i64 (-1), .int .i64 (-1)] 91)).ownsRow w.heap.size 91 6 v k (rslots ptr (fun _ => -1) k)) := ownsRow_chg HR0.out (((Chg.refl (fun _ => False) _).drew).alloc _) (fun q hq e => e)
          have HN6 := Lib.hid (new_six w3.drew (.pointer (some ⟨p, 0, none⟩)) (.pointer none) (.pointer none) (.int .i64 (-1)) (.int .i64 (-1)) (.int .i64 (-1)) 91)
          have hzd : w3.drew.heap.size = w3.heap.size := rfl
          have hza : (w3.drew.alloc (.cells #[.pointer (some ⟨p, 0, none⟩), .pointer none, .pointer none, .int .i64 (-1), .int .i64 (-1), .int .i64 (-1)] 91)).heap.size = w3.heap.size + 1 := size_alloc _ _
          have hz6 : w.heap.size ≤ (w3.drew.alloc (.cells #[.pointer (some ⟨p, 0, none⟩), .pointer none, .pointer none, .int .i64 (-1), .int .i64 (-1), .int .i64 (-1)] 91)).heap.size := by rw [hza]; omega
          have HZ3 := Lib.hid hz3
          have HZA := Lib.hid hza
          clear hz3 hza hzd
          have HEND : Hid (∀ v' w5, Chg (fun q => v.ownBlock = some q) (w3.drew.alloc (.cells #[.pointer (some ⟨p, 0, none⟩), .pointer none, .pointer none, .int .i64 (-1), .int .i64 (-1), .int .i64 (-1)] 91)) w5 → w5.ownsRow w.heap.size 91 6 v' (k + 1) (rslots ptr (fun _ => -1) k ++ [.pointer (some ⟨p, 0, none⟩), .pointer none, .pointer none, .int .i64 (-1), .int .i64 (-1), .int .i64 (-1)]) → (v'.ownBlock = v.ownBlock ∨ v'.ownBlock = some (w3.drew.alloc (.cells #[.pointer (some ⟨p, 0, none⟩), .pointer none, .pointer none, .int .i64 (-1), .int .i64 (-1), .int .i64 (-1)] 91)).heap.size) → NewAt w (w5.setCell ⟨w.heap.size, 0, none⟩ v') w.heap.size l (k + 1) v' (fun i => if i = k * 3 then some p else ptr i) (fun i => if i = k then Dn else D i)) := fun v' w5 c1 c2 c3 =>
            HIN.out.next (sb := sb) (by rw [HSB.out]; exact Nat.le_refl _) ((Chg.refl _ _).alloc (.cells #[.pointer none, .pointer none, .pointer none, .int .i64 (-1), .int .i64 (-1), .int .i64 (-1)] 91)) (by rw [size_alloc, HSB.out]; omega) (by rw [HX.out]; exact HD.out) HDN.out HB2.out HC3.out (((Chg.refl (fun _ => False) _).drew).alloc _) c1 c2 c3
          refine wp_region_held_drew (S := fun w' => w'.cell? ⟨sb, 0, none⟩ = some (.pointer (some ⟨p, 0, none⟩)) ∧ w'.cell? ⟨sb, 1, none⟩ = some (.pointer none) ∧ w'.cell? ⟨sb, 2, none⟩ = some (.pointer none) ∧ w'.cell? ⟨sb, 3, none⟩ = some (.int .i64 (-1)) ∧ w'.cell? ⟨sb, 4, none⟩ = some (.int .i64 (-1)) ∧ w'.cell? ⟨sb, 5, none⟩ = some (.int .i64 (-1))) (by kernel_rfl) HH1.out (fun hHeld => ?_)
          refine wpAnyH_take (i := 0) (v := (.pointer (some ⟨w.heap.size, 0, none⟩))) rfl (by kernel_rfl) (by kernel_rfl) (by kernel_rfl) (fun _ _ _ h => h) (Or.inl ⟨by rfl, fun w hSw => by go_simp⟩) hHeld ?_
          (try simp only [Act.put, List.setIfInBounds_toArray, List.set_cons_zero, List.set_cons_succ, List.getElem_toArray, List.getElem_cons_succ, List.getElem_cons_zero])
          refine wpAnyH_take (i := 1) (v := (.pointer (some ⟨w.heap.size, 0, none⟩))) rfl (by kernel_rfl) (by kernel_rfl) (by kernel_rfl) (fun _ _ _ h => h) (Or.inl ⟨by rfl, fun w hSw => by go_simp⟩) hHeld ?_
          (try simp only [Act.put, List.setIfInBounds_toArray, List.set_cons_zero, List.set_cons_succ, List.getElem_toArray, List.getElem_cons_succ, List.getElem_cons_zero])
          refine wpAnyH_take (i := 2) (v := (.pointer (some ⟨w.heap.size, 0, none⟩))) rfl (by kernel_rfl) (by kernel_rfl) (by kernel_rfl) (fun _ _ _ h => h) (Or.inl ⟨by rfl, fun w hSw => by go_simp⟩) hHeld ?_
          (try simp only [Act.put, List.setIfInBounds_toArray, List.set_cons_zero, List.set_cons_succ, List.getElem_toArray, List.getElem_cons_succ, List.getElem_cons_zero])
          refine wpAnyH_take (i := 3) (v := (.pointer (some ⟨w.heap.size, 0, none⟩))) rfl (by kernel_rfl) (by kernel_rfl) (by kernel_rfl) (fun _ _ _ h => h) (Or.inl ⟨by rfl, fun w hSw => by go_simp⟩) hHeld ?_
          (try simp only [Act.put, List.setIfInBounds_toArray, List.set_cons_zero, List.set_cons_succ, List.getElem_toArray, List.getElem_cons_succ, List.getElem_cons_zero])
          refine wpAnyH_take (i := 5) (v := (.agg #[.pointer (some ⟨p, 0, none⟩), .pointer none, .pointer none, .int .i64 (-1), .int .i64 (-1), .int .i64 (-1)])) rfl (by kernel_rfl) (by kernel_rfl) (by kernel_rfl) (fun _ _ _ h => h) (Or.inl ⟨by rfl, fun w hSw => by go_simp⟩) hHeld ?_
          (try simp only [Act.put, List.setIfInBounds_toArray, List.set_cons_zero, List.set_cons_succ, List.getElem_toArray, List.getElem_cons_succ, List.getElem_cons_zero])
          refine wpAnyH_ready (rs := [4, 6]) (by kernel_rfl) (by simp) ?_
          refine AllReadyH.cons (o := { dst := some 61, op := Op.load 59 (Operand.tmp 60), type := 59, pos := "ref.go:39", after := #[{ on := 3, ground := Ground.data }], guard := none }) rfl (fun K hK => ?_) (AllReadyH.cons (o := { dst := some 63, op := Op.buildSlice 59 1 #[(0, Operand.tmp 62)], type := 59, pos := "ref.go:39", after := #[{ on := 5, ground := Ground.data }], guard := none }) rfl (fun K hK => ?_) AllReadyH.nil)
          · go_simp
            refine hK.out _ _ HH1.out (fun hHeld => ?_)
            clear hK K
            (try simp only [Act.put, List.setIfInBounds_toArray, List.set_cons_zero, List.set_cons_succ, List.getElem_toArray, List.getElem_cons_succ, List.getElem_cons_zero])
            refine wpAnyH_ready (rs := [6]) (by kernel_rfl) (by simp) ?_
            refine AllReadyH.cons (o := { dst := some 63, op := Op.buildSlice 59 1 #[(0, Operand.tmp 62)], type := 59, pos := "ref.go:39", after := #[{ on := 5, ground := Ground.data }], guard := none }) rfl (fun K hK => ?_) AllReadyH.nil
            go_simp
            refine hK.out _ _ HH2.out (fun hHeld => ?_)
            clear hK K
            (try simp only [Act.put, List.setIfInBounds_toArray, List.set_cons_zero, List.set_cons_succ, List.getElem_toArray, List.getElem_cons_succ, List.getElem_cons_zero])
            refine wpAnyH_ready (rs := [7]) (by kernel_rfl) (by simp) ?_
            refine AllReadyH.cons (o := { dst := some 64, op := Op.call { callee := Callee.builtin Builtin.append, args := #[Operand.tmp 61, Operand.tmp 63], argTypes := #[59, 59] }, type := 59, pos := "ref.go:39", after := #[{ on := 4, ground := Ground.data }, { on := 6, ground := Ground.data }], guard := none }) rfl (fun K hK => ?_) AllReadyH.nil
            rw [if_pos (by rfl)]
            refine wp_append_row _ _ 59 91 6 48 rfl slice_rslots w.heap.size v k (rslots ptr (fun _ => -1) k) rfl HR2.out _ 1 1 [.pointer (some ⟨p, 0, none⟩), .pointer none, .pointer none, .int .i64 (-1), .int .i64 (-1), .int .i64 (-1)] rfl rfl (HN6.out _ rfl) (by intro u hu; simp at hu; rcases hu with rfl | rfl | rfl | rfl | rfl | rfl <;> rfl) (by unfold maxLen; omega) (by omega) hz6 (by omega) ?_
            intro v' w5 hrow hv' hch
            have HCH := Lib.hid hch
            have HA5 := (HA0.out.drew.alloc _).mod hch (fun e => by have := (HVB.out _ e).2; omega)
            have HK5 := (HK0.out.drew.alloc _).mod hch HIN.out.cv
            have HH5 := Lib.hid (HH.out _ HA5)
            have k50 := HK5.cell 0
            have k0f := HK5.free 0
            have HROW := Lib.hid hrow
            have HV' := Lib.hid hv'
            obtain ⟨va, vc, rfl⟩ := ownsRow_shape hrow
            have HH6 := Lib.hid (HH.out (w5.setCell ⟨w.heap.size, 0, none⟩ (.slice va (k + 1) vc)) (HA5.mod (Chg.setCell (S := fun q => q = w.heap.size) (Chg.refl _ _) ⟨w.heap.size, 0, none⟩ (.inl rfl) _) (by omega)))
            clear hch HA5 HK5 hrow hv'
            refine hK.out _ _ HH5.out (fun hHeld => ?_)
            clear hK K
            (try simp only [Act.put, List.setIfInBounds_toArray, List.set_cons_zero, List.set_cons_succ, List.getElem_toArray, List.getElem_cons_succ, List.getElem_cons_zero])
            refine wpAnyH_take (i := 8) (v := (.pointer (some ⟨w.heap.size, 0, none⟩))) rfl (by kernel_rfl) (by kernel_rfl) (by kernel_rfl) (fun _ _ _ h => h) (Or.inl ⟨by rfl, fun w hSw => by go_simp⟩) hHeld ?_
            (try simp only [Act.put, List.setIfInBounds_toArray, List.set_cons_zero, List.set_cons_succ, List.getElem_toArray, List.getElem_cons_succ, List.getElem_cons_zero])
            refine wpAnyH_take (i := 9) (v := (.pointer (some ⟨w.heap.size, 0, none⟩))) rfl (by kernel_rfl) (by kernel_rfl) (by kernel_rfl) (fun _ _ _ h => h) (Or.inl ⟨by rfl, fun w hSw => by go_simp⟩) hHeld ?_
            (try simp only [Act.put, List.setIfInBounds_toArray, List.set_cons_zero, List.set_cons_succ, List.getElem_toArray, List.getElem_cons_succ, List.getElem_cons_zero])
            refine wpAnyH_ready (rs := [10]) (by kernel_rfl) (by simp) ?_
            refine AllReadyH.cons (o := { dst := none, op := Op.store 59 (Operand.tmp 66) (Operand.tmp 64), type := 0, pos := "ref.go:39", after := #[{ on := 9, ground := Ground.data }, { on := 7, ground := Ground.data }, { on := 7, ground := Ground.chain }, { on := 0, ground := Ground.phase }, { on := 1, ground := Ground.phase }, { on := 2, ground := Ground.phase }, { on := 3, ground := Ground.phase }, { on := 4, ground := Ground.phase }, { on := 5, ground := Ground.phase }, { on := 6, ground := Ground.phase }, { on := 7, ground := Ground.phase }], guard := none }) rfl (fun K hK => ?_) AllReadyH.nil
            go_simp
            refine hK.out _ _ HH6.out (fun hHeld => ?_)
            clear hK K
            (try simp only [Act.put, List.setIfInBounds_toArray, List.set_cons_zero, List.set_cons_succ, List.getElem_toArray, List.getElem_cons_succ, List.getElem_cons_zero])
            refine wpAnyH_done (by kernel_rfl) ?_ _
            clear k50 k0f
            go_wp2
            go_roundw
            case measure => simp [intOf]; have := K1.out; omega
            exact ⟨k + 1, _, _, _, K1.out, by go_num, HEND.out _ _ HCH.out HROW.out HV'.out⟩
          · go_simp
            refine hK.out _ _ HH2.out (fun hHeld => ?_)
            clear hK K
            (try simp only [Act.put, List.setIfInBounds_toArray, List.set_cons_zero, List.set_cons_succ, List.getElem_toArray, List.getElem_cons_succ, List.getElem_cons_zero])
            refine wpAnyH_ready (rs := [4]) (by kernel_rfl) (by simp) ?_
            refine AllReadyH.cons (o := { dst := some 61, op := Op.load 59 (Operand.tmp 60), type := 59, pos := "ref.go:39", after := #[{ on := 3, ground := Ground.data }], guard := none }) rfl (fun K hK => ?_) AllReadyH.nil
            go_simp
            refine hK.out _ _ HH2.out (fun hHeld => ?_)
            clear hK K
            (try simp only [Act.put, List.setIfInBounds_toArray, List.set_cons_zero, List.set_cons_succ, List.getElem_toArray, List.getElem_cons_succ, List.getElem_cons_zero])
            refine wpAnyH_ready (rs := [7]) (by kernel_rfl) (by simp) ?_
            refine AllReadyH.cons (o := { dst := some 64, op := Op.call { callee := Callee.builtin Builtin.append, args := #[Operand.tmp 61, Operand.tmp 63], argTypes := #[59, 59] }, type := 59, pos := "ref.go:39", after := #[{ on := 4, ground := Ground.data }, { on := 6, ground := Ground.data }], guard := none }) rfl (fun K hK => ?_) AllReadyH.nil
            rw [if_pos (by rfl)]
            refine wp_append_row _ _ 59 91 6 48 rfl slice_rslots w.heap.size v k (rslots ptr (fun _ => -1) k) rfl HR2.out _ 1 1 [.pointer (some ⟨p, 0, none⟩), .pointer none, .pointer none, .int .i64 (-1), .int .i64 (-1), .int .i64 (-1)] rfl rfl (HN6.out _ rfl) (by intro u hu; simp at hu; rcases hu with rfl | rfl | rfl | rfl | rfl | rfl <;> rfl) (by unfold maxLen; omega) (by omega) hz6 (by omega) ?_
            intro v' w5 hrow hv' hch
            have HCH := Lib.hid hch
            have HA5 := (HA0.out.drew.alloc _).mod hch (fun e => by have := (HVB.out _ e).2; omega)
            have HK5 := (HK0.out.drew.alloc _).mod hch HIN.out.cv
            have HH5 := Lib.hid (HH.out _ HA5)
            have k50 := HK5.cell 0
            have k0f := HK5.free 0
            have HROW := Lib.hid hrow
            have HV' := Lib.hid hv'
            obtain ⟨va, vc, rfl⟩ := ownsRow_shape hrow
            have HH6 := Lib.hid (HH.out (w5.setCell ⟨w.heap.size, 0, none⟩ (.slice va (k + 1) vc)) (HA5.mod (Chg.setCell (S := fun q => q = w.heap.size) (Chg.refl _ _) ⟨w.heap.size, 0, none⟩ (.inl rfl) _) (by omega)))
            clear hch HA5 HK5 hrow hv'
            refine hK.out _ _ HH5.out (fun hHeld => ?_)
            clear hK K
            (try simp only [Act.put, List.setIfInBounds_toArray, List.set_cons_zero, List.set_cons_succ, List.getElem_toArray, List.getElem_cons_succ, List.getElem_cons_zero])
            refine wpAnyH_take (i := 8) (v := (.pointer (some ⟨w.heap.size, 0, none⟩))) rfl (by kernel_rfl) (by kernel_rfl) (by kernel_rfl) (fun _ _ _ h => h) (Or.inl ⟨by rfl, fun w hSw => by go_simp⟩) hHeld ?_
            (try simp only [Act.put, List.setIfInBounds_toArray, List.set_cons_zero, List.set_cons_succ, List.getElem_toArray, List.getElem_cons_succ, List.getElem_cons_zero])
            refine wpAnyH_take (i := 9) (v := (.pointer (some ⟨w.heap.size, 0, none⟩))) rfl (by kernel_rfl) (by kernel_rfl) (by kernel_rfl) (fun _ _ _ h => h) (Or.inl ⟨by rfl, fun w hSw => by go_simp⟩) hHeld ?_
            (try simp only [Act.put, List.setIfInBounds_toArray, List.set_cons_zero, List.set_cons_succ, List.getElem_toArray, List.getElem_cons_succ, List.getElem_cons_zero])
            refine wpAnyH_ready (rs := [10]) (by kernel_rfl) (by simp) ?_
            refine AllReadyH.cons (o := { dst := none, op := Op.store 59 (Operand.tmp 66) (Operand.tmp 64), type := 0, pos := "ref.go:39", after := #[{ on := 9, ground := Ground.data }, { on := 7, ground := Ground.data }, { on := 7, ground := Ground.chain }, { on := 0, ground := Ground.phase }, { on := 1, ground := Ground.phase }, { on := 2, ground := Ground.phase }, { on := 3, ground := Ground.phase }, { on := 4, ground := Ground.phase }, { on := 5, ground := Ground.phase }, { on := 6, ground := Ground.phase }, { on := 7, ground := Ground.phase }], guard := none }) rfl (fun K hK => ?_) AllReadyH.nil
            go_simp
            refine hK.out _ _ HH6.out (fun hHeld => ?_)
            clear hK K
            (try simp only [Act.put, List.setIfInBounds_toArray, List.set_cons_zero, List.set_cons_succ, List.getElem_toArray, List.getElem_cons_succ, List.getElem_cons_zero])
            refine wpAnyH_done (by kernel_rfl) ?_ _
            clear k50 k0f
            go_wp2
            go_roundw
            case measure => simp [intOf]; have := K1.out; omega
            exact ⟨k + 1, _, _, _, K1.out, by go_num, HEND.out _ _ HCH.out HROW.out HV'.out⟩
        · obtain rfl : k = n := by omega
          go_wp2
          go_ret2
          exact ⟨_, rfl, by rw [HN.out] at HIN; exact HIN.out.done (by rw [← HN.out]; exact h1) (by rw [← HN.out]; exact h2) HL.out, HIN.out.below⟩

end Go.Proofs.YtleicmmbaacbmaaGreat
