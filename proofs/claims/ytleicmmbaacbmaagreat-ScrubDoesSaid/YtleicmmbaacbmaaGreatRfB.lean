/- The document's disk: New, Fail, Read, Write. -/
import Derived.Test.YtleicmmbaacbmaaGreatMrg3
import Derived.Test.YtleicmmbaacbmaaGreatMrg6
set_option linter.unusedVariables false
namespace Go.Proofs.YtleicmmbaacbmaaGreat
open Go.RowKit

theorem slice_rwrites : SliceOf Tryz.prog 137 148 2 32 := SliceOf.mk' (z := .agg #[.int .i64 0, .slice none 0 0]) Tryz.underlying137 (by decide) (by kernel_rfl) rfl

set_option maxRecDepth 100000 in
set_option maxHeartbeats 1000000 in
theorem rdisk_fail {w : World} {D : Nat → Prop} {p : Nat} {d : Dsk} (h : RDisk w D p d) :
    Calls Tryz.prog 75 #[.pointer (some ⟨p, 0, none⟩)] w fun e w' => e = .returned (.tuple #[]) ∧ RDPost w D p ⟨d.last, [], true⟩ w' := by
  obtain ⟨lv, cv, L, h⟩ := h
  have c1 : w.cell? ⟨p, 1, none⟩ = some cv := h.dsk.cell 1
  have c2 : w.cell? ⟨p, 2, none⟩ = some (.bool d.failed) := h.dsk.cell 2
  have f1 := h.dsk.free 1
  have f2 := h.dsk.free 2
  have HI := Lib.hid h
  have HCE : Hid (cv.ownBlock ≠ some p) := at_ne_row h.dsk h.cache (by decide)
  have HLE : Hid (lv.ownBlock ≠ some p) := at_ne_row h.dsk h.last (by decide)
  clear h
  go_enter Tryz.func75, Tryz.ntmps75
  go_wp2
  have hc1 : Chg (fun q => q = p) w (w.setCell ⟨p, 2, none⟩ (.bool true)) := Chg.setCell (S := fun q => q = p) (Chg.refl _ _) ⟨p, 2, none⟩ (.inl rfl) _
  have hc2 : Chg (fun q => q = p) w ((w.setCell ⟨p, 2, none⟩ (.bool true)).setCell ⟨p, 1, none⟩ (.slice none 0 0)) := hc1.setCell ⟨p, 1, none⟩ (.inl rfl) _
  go_end0
  refine ⟨rfl, D, ⟨lv, .slice none 0 0, [], ?_⟩, fun q hq => .inl hq, hc2.mono fun q hq => hq ▸ HI.out.inP⟩
  have H := HI.out
  exact ⟨(H.dsk.set 2 (.bool true)).set 1 (.slice none 0 0), ownsRow_chg H.last hc2 (fun g hg e => HLE.out (e ▸ hg)), World.ownsRow_nil _ _ _ _, rfl, (fun x hx => by simp at hx), H.inP, H.inL, (fun g hg => by simp [Value.ownBlock] at hg), (fun x hx => by simp at hx), fun g hg => Nat.lt_of_lt_of_le (H.lt g hg) hc2.size, H.len, (fun x hx => by simp at hx), (fun x hx => by simp at hx), H.few, H.some'⟩

theorem rseg_of_sec {w : World} {B : Nat} {v : Value} {l : List UInt8} (h : w.ownsRow B 5 1 v 128 (ucells l)) : Seg w v l ∧ l.length = 128 := by
  have hl : l.length = 128 := by
    have := h.1
    rw [ucells_length] at this
    omega
  rw [← hl] at h
  exact ⟨seg_of_owns h, hl⟩

/-- What a read of the document's disk leaves. -/
def RRead (w : World) (r : Nat × Option Sec) (e : Ending) (w' : World) : Prop :=
  ∃ v, e = .returned (.tuple #[v, .int .i64 ((r.1 : Nat) : Int)]) ∧ Below w.heap.size w w' ∧ (∀ x, r.2 = some x → w'.ownsRow w.heap.size 5 1 v 128 (ucells x)) ∧ (r.2 = none → v = .slice none 0 0)

set_option maxRecDepth 100000 in
set_option maxHeartbeats 4000000 in
theorem rdisk_read {w : World} {D : Nat → Prop} {p : Nat} {d : Dsk} (h : RDisk w D p d) (z : Int) :
    Calls Tryz.prog 106 #[.pointer (some ⟨p, 0, none⟩), .int .i64 z] w (RRead w (d.read z)) := by
  obtain ⟨lv, cv, L, h⟩ := h
  obtain ⟨g, c, hlv, hg, hcap, hcells⟩ := h.rows
  have c0 : w.cell? ⟨p, 0, none⟩ = some lv := h.dsk.cell 0
  have c1 : w.cell? ⟨p, 1, none⟩ = some cv := h.dsk.cell 1
  have c2 : w.cell? ⟨p, 2, none⟩ = some (.bool d.failed) := h.dsk.cell 2
  have hfew := h.few
  have HI := Lib.hid h
  have HLV := Lib.hid hlv
  rw [hlv] at c0
  obtain ⟨N, hN⟩ : ∃ N : Nat, N = d.last.length * 128 := ⟨_, rfl⟩
  rw [← hN] at c0 hcap
  obtain ⟨n, hn⟩ : ∃ n : Nat, n = d.last.length := ⟨_, rfl⟩
  have HNn := Lib.hid hn
  have hq : ((N : Nat) : Int).tdiv 128 = (n : Int) := by
    rw [hN, Int.tdiv_eq_ediv_of_nonneg (by omega)]
    omega
  have hNn : N = n * 128 := by omega
  have hn8 : n ≤ 8192 := by omega
  have hNb : N ≤ 1048576 := by omega
  clear h hlv hcells hN hn hfew
  cases hf : d.failed
  · rw [hf] at c2
    by_cases hz : z < 0
    · have hr : d.read z = (3, none) := by
        unfold Dsk.read Dsk.may
        rw [hf, if_neg (by rw [if_neg (by simp), if_pos (.inl hz)]; omega), if_neg (by simp), if_pos (.inl hz)]
      rw [hr]
      clear hr hNn
      go_enter Tryz.func106, Tryz.ntmps106
      go_wp2
      go_ret2
      exact ⟨_, rfl, Below.refl _ _, fun x hx => (by cases hx), fun _ => rfl⟩
    · by_cases hn : (n : Int) ≤ z
      · have hr : d.read z = (3, none) := by
          unfold Dsk.read Dsk.may
          have hn' : (d.last.length : Int) ≤ z := by rw [← HNn.out]; exact hn
          rw [hf, if_neg (by rw [if_neg (by simp), if_pos (.inr hn')]; omega), if_neg (by simp), if_pos (.inr hn')]
        rw [hr]
        clear hr hNn
        go_enter Tryz.func106, Tryz.ntmps106
        go_wp2
        go_ret2
        exact ⟨_, rfl, Below.refl _ _, fun x hx => (by cases hx), fun _ => rfl⟩
      · obtain ⟨i, rfl⟩ : ∃ i : Nat, z = i := ⟨z.toNat, by omega⟩
        have hi0 : i < d.last.length := by rw [← HNn.out]; omega
        have hi : i < n := by omega
        obtain ⟨s0, hs0⟩ : ∃ s0 : Sec, s0 = d.last[i] := ⟨_, rfl⟩
        have HS0 : Hid (Seg w (.slice (some ⟨g, 128 * i, none⟩) 128 (c - 128 * i)) s0) := by rw [hs0]; exact HI.out.sec HLV.out hi0 (c - 128 * i) (by omega)
        have HS1 : Hid (s0.length = 128) := by rw [hs0]; exact HI.out.len _ (List.getElem_mem hi0)
        have HCU : Hid (d.cur i = (waits (wvs L) (i : Int)).getD s0) := by
          show _ = _
          unfold Dsk.cur
          rw [List.getD_eq_getElem?_getD, List.getElem?_eq_getElem hi0, HI.out.eq, hs0]
          rfl
        have hr : d.read (i : Int) = (0, some (d.cur i)) := by
          unfold Dsk.read Dsk.may
          have hn' : ¬ ((i : Int) < 0 ∨ (d.last.length : Int) ≤ (i : Int)) := by omega
          rw [hf, if_pos (by rw [if_neg (by simp), if_neg hn'])]
          rfl
        rw [hr]
        obtain ⟨ca, cc, rfl⟩ := ownsRow_shape HI.out.cache
        have hb1 : 128 * i + 128 ≤ N := by omega
        have hlb := ownsRow_few HI.out.cache
        have hb2 : ¬ c = 128 * i := by omega
        clear hr hs0 hNn
        generalize d.cur i = cu at *
        go_enter Tryz.func106, Tryz.ntmps106
        go_wp2
        go_loopw [6, 7] (fun b q wx => ∃ k : Nat, k ≤ L.length ∧ q = .int .i64 k ∧ wx = w ∧ (∃ ba bc, b = .slice ba 128 bc) ∧ Seg w b ((waits ((wvs L).take k) (i : Int)).getD s0) ∧ ((waits ((wvs L).take k) (i : Int)).getD s0).length = 128) (fun _ q _ => L.length - (intOf q).toNat)
        case atStart => exact ⟨0, by omega, rfl, rfl, ⟨_, _, rfl⟩, HS0.out, HS1.out⟩
        case round =>
          obtain ⟨k, hk, rfl, rfl, ⟨ba, bc, rfl⟩, hseg, hlen⟩ := hrel
          have HSEG := Lib.hid hseg
          have HLEN := Lib.hid hlen
          by_cases hk2 : k < L.length
          · have K1 : Hid (k + 1 ≤ L.length) := hk2
            obtain ⟨gc, cc', hve, -, -⟩ := ownsRow_full HI.out.cache (by omega)
            simp only [Value.slice.injEq, true_and] at hve
            obtain ⟨rfl, rfl⟩ := hve
            have e1 := (HI.out.cache.cellAt (k * 2) (by omega)).trans (rwcells_at L k hk2).1
            have e2 := (HI.out.cache.cellAt (k * 2 + 1) (by omega)).trans (rwcells_at L k hk2).2
            have hdat := HI.out.data _ (List.getElem_mem hk2)
            obtain ⟨da, dc, hde⟩ := ownsRow_shape hdat
            obtain ⟨hsd, hsl⟩ := rseg_of_sec hdat
            rw [hde] at e2 hsd
            have htake : (wvs L).take (k + 1) = (wvs L).take k ++ [((L[k]'hk2).1, (L[k]'hk2).2.1)] := by
              rw [List.take_succ_eq_append_getElem (by rw [wvs_length]; exact hk2)]
              simp [wvs]
            have HW : Hid ((waits ((wvs L).take (k + 1)) (i : Int)).getD s0 = if (((L[k]'hk2).1 : Nat) : Int) = (i : Int) then (L[k]'hk2).2.1 else (waits ((wvs L).take k) (i : Int)).getD s0) := by
              show _ = _
              rw [htake, waits_snoc]
              by_cases he : (((L[k]'hk2).1 : Nat) : Int) = (i : Int)
              · rw [if_pos he, if_pos he]; rfl
              · rw [if_neg he, if_neg he]
            have HSD := Lib.hid hsd
            have HSL := Lib.hid hsl
            clear hseg hlen hdat hde hsd hsl htake
            generalize (L[k]'hk2).1 = a at *
            generalize (L[k]'hk2).2.1 = sd at *
            by_cases he : (a : Int) = (i : Int)
            · rw [if_pos he] at HW
              have hE : ((a : Int) == (i : Int)) = true := by simpa using he
              clear he
              go_wp2
              go_roundw
              case rel => exact ⟨k + 1, K1.out, by go_num, (by trivial), ⟨_, _, rfl⟩, by rw [HW.out]; exact HSD.out, by rw [HW.out]; exact HSL.out⟩
              case measure => simp [intOf]; have := K1.out; omega
            · rw [if_neg he] at HW
              have hE : ((a : Int) == (i : Int)) = false := by simpa using he
              clear he
              go_wp2
              go_roundw
              case rel => exact ⟨k + 1, K1.out, by go_num, (by trivial), ⟨_, _, rfl⟩, by rw [HW.out]; exact HSEG.out, by rw [HW.out]; exact HLEN.out⟩
              case measure => simp [intOf]; have := K1.out; omega
          · obtain rfl : L.length = k := by omega
            rw [List.take_of_length_le (by rw [wvs_length]; omega), ← HCU.out] at HSEG HLEN
            clear hseg hlen
            have HC := Lib.hid HSEG.out.cells
            clear HSEG HLEN
            go_wp2_with (refine wpList_append_many rfl _ _ 53 5 1 1 rfl slice_bytes wr.heap.size (.slice none 0 0) 0 [] rfl (World.ownsRow_nil _ _ _ _) ba 128 bc (ucells cu) rfl (by rw [ucells_length, ← HC.out.1]) (fun e => by obtain ⟨q1, q2⟩ := HC.out.2.1 e; have := HC.out.1; omega) HC.out.2.2 (ucells_one _) (by unfold maxLen; omega) (by omega) (Nat.le_refl _) ?_; intro v1 w1 hown1 hb1 hg1; obtain ⟨va, vc, rfl⟩ := ownsRow_shape hown1; have HO1 := Lib.hid hown1; have HB1 := Lib.hid hb1; clear hown1 hb1 hg1)
            go_ret2
            exact ⟨_, rfl, HB1.out, fun x hx => by cases hx; simpa using HO1.out, fun e => by cases e⟩
  · rw [hf] at c2
    have hr : d.read z = (2, none) := by
      unfold Dsk.read Dsk.may
      rw [hf, if_neg (by rw [if_pos rfl]; omega), if_pos rfl]
    rw [hr]
    clear hr hNn
    go_enter Tryz.func106, Tryz.ntmps106
    go_wp2
    go_ret2
    exact ⟨_, rfl, Below.refl _ _, fun x hx => (by cases hx), fun _ => rfl⟩

end Go.Proofs.YtleicmmbaacbmaaGreat
