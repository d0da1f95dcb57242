/- Several texts in one: RfBa, RfBb. -/
import Derived.Test.YtleicmmbaacbmaaGreatRfB
/- The document's disk: New, Image, Write. -/
set_option linter.unusedVariables false
namespace Go.Proofs.YtleicmmbaacbmaaGreat
open Go.RowKit

set_option maxRecDepth 100000 in
set_option maxHeartbeats 1000000 in
theorem rdisk_new (n : Nat) (w : World) (hn : 0 < n) (hn2 : n ≤ 8192) :
    Calls Tryz.prog 25 #[.int .i64 n] w fun e w' => ∃ p D, e = .returned (.tuple #[.pointer (some ⟨p, 0, none⟩), .int .i64 0]) ∧ RDisk w' D p (freshDsk n) ∧ (∀ q, D q → w.heap.size ≤ q) ∧ Below w.heap.size w w' := by
  go_enter Tryz.func25, Tryz.ntmps25
  go_wp2_with (refine wpList_make_same rfl _ _ 53 5 1 1 rfl slice_bytes (.int .u8 0) (by kernel_rfl) _ _ _ _ (128 * n) rfl rfl (by omega) (by omega) (by omega) (by unfold maxLen; omega) ?_; intro w1 a1 b1; have HA1 := Lib.hid a1; have HB1 := Lib.hid b1; clear a1 b1)
  go_ret2
  have hb := HB1.out.alloc (by have := HB1.out.size; omega) (.cells #[.slice (some ⟨w.heap.size, 0, none⟩) (128 * n) (128 * n), .slice none 0 0, .bool false] 139)
  have hs := HB1.out.size
  have hlt := HA1.out.lt
  refine ⟨w1.heap.size, fun q => q = w.heap.size ∨ q = w1.heap.size, rfl, ⟨.slice (some ⟨w.heap.size, 0, none⟩) (128 * n) (128 * n), .slice none 0 0, [], ?_⟩, fun q hq => by rcases hq with rfl | rfl <;> omega, hb⟩
  refine ⟨At.new _ _ _, ?_, World.ownsRow_nil _ _ _ _, rfl, fun x hx => (by simp at hx), .inr rfl, fun g hg => ?_, fun g hg => (by simp [Value.ownBlock] at hg), fun x hx => (by simp at hx), fun g hg => ?_, fun s hs => ?_, fun x hx => (by simp [freshDsk] at hx), fun x hx => (by simp [freshDsk] at hx), by simp [freshDsk]; exact hn2, by simp [freshDsk]; exact hn⟩
  · have e : secCells (freshDsk n).last = List.replicate (128 * n) (.int .u8 0) := by
      show secCells (List.replicate n zsec) = _
      rw [secCells_replicate, Nat.mul_comm]
    have el : (freshDsk n).last.length * 128 = 128 * n := by
      show (List.replicate n zsec).length * 128 = _
      rw [List.length_replicate, Nat.mul_comm]
    rw [e, el]
    have h1 := (HA1.out.alloc (.cells #[.slice (some ⟨w.heap.size, 0, none⟩) (128 * n) (128 * n), .slice none 0 0, .bool false] 139))
    refine ⟨by simp, .inr ⟨w.heap.size, 128 * n, _, rfl, Nat.zero_le _, h1, Nat.le_refl _, by unfold maxLen; omega, by simp, ?_⟩⟩
    simp
  · simp only [Value.ownBlock, Option.some.injEq] at hg
    exact .inl hg.symm
  · rw [size_alloc]
    rcases hg with rfl | rfl <;> omega
  · simp only [freshDsk, List.mem_replicate] at hs
    rw [hs.2]
    rfl

/-- The lasting bytes of a disk, told twice. -/
theorem secCells_flat (l : List Sec) : secCells l = ucells l.flatten := by
  induction l with
  | nil => rfl
  | cons s l ih =>
    show ucells s ++ secCells l = ucells (s ++ l.flatten)
    rw [ih]
    simp [ucells]

set_option maxRecDepth 100000 in
set_option maxHeartbeats 1000000 in
theorem rdisk_image {w : World} {D : Nat → Prop} {p : Nat} {d : Dsk} (h : RDisk w D p d) :
    Calls Tryz.prog 44 #[.pointer (some ⟨p, 0, none⟩)] w fun e w' => ∃ v, e = .returned v ∧ Below w.heap.size w w' ∧ (d.failed = false → w'.ownsRow w.heap.size 5 1 v (d.last.length * 128) (secCells d.last)) ∧ (d.failed = true → v = .slice none 0 0) := by
  obtain ⟨lv, cv, L, h⟩ := h
  obtain ⟨g, c, hlv, hg, hcap, hcells⟩ := h.rows
  have c0 : w.cell? ⟨p, 0, none⟩ = some lv := h.dsk.cell 0
  have c2 : w.cell? ⟨p, 2, none⟩ = some (.bool d.failed) := h.dsk.cell 2
  have hl := secCells_length h.len
  have hfew := h.few
  rw [hlv] at c0
  clear h hlv
  cases hf : d.failed
  · rw [hf] at c2
    obtain ⟨N, hN⟩ : ∃ N : Nat, N = d.last.length * 128 := ⟨_, rfl⟩
    rw [← hN] at c0 hcap hcells hl ⊢
    have hNb : N ≤ 1048576 := by omega
    generalize hC : secCells d.last = C at *
    have h1c : ∀ u ∈ C, u.oneCell' = true := by rw [← hC]; exact secCells_one _
    have HC : Hid (∀ ad : Addr, some (⟨g, 0, none⟩ : Addr) = some ad → ∀ j u, C[j]? = some u → w.cell? (ad.add j) = some u) := by
      intro ad had j u hu
      obtain rfl := Option.some.inj had
      have hj := (List.getElem?_eq_some_iff.1 hu).1
      rw [Addr.add_lit, Nat.zero_add, hcells j (by omega)]
      exact hu
    have H1 := Lib.hid h1c
    have HL := Lib.hid hl
    clear hcells hC h1c hl hN
    go_enter Tryz.func44, Tryz.ntmps44
    go_wp2_with (refine wpList_append_many rfl _ _ 53 5 1 1 rfl slice_bytes w.heap.size (.slice none 0 0) 0 [] rfl (World.ownsRow_nil _ _ _ _) (some ⟨g, 0, none⟩) N c C rfl (by rw [HL.out]; omega) (fun e => by cases e) HC.out H1.out (by unfold maxLen; omega) (by omega) (Nat.le_refl _) ?_; intro v1 w1 hown1 hb1 hg1; have HO1 := Lib.hid hown1; have HB1 := Lib.hid hb1; clear hown1 hb1 hg1)
    go_ret
    exact ⟨_, rfl, HB1.out, fun _ => by simpa using HO1.out, fun e => by cases e⟩
  · rw [hf] at c2
    clear hcells hl
    go_enter Tryz.func44, Tryz.ntmps44
    go_wp2
    go_ret
    exact ⟨_, rfl, Below.refl _ _, fun e => (by cases e), fun _ => rfl⟩

end Go.Proofs.YtleicmmbaacbmaaGreat

/- The document's disk: Write. -/
set_option linter.unusedVariables false
namespace Go.Proofs.YtleicmmbaacbmaaGreat
open Go.RowKit

theorem rnew_two (w : World) (a b : Value) (t : TypeId) : ∀ ad : Addr, some (⟨w.heap.size, 0, none⟩ : Addr) = some ad → ∀ j u, [a, b][j]? = some u → (w.alloc (.cells #[a, b] t)).cell? (ad.add j) = some u := by
  intro ad had j u hu
  obtain rfl := Option.some.inj had
  rw [Addr.add_lit, Nat.zero_add]
  have h := (At.new w #[a, b] t).cell j
  rw [h]
  simpa using hu

theorem ownsRow_lower0 {w : World} {B : Nat} {e : TypeId} {sz n : Nat} {v : Value} {xs : List Value} (h : w.ownsRow B e sz v n xs) : w.ownsRow 0 e sz v n xs := by
  refine ⟨h.1, ?_⟩
  rcases h.2 with hn | ⟨g, cap, cur, hv, hg, r⟩
  · exact .inl hn
  · exact .inr ⟨g, cap, cur, hv, Nat.zero_le _, r⟩

set_option maxRecDepth 100000 in
set_option maxHeartbeats 4000000 in
theorem rdisk_write {w : World} {D : Nat → Prop} {p : Nat} {d : Dsk} (h : RDisk w D p d) (z : Int) (v : Value) (l : List UInt8) (hv : Seg w v l) (hm : d.cache.length ≤ 1000000) :
    Calls Tryz.prog 73 #[.pointer (some ⟨p, 0, none⟩), .int .i64 z, v] w fun e w' => e = .returned (.int .i64 (((d.write z l).1 : Nat) : Int)) ∧ RDPost w D p (d.write z l).2 w' := by
  have hsame : RDPost w D p d w := ⟨D, h, fun q hq => .inl hq, Chg.refl _ _⟩
  obtain ⟨lv, cv, L, h⟩ := h
  obtain ⟨g, c, hlv, hg, hcap, hcells⟩ := h.rows
  have c0 : w.cell? ⟨p, 0, none⟩ = some lv := h.dsk.cell 0
  have c1 : w.cell? ⟨p, 1, none⟩ = some cv := h.dsk.cell 1
  have c2 : w.cell? ⟨p, 2, none⟩ = some (.bool d.failed) := h.dsk.cell 2
  have hfew := h.few
  have HI := Lib.hid h
  have HLV := Lib.hid hlv
  have HSAME := Lib.hid hsame
  rw [hlv] at c0
  obtain ⟨N, hN⟩ : ∃ N : Nat, N = d.last.length * 128 := ⟨_, rfl⟩
  rw [← hN] at c0 hcap
  obtain ⟨n, hn⟩ : ∃ n : Nat, n = d.last.length := ⟨_, rfl⟩
  have HNn := Lib.hid hn
  have hq : ((N : Nat) : Int).tdiv 128 = (n : Int) := by
    rw [hN, Int.tdiv_eq_ediv_of_nonneg (by omega)]
    omega
  have hn8 : n ≤ 8192 := by omega
  have hNb : N ≤ 1048576 := by omega
  clear h hlv hcells hN hn hfew hsame
  have HV := Lib.hid hv
  obtain ⟨va, vc, rfl⟩ := hv.shape
  clear hv
  cases hf : d.failed
  · rw [hf] at c2
    by_cases hz : z < 0
    · have hr : d.write z l = (3, d) := by
        have hmay : d.may z = 3 := by unfold Dsk.may; rw [hf, if_neg (by simp), if_pos (.inl hz)]
        unfold Dsk.write
        rw [hmay, if_pos (by omega)]
      rw [hr]
      clear hr
      go_enter Tryz.func73, Tryz.ntmps73
      go_wp2
      go_ret
      exact ⟨rfl, HSAME.out⟩
    · by_cases hn : (n : Int) ≤ z
      · have hr : d.write z l = (3, d) := by
          have hn' : (d.last.length : Int) ≤ z := by rw [← HNn.out]; exact hn
          have hmay : d.may z = 3 := by unfold Dsk.may; rw [hf, if_neg (by simp), if_pos (.inr hn')]
          unfold Dsk.write
          rw [hmay, if_pos (by omega)]
        rw [hr]
        clear hr
        go_enter Tryz.func73, Tryz.ntmps73
        go_wp2
        go_ret
        exact ⟨rfl, HSAME.out⟩
      · obtain ⟨i, rfl⟩ : ∃ i : Nat, z = i := ⟨z.toNat, by omega⟩
        have hi0 : i < d.last.length := by rw [← HNn.out]; omega
        have hmay : d.may (i : Int) = 0 := by
          unfold Dsk.may
          rw [hf, if_neg (by simp), if_neg (by omega)]
        by_cases hl : l.length = 128
        · have hr : d.write (i : Int) l = (0, { d with cache := d.cache ++ [(i, l)] }) := by
            unfold Dsk.write
            rw [hmay, if_neg (by omega), if_neg (by omega)]
            rfl
          rw [hr]
          have HL := Lib.hid hl
          have hne : ((l.length : Int) != 128) = false := by simp; omega
          have hm2 : L.length ≤ 1000000 := by
            have := HI.out.eq
            rw [this, wvs_length] at hm
            exact hm
          have HC := Lib.hid HV.out.cells
          have hplt := HI.out.dsk.lt
          have hpc : cv.ownBlock ≠ some p := at_ne_row HI.out.dsk HI.out.cache (by decide)
          have hi : i < n := by omega
          clear hr hl hmay hm
          go_enter Tryz.func73, Tryz.ntmps73
          go_wp2_with (first
            | (refine wpList_append_many rfl _ _ 53 5 1 1 rfl slice_bytes w.heap.size (.slice none 0 0) 0 [] rfl (World.ownsRow_nil _ _ _ _) va l.length vc (ucells l) rfl (by rw [ucells_length]; omega) (fun e => HC.out.2.1 e) HC.out.2.2 (ucells_one _) (by unfold maxLen; have := HL.out; omega) (by have := HL.out; omega) (Nat.le_refl _) ?_; intro v1 w1 hown1 hb1 hg1; rw [Nat.zero_add, List.nil_append] at hown1; obtain ⟨xa, xc, rfl⟩ := ownsRow_shape hown1; have HO1 := Lib.hid hown1; have HB1 := Lib.hid hb1; have d1 : w1.cell? ⟨p, 1, none⟩ = some cv := (hb1.cell (p := ⟨p, 1, none⟩) hplt).trans c1; have hw1 := hb1.size; clear hown1 hb1 hg1)
            | (refine wpList_append_keeps rfl _ _ 137 148 2 32 rfl slice_rwrites 0 cv L.length (rwcells L) rfl ((ownsRow_below HI.out.cache HB1.out (Nat.le_refl _)).alloc _) ⟨w1.heap.size, 0, none⟩ 1 1 [.int .i64 i, .slice xa l.length xc] rfl rfl (rnew_two _ _ _ _ _ rfl) (by intro u hu; simp at hu; rcases hu with rfl | rfl <;> rfl) (by unfold maxLen; omega) (by omega) (by omega) (by omega) ?_; intro v2 w2 hown2 hloc2 hch2 hkeep2; have hp2 := ((HI.out.dsk.below HB1.out hplt).alloc (.cells #[.int .i64 i, .slice xa l.length xc] 148)).mod hch2 hpc; have f2 := hp2.free 1; have d2 : w2.cell? ⟨p, 1, none⟩ = some cv := hp2.cell 1; have HP2 := Lib.hid hp2; obtain ⟨ya, yc, rfl⟩ := ownsRow_shape hown2; have HO2 := Lib.hid hown2; have HC2 := Lib.hid hch2; have HK2 := Lib.hid hkeep2; have HL2 := Lib.hid hloc2; clear hp2 hown2 hch2 hkeep2 hloc2))
          go_ret
          have hp3 : Chg (fun q => q = p) w2 (w2.setCell ⟨p, 1, none⟩ (.slice ya (L.length + 1) yc)) := Chg.setCell (S := fun q => q = p) (Chg.refl _ _) ⟨p, 1, none⟩ (.inl rfl) _
          have hal : Chg (fun _ => False) w (w1.alloc (.cells #[.int .i64 i, .slice xa l.length xc] 148)) := (Chg.ofBelow HB1.out _).alloc _
          have HIa := HI.out.keep hal (fun _ _ h => h)
          have hD : ∀ q, cv.ownBlock = some q → D q := HI.out.inC
          have hsz := HC2.out.size
          have hsz3 := hp3.size
          rw [size_alloc] at hsz
          have hall : Chg D w (w2.setCell ⟨p, 1, none⟩ (.slice ya (L.length + 1) yc)) := ((hal.mono (fun _ h => h.elim)).trans (HC2.out.mono fun q hq => hD q hq)).trans (hp3.mono fun q hq => hq ▸ HI.out.inP)
          have hCrow : (w2.setCell ⟨p, 1, none⟩ (.slice ya (L.length + 1) yc)).ownsRow 0 148 2 (.slice ya (L.length + 1) yc) (L.length + 1) (rwcells L ++ [.int .i64 i, .slice xa l.length xc]) := ownsRow_chg HO2.out hp3 (fun q hq e => at_ne_row HP2.out HO2.out (by decide) (e ▸ hq))
          have hXrow : w1.ownsRow 0 5 1 (.slice xa l.length xc) 128 (ucells l) := by
            have := ownsRow_lower0 HO1.out
            rw [HL.out] at this
            rw [HL.out]
            exact this
          have hXrow2 : (w2.setCell ⟨p, 1, none⟩ (.slice ya (L.length + 1) yc)).ownsRow 0 5 1 (.slice xa l.length xc) 128 (ucells l) := by
            have h1 := hXrow.alloc (.cells #[.int .i64 i, .slice xa l.length xc] 148)
            have h2 := ownsRow_chg h1 HC2.out (fun q hq e => row_ne_row h1 HIa.cache (by decide) e hq)
            exact ownsRow_chg h2 hp3 (fun q hq e => at_ne_row HP2.out h2 (by decide) (e ▸ hq))
          have hxlt : ∀ q, (Value.slice xa l.length xc).ownBlock = some q → w.heap.size ≤ q ∧ q < w1.heap.size := fun q hq => HO1.out.lt q hq
          have hylt : ∀ q, (Value.slice ya (L.length + 1) yc).ownBlock = some q → D q ∨ (w.heap.size ≤ q ∧ q < (w2.setCell ⟨p, 1, none⟩ (.slice ya (L.length + 1) yc)).heap.size) := fun q hq => by
            rcases HL2.out with e | e
            · rw [e] at hq; exact .inl (hD q hq)
            · rw [e] at hq
              obtain rfl := Option.some.inj hq
              exact .inr ⟨by rw [size_alloc]; omega, by rw [size_alloc]; have := (HO2.out.lt _ e).2; rw [size_alloc] at this; omega⟩
          refine ⟨rfl, fun q => D q ∨ (w.heap.size ≤ q ∧ q < (w2.setCell ⟨p, 1, none⟩ (.slice ya (L.length + 1) yc)).heap.size), ⟨lv, .slice ya (L.length + 1) yc, L ++ [(i, l, .slice xa l.length xc)], ?_⟩, fun q hq => ?_, hall⟩
          · have H := HI.out
            refine ⟨?_, ?_, ?_, ?_, ?_, .inl H.inP, fun q hq => .inl (H.inL q hq), hylt, ?_, ?_, H.len, ?_, ?_, H.few, H.some'⟩
            · have := HP2.out.set 1 (.slice ya (L.length + 1) yc)
              rw [hf] at this
              exact this
            · have h2 := ownsRow_chg HIa.last HC2.out (fun q hq e => row_ne_row HIa.last HIa.cache (by decide) e hq)
              exact ownsRow_chg h2 hp3 (fun q hq e => at_ne_row HP2.out h2 (by decide) (e ▸ hq))
            · rw [rwcells_snoc, List.length_append, List.length_singleton]
              exact hCrow
            · rw [wvs_snoc, ← H.eq]
            · intro x hx
              rcases List.mem_append.1 hx with hx | hx
              · have h1 := HIa.data x hx
                have h2 := ownsRow_chg h1 HC2.out (fun q hq e => row_ne_row h1 HIa.cache (by decide) e hq)
                exact ownsRow_chg h2 hp3 (fun q hq e => at_ne_row HP2.out h2 (by decide) (e ▸ hq))
              · rw [List.mem_singleton] at hx
                subst hx
                exact hXrow2
            · intro x hx q hq
              rcases List.mem_append.1 hx with hx | hx
              · exact .inl (H.inD x hx q hq)
              · rw [List.mem_singleton] at hx
                subst hx
                have := hxlt q hq
                exact .inr ⟨this.1, by omega⟩
            · intro q hq
              rcases hq with hq | hq
              · have := H.lt q hq
                exact Nat.lt_of_lt_of_le this hall.size
              · exact hq.2
            · intro x hx
              rcases List.mem_append.1 hx with hx | hx
              · exact H.clen x hx
              · rw [List.mem_singleton] at hx
                subst hx
                exact HL.out
            · intro x hx
              rcases List.mem_append.1 hx with hx | hx
              · exact H.cin x hx
              · rw [List.mem_singleton] at hx
                subst hx
                exact hi0
          · rcases hq with hq | hq
            · exact .inl hq
            · exact .inr hq.1
        · have hr : d.write (i : Int) l = (4, d) := by
            unfold Dsk.write
            rw [hmay, if_neg (by omega), if_pos hl]
          rw [hr]
          have hne : ((l.length : Int) != 128) = true := by simp; omega
          clear hr hl hmay
          go_enter Tryz.func73, Tryz.ntmps73
          go_wp2
          go_ret
          exact ⟨rfl, HSAME.out⟩
  · rw [hf] at c2
    have hr : d.write z l = (2, d) := by
      have hmay : d.may z = 2 := by unfold Dsk.may; rw [hf, if_pos rfl]
      unfold Dsk.write
      rw [hmay, if_pos (by omega)]
    rw [hr]
    clear hr
    go_enter Tryz.func73, Tryz.ntmps73
    go_wp2
    go_ret
    exact ⟨rfl, HSAME.out⟩

end Go.Proofs.YtleicmmbaacbmaaGreat
