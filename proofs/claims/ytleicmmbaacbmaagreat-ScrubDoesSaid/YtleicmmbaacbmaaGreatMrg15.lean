/- Several texts in one: RfJ, RfK. -/
import Derived.Test.YtleicmmbaacbmaaGreatRfI
import Derived.Test.YtleicmmbaacbmaaGreatMrg11
import Derived.Test.YtleicmmbaacbmaaGreatMrg9
import Derived.Test.YtleicmmbaacbmaaGreatMrg12
/- The document's scrub: the errors that all have. -/
set_option linter.unusedVariables false
namespace Go.Proofs.YtleicmmbaacbmaaGreat
open Go.RowKit

/-- A cell of trouble written, below everything old. -/
theorem trouble_below {w w1 : World} {B r : Nat} (hb : Below B w w1) (hr : B ≤ r) (x y : Value) : Below B w ((w1.setCell ⟨r, 0, none⟩ x).setCell ⟨r, 1, none⟩ y) :=
  (hb.setCell (p := ⟨r, 0, none⟩) hr x).setCell (p := ⟨r, 1, none⟩) hr y

theorem at_drewN {w : World} {g : Nat} {cs : Array Value} {t : TypeId} (h : At w g cs t) (n : Nat) : At (w.drewN n) g cs t := h.mod ((Chg.refl (fun _ => False) w).drewN n) (fun e => e)

set_option maxRecDepth 100000 in
set_option maxHeartbeats 4000000 in
theorem ref_first {w : World} {R : Nat → Prop} {b : Nat} {st : BaySt} (h : RBayAt w R b st) (m c s member row : Int) :
    Calls Tryz.prog 68 #[.pointer (some ⟨b, 0, none⟩), geo m c s, .int .i64 member, .int .i64 row] w fun e w' => e = .returned (.agg #[.int .i64 0, .int .u16 (mayCode st.n m c s member row)]) ∧ Below w.heap.size w w' := by
  obtain ⟨gs, cap, ptr, D, h⟩ := h
  have hk := Lib.hid (fun W => ref_check m c s W)
  have hr := Lib.hid (fun W => ref_rows m c s W)
  have hfew := h.few
  have hblt := h.bay.lt
  have e1 : (w.alloc (.cells #[.int .i64 m, .int .i64 c, .int .i64 s] 23)).heap.size = w.heap.size + 1 := size_alloc _ _
  have e2 : ((w.alloc (.cells #[.int .i64 m, .int .i64 c, .int .i64 s] 23)).alloc (.cells #[.int .i64 0, .int .u16 0] 72)).heap.size = w.heap.size + 2 := by rw [size_alloc, e1]
  have HB0 : Hid (Below w.heap.size w ((w.alloc (.cells #[.int .i64 m, .int .i64 c, .int .i64 s] 23)).alloc (.cells #[.int .i64 0, .int .u16 0] 72))) := ((Below.refl _ _).alloc (Nat.le_refl _) _).alloc (by omega) _
  have HA : Hid (At ((w.alloc (.cells #[.int .i64 m, .int .i64 c, .int .i64 s] 23)).alloc (.cells #[.int .i64 0, .int .u16 0] 72)) w.heap.size #[.int .i64 m, .int .i64 c, .int .i64 s] 23) := (At.new _ _ _).alloc _
  have HR : Hid (At ((w.alloc (.cells #[.int .i64 m, .int .i64 c, .int .i64 s] 23)).alloc (.cells #[.int .i64 0, .int .u16 0] 72)) (w.heap.size + 1) #[.int .i64 0, .int .u16 0] 72) := At.new2 _ _ _ _
  have HB : Hid (∀ W, Below w.heap.size w W → W.cell? ⟨b, 0, none⟩ = some (.slice (some ⟨gs, 0, none⟩) st.n cap)) := fun W hW => (h.bay.below hW hblt).cell 0
  clear h
  generalize st.n = n at *
  unfold mayCode geoCode geoRows at *
  cases hg : geoIs m c s
  · rw [hg] at hk
    simp only [if_false, Bool.false_eq_true] at *
    unfold geo at *
    go_enter Tryz.func68, Tryz.ntmps68
    go_wp2_with (go_at_call 17; (with_reducible refine (hk.out _).mono ?_); rintro e w1 ⟨rfl, hb1⟩; have hA1 := HA.out.below hb1 HA.out.lt; have hR1 := HR.out.below hb1 HR.out.lt; have c0 := hA1.cell 0; have c1 := hA1.cell 1; have c2 := hA1.cell 2; have hbb : Below w.heap.size w w1 := HB0.out.trans (hb1.mono (by rw [e2]; omega)); have b0 := HB.out _ hbb; have d0 := hR1.cell 0; have d1 := hR1.cell 1; have f0 := hR1.free 0; have f1 := hR1.free 1; have HR1 := Lib.hid hR1; have HBB := Lib.hid hbb; have HA1 := Lib.hid hA1; clear hA1 hR1 hb1 hbb)
    obtain ⟨r0, r1, hset⟩ := trouble_set HR1.out (.int .i64 0) (.int .u16 60)
    clear d0 d1 f0 f1
    (try simp only [Exit.inBlock, Exit.then])
    refine bodyPost_ret (v := .agg #[.int .i64 0, .int .u16 60]) ?_ rfl ⟨rfl, trouble_below HBB.out (by omega) _ _⟩
    · rw [results_cell rfl]
      go_simp
  · obtain ⟨hlo, hhi⟩ := geo_bounds hg
    obtain ⟨h1, h2, -⟩ := (geoIs_iff m c s).1 hg
    rw [hg] at hk hr
    simp only [if_true] at *
    unfold geo at *
    have HQ : Hid (∀ W : World, W.heap.size = W.heap.size) := fun _ => rfl
    by_cases hn : (n : Int) = m + 1
    · rw [if_pos hn]
      have hn' : ((n : Int) != (m + 1)) = false := by simp [hn]
      generalize s * c = q at *
      clear hn
      by_cases hin : 0 ≤ member ∧ member < m ∧ 0 ≤ row ∧ row < q
      · rw [if_pos hin]
        obtain ⟨i1, i2, i3, i4⟩ := hin
        go_enter Tryz.func68, Tryz.ntmps68
        go_wp2_with (go_at_call 17; (with_reducible refine (hk.out _).mono ?_); rintro e w1 ⟨rfl, hb1⟩; have hA1 := HA.out.below hb1 HA.out.lt; have hR1 := HR.out.below hb1 HR.out.lt; have c0 := hA1.cell 0; have c1 := hA1.cell 1; have c2 := hA1.cell 2; have hbb : Below w.heap.size w w1 := HB0.out.trans (hb1.mono (by rw [e2]; omega)); have b0 := HB.out _ hbb; have d0 := hR1.cell 0; have d1 := hR1.cell 1; have f0 := hR1.free 0; have f1 := hR1.free 1; have HR1 := Lib.hid hR1; have HBB := Lib.hid hbb; have HA1 := Lib.hid hA1; clear hA1 hR1 hb1 hbb)
        go_quiet (fail)
        go_wp2_with (go_at_call 18; (with_reducible refine (hr.out _).mono ?_); rintro e w2 ⟨rfl, hb2⟩; have hR2 := (at_drewN HR1.out _).below hb2 (at_drewN HR1.out _).lt; have HR2 := Lib.hid hR2; have HB2 := Lib.hid (below_then (below_drewN HBB.out _) hb2); clear hb2 d0 d1 f0 f1 c0 c1 c2 b0; have d0 := hR2.cell 0; have d1 := hR2.cell 1; have f0 := hR2.free 0; have f1 := hR2.free 1; clear hR2)
        obtain ⟨r0, r1, hset⟩ := trouble_set HR2.out (.int .i64 0) (.int .u16 0)
        clear d0 d1 f0 f1
        (try simp only [Exit.inBlock, Exit.then])
        refine bodyPost_ret (v := .agg #[.int .i64 0, .int .u16 0]) ?_ rfl ⟨rfl, trouble_below HB2.out (by omega) _ _⟩
        · rw [results_cell rfl]
          go_simp
      · rw [if_neg hin]
        have hin' : (0 ≤ member ∧ member < m ∧ 0 ≤ row ∧ q ≤ row) ∨ member < 0 ∨ (0 ≤ member ∧ m ≤ member) ∨ (0 ≤ member ∧ member < m ∧ row < 0) := by omega
        clear hin
        rcases hin' with ⟨i1, i2, i3, i4⟩ | hin'
        · go_enter Tryz.func68, Tryz.ntmps68
          go_wp2_with (go_at_call 17; (with_reducible refine (hk.out _).mono ?_); rintro e w1 ⟨rfl, hb1⟩; have hA1 := HA.out.below hb1 HA.out.lt; have hR1 := HR.out.below hb1 HR.out.lt; have c0 := hA1.cell 0; have c1 := hA1.cell 1; have c2 := hA1.cell 2; have hbb : Below w.heap.size w w1 := HB0.out.trans (hb1.mono (by rw [e2]; omega)); have b0 := HB.out _ hbb; have d0 := hR1.cell 0; have d1 := hR1.cell 1; have f0 := hR1.free 0; have f1 := hR1.free 1; have HR1 := Lib.hid hR1; have HBB := Lib.hid hbb; have HA1 := Lib.hid hA1; clear hA1 hR1 hb1 hbb)
          go_quiet (fail)
          go_wp2_with (go_at_call 18; (with_reducible refine (hr.out _).mono ?_); rintro e w2 ⟨rfl, hb2⟩; have hR2 := (at_drewN HR1.out _).below hb2 (at_drewN HR1.out _).lt; have HR2 := Lib.hid hR2; have HB2 := Lib.hid (below_then (below_drewN HBB.out _) hb2); clear hb2 d0 d1 f0 f1 c0 c1 c2 b0; have d0 := hR2.cell 0; have d1 := hR2.cell 1; have f0 := hR2.free 0; have f1 := hR2.free 1; clear hR2)
          obtain ⟨r0, r1, hset⟩ := trouble_set HR2.out (.int .i64 0) (.int .u16 3)
          clear d0 d1 f0 f1
          (try simp only [Exit.inBlock, Exit.then])
          refine bodyPost_ret (v := .agg #[.int .i64 0, .int .u16 3]) ?_ rfl ⟨rfl, trouble_below HB2.out (by omega) _ _⟩
          · rw [results_cell rfl]
            go_simp
        · rcases hin' with i1 | ⟨i1, i2⟩ | ⟨i1, i2, i3⟩
          all_goals
            go_enter Tryz.func68, Tryz.ntmps68
            go_wp2_with (go_at_call 17; (with_reducible refine (hk.out _).mono ?_); rintro e w1 ⟨rfl, hb1⟩; have hA1 := HA.out.below hb1 HA.out.lt; have hR1 := HR.out.below hb1 HR.out.lt; have c0 := hA1.cell 0; have c1 := hA1.cell 1; have c2 := hA1.cell 2; have hbb : Below w.heap.size w w1 := HB0.out.trans (hb1.mono (by rw [e2]; omega)); have b0 := HB.out _ hbb; have d0 := hR1.cell 0; have d1 := hR1.cell 1; have f0 := hR1.free 0; have f1 := hR1.free 1; have HR1 := Lib.hid hR1; have HBB := Lib.hid hbb; have HA1 := Lib.hid hA1; clear hA1 hR1 hb1 hbb)
            go_quiet (fail)
            go_wp2
            obtain ⟨r0, r1, hset⟩ := trouble_set (at_drewN HR1.out nq) (.int .i64 0) (.int .u16 3)
            clear d0 d1 f0 f1
            (try simp only [Exit.inBlock, Exit.then])
            refine bodyPost_ret (v := .agg #[.int .i64 0, .int .u16 3]) ?_ rfl ⟨rfl, trouble_below (below_drewN HBB.out nq) (by omega) _ _⟩
            · rw [results_cell rfl]
              go_simp
    · rw [if_neg hn]
      have hn' : ((n : Int) != (m + 1)) = true := by simp [hn]
      clear hn
      go_enter Tryz.func68, Tryz.ntmps68
      go_wp2_with (go_at_call 17; (with_reducible refine (hk.out _).mono ?_); rintro e w1 ⟨rfl, hb1⟩; have hA1 := HA.out.below hb1 HA.out.lt; have hR1 := HR.out.below hb1 HR.out.lt; have c0 := hA1.cell 0; have c1 := hA1.cell 1; have c2 := hA1.cell 2; have hbb : Below w.heap.size w w1 := HB0.out.trans (hb1.mono (by rw [e2]; omega)); have b0 := HB.out _ hbb; have d0 := hR1.cell 0; have d1 := hR1.cell 1; have f0 := hR1.free 0; have f1 := hR1.free 1; have HR1 := Lib.hid hR1; have HBB := Lib.hid hbb; have HA1 := Lib.hid hA1; clear hA1 hR1 hb1 hbb)
      go_quiet (fail)
      go_wp2
      obtain ⟨r0, r1, hset⟩ := trouble_set (at_drewN HR1.out nq) (.int .i64 0) (.int .u16 1)
      clear d0 d1 f0 f1
      (try simp only [Exit.inBlock, Exit.then])
      refine bodyPost_ret (v := .agg #[.int .i64 0, .int .u16 1]) ?_ rfl ⟨rfl, trouble_below (below_drewN HBB.out nq) (by omega) _ _⟩
      · rw [results_cell rfl]
        go_simp

end Go.Proofs.YtleicmmbaacbmaaGreat

/- The document's scrub: the sum of a row's sectors. -/
set_option linter.unusedVariables false
namespace Go.Proofs.YtleicmmbaacbmaaGreat
open Go.RowKit

theorem own_ufn {w : World} {g B : Nat} {f : Nat → UInt8} (h : At w g (ufn f 128) 5) (hB : B ≤ g) : w.ownsRow B 5 1 (.slice (some ⟨g, 0, none⟩) 128 128) 128 (ucells (sumL f 128)) := by
  rw [ufn_ucells] at h
  have hl : (sumL f 128).length = 128 := sumL_length _ _
  refine ⟨by rw [ucells_length, hl], .inr ⟨g, 128, (ucells (sumL f 128)).toArray, rfl, hB, h, Nat.le_refl _, by decide, by simp [ucells_length, hl], ?_⟩⟩
  rw [List.take_of_length_le (by rw [ucells_length]; omega)]

/-- Where the sum stands behind some members. -/
structure RSumAt (w : World) (R : Nat → Prop) (c : Nat) (M C S : Int) (s : BaySt) (f : Nat → UInt8) (wx : World) : Prop where
  bay : ∃ R', RBayAt wx R' c s ∧ (∀ q, R' q → R q ∨ w.heap.size + 3 ≤ q)
  out : At wx (w.heap.size + 2) (ufn f 128) 5
  box : At wx w.heap.size #[.int .i64 M, .int .i64 C, .int .i64 S] 23
  res : At wx (w.heap.size + 1) #[.int .i64 0, .int .u16 0] 72
  chg : Chg R w wx

/-- .. an operation of the bay. -/
theorem RSumAt.then {w wx w2 : World} {R R' : Nat → Prop} {c : Nat} {M C S : Int} {s s2 : BaySt} {f : Nat → UInt8} (h : RSumAt w R c M C S s f wx) (hlt : ∀ q, R q → q < w.heap.size) (hR : ∀ q, R' q → R q ∨ w.heap.size + 3 ≤ q) (hp : RBPost wx R' c s2 w2) : RSumAt w R c M C S s2 f w2 := by
  obtain ⟨R2, k1, k2, k3⟩ := hp
  have hs := h.out.lt
  have hno : ∀ q, q < w.heap.size + 3 → w.heap.size ≤ q → ¬ R' q := fun q h1 h2 h3 => by
    rcases hR q h3 with e | e
    · have := hlt q e; omega
    · omega
  refine ⟨⟨R2, k1, fun q hq => ?_⟩, h.out.mod k3 (hno _ (by omega) (by omega)), h.box.mod k3 (hno _ (by omega) (by omega)), h.res.mod k3 (hno _ (by omega) (by omega)), chg_and h.chg k3 (fun q hq e => (hR q e).resolve_right (by omega))⟩
  rcases k2 q hq with e | e
  · exact hR q e
  · exact .inr (by omega)

/-- .. a byte of the sum. -/
theorem RSumAt.byte {w wx : World} {R : Nat → Prop} {c : Nat} {M C S : Int} {s : BaySt} {f g : Nat → UInt8} (h : RSumAt w R c M C S s f wx) (hlt : ∀ q, R q → q < w.heap.size) (k : Nat) (x : UInt8) (hg : ∀ i, i < 128 → g i = if i = k then x else f i) :
    RSumAt w R c M C S s g (wx.setCell ⟨w.heap.size + 2, k, none⟩ (.int .u8 ((x.toNat : Nat) : Int))) ∧ Chg (fun q => q = w.heap.size + 2) wx (wx.setCell ⟨w.heap.size + 2, k, none⟩ (.int .u8 ((x.toNat : Nat) : Int))) := by
  have hset : Chg (fun q => q = w.heap.size + 2) wx (wx.setCell ⟨w.heap.size + 2, k, none⟩ (.int .u8 ((x.toNat : Nat) : Int))) := Chg.setCell (S := fun q => q = w.heap.size + 2) (Chg.refl _ _) ⟨w.heap.size + 2, k, none⟩ (.inl rfl) _
  refine ⟨?_, hset⟩
  obtain ⟨R', k1, k2⟩ := h.bay
  refine ⟨⟨R', k1.keep hset (fun q hq e => ?_), k2⟩, ?_, h.box.mod hset (by omega), h.res.mod hset (by omega), chg_and h.chg hset (fun q hq e => by omega)⟩
  · rcases k2 q hq with e' | e'
    · have := hlt q e'; omega
    · omega
  · rw [← ufn_set f g 128 k x hg]
    exact h.out.set k _

theorem RSumAt.ext {w wx : World} {R : Nat → Prop} {c : Nat} {M C S : Int} {s : BaySt} {f g : Nat → UInt8} (h : RSumAt w R c M C S s f wx) (hg : ∀ i, i < 128 → g i = f i) : RSumAt w R c M C S s g wx :=
  ⟨h.bay, by rw [ufn_eq hg]; exact h.out, h.box, h.res, h.chg⟩
theorem RSumAt.drew {w wx : World} {R : Nat → Prop} {c : Nat} {M C S : Int} {s : BaySt} {f : Nat → UInt8} (h : RSumAt w R c M C S s f wx) : RSumAt w R c M C S s f wx.drew := by
  have hc : Chg (fun _ => False) wx wx.drew := (Chg.refl _ _).drew
  obtain ⟨R', k1, k2⟩ := h.bay
  exact ⟨⟨R', k1.keep hc (fun _ _ e => e), k2⟩, h.out.mod hc (fun e => e), h.box.mod hc (fun e => e), h.res.mod hc (fun e => e), h.chg.trans (hc.mono fun _ e => e.elim)⟩
/-- As RBPost; v's block is none of the bay's. -/
def RBPostV (w : World) (R : Nat → Prop) (c : Nat) (s' : BaySt) (v : Value) (w' : World) : Prop :=
  ∃ R', RBayAt w' R' c s' ∧ (∀ q, R' q → R q ∨ w.heap.size ≤ q) ∧ Chg R w w' ∧ ∀ g, v.ownBlock = some g → ¬ R' g
theorem RBPostV.post {w w' : World} {R : Nat → Prop} {c : Nat} {s' : BaySt} {v : Value} (h : RBPostV w R c s' v w') : RBPost w R c s' w' := by
  obtain ⟨R', k1, k2, k3, -⟩ := h
  exact ⟨R', k1, k2, k3⟩
/-- .. its end: trouble is written down. -/
theorem RSumAt.post {w wx w2 : World} {R : Nat → Prop} {c : Nat} {M C S : Int} {s : BaySt} {f : Nat → UInt8} (h : RSumAt w R c M C S s f wx) (hlt : ∀ q, R q → q < w.heap.size) (hs : Chg (fun q => q = w.heap.size + 1) wx w2) : (∀ v : Value, (∀ g, v.ownBlock = some g → g = w.heap.size + 2) → RBPostV w R c s v w2) ∧ At w2 (w.heap.size + 2) (ufn f 128) 5 := by
  obtain ⟨R', k1, k2⟩ := h.bay
  refine ⟨fun v hv => ⟨R', k1.keep hs (fun q hq e => ?_), fun q hq => (k2 q hq).imp id (fun e => by omega), chg_and h.chg hs (fun q hq e => by omega), fun g hg e => ?_⟩, h.out.mod hs (by omega)⟩
  · rcases k2 q hq with e' | e'
    · have := hlt q e'; omega
    · omega
  · have := hv g hg
    rcases k2 g e with e' | e'
    · have := hlt g e'; omega
    · omega

set_option maxRecDepth 100000 in
set_option maxHeartbeats 8000000 in
theorem ref_sumV {w : World} {R : Nat → Prop} {b : Nat} {st : BaySt} (h : RBayAt w R b st) (M : Nat) (c s : Int) (row : Nat) (but : Int)
    (hM : M ≤ 16) (hrow : row ≤ 4096) (hcnt : st.cnt 0 ≤ 999999000000) :
    Calls Tryz.prog 69 #[.pointer (some ⟨b, 0, none⟩), geo M c s, .int .i64 row, .int .i64 but] w fun e w' =>
      ∃ v, e = .returned (.tuple #[v, trVal (st.hand (1 + row) but M).t]) ∧ lostVal (st.hand (1 + row) but M) v w' w.heap.size ∧ RBPostV w R b (st.hand (1 + row) but M).s v w' := by
  have hlt := h.lt
  have HLT := Lib.hid hlt
  have e1 : (w.alloc (.cells #[.int .i64 M, .int .i64 c, .int .i64 s] 23)).heap.size = w.heap.size + 1 := size_alloc _ _
  have e2 : ((w.alloc (.cells #[.int .i64 M, .int .i64 c, .int .i64 s] 23)).alloc (.cells #[.int .i64 0, .int .u16 0] 72)).heap.size = w.heap.size + 2 := by rw [size_alloc, e1]
  have hc2 : Chg (fun _ => False) w ((w.alloc (.cells #[.int .i64 M, .int .i64 c, .int .i64 s] 23)).alloc (.cells #[.int .i64 0, .int .u16 0] 72)) := ((Chg.refl _ _).alloc _).alloc _
  have HST : Hid (∀ W, At W (w.heap.size + 2) (ufn (fun _ => 0) 128) 5 → Below (w.heap.size + 2) ((w.alloc (.cells #[.int .i64 M, .int .i64 c, .int .i64 s] 23)).alloc (.cells #[.int .i64 0, .int .u16 0] 72)) W → RSumAt w R b M c s st (fun _ => 0) W) := fun W h1 h2 => by
    have hb := h2
    rw [← e2] at hb
    have hch := hc2.trans (Chg.ofBelow hb (fun _ => False))
    refine ⟨⟨R, h.keep hch (fun _ _ e => e), fun q hq => .inl hq⟩, h1, ((At.new _ _ _).alloc _).below hb (by rw [e2]; omega), (At.new2 _ _ _ _).below hb (by rw [e2]; omega), hch.mono (fun _ e => e.elim)⟩
  have HCN := Lib.hid hcnt
  clear h hc2 hcnt hlt
  unfold geo
  go_enter Tryz.func69, Tryz.ntmps69
  go_wp2_with (refine wpList_make_same rfl _ _ 53 5 1 1 rfl slice_bytes (.int .u8 0) (by kernel_rfl) _ _ _ _ 128 rfl rfl rfl rfl (by omega) (by unfold maxLen; omega) ?_; intro w1 a1 b1; have HA1 : Hid (RSumAt w R b M c s st (fun _ => 0) w1) := by { have ee : (List.replicate (128 * 1) (Value.int .u8 0)).toArray = ufn (fun _ => 0) 128 := by { apply Array.ext_getElem?; intro i; simp only [ufn, List.getElem?_toArray, Nat.mul_one, List.getElem?_replicate, List.getElem?_map, List.getElem?_range]; by_cases hi : i < 128 <;> simp [hi] }; rw [ee, e2] at a1; rw [e2] at b1; exact HST.out _ a1 b1 }; clear a1 b1)
  go_loopw [11, 12, 13, 14] (fun q _ _ _ wx => ∃ k : Nat, k ≤ M ∧ q = .int .i64 k ∧ (st.hand (1 + row) but k).t = none ∧ RSumAt w R b M c s (st.hand (1 + row) but k).s (st.hand (1 + row) but k).f wx) (fun q _ _ _ _ => M - (intOf q).toNat)
  case atStart => exact ⟨0, by omega, rfl, rfl, HA1.out⟩
  case round =>
    obtain ⟨k, hk, rfl, hnone, hE⟩ := hrel
    have HN := Lib.hid hnone
    have HE := Lib.hid hE
    have x0 := hE.box.cell 0
    clear hnone hE
    by_cases hkM : k < M
    · have K1 : Hid (k + 1 ≤ M) := hkM
      by_cases hb : (k : Int) = but
      · subst hb
        go_wp2
        go_roundw
        case rel =>
          refine ⟨k + 1, K1.out, by go_num, ?_, ?_⟩
          · rw [hand_but _ _ _ _ rfl]; exact HN.out
          · rw [hand_but _ _ _ _ rfl]; exact HE.out
        case measure => simp [intOf]; have := K1.out; omega
      · have hrd := hand_reads st (1 + row) but k
        obtain ⟨R', hbay, hR'⟩ := HE.out.bay
        have HR' := Lib.hid hR'
        have hread := rbay_read hbay k (1 + row) (by have := hrd.hi; have := HCN.out; omega)
        have hb' : ((k : Int) == but) = false := by simp [hb]
        by_cases hc : ((st.hand (1 + row) but k).s.read k (1 + row)).1 = 0
        · obtain ⟨x, hx⟩ := (read_code _ _ _).1.1 hc
          have hok := Lib.hid (hand_ok st (1 + row) but k HN.out hb x hx)
          have hread' : Hid (Calls Tryz.prog 99 #[.pointer (some ⟨b, 0, none⟩), .int .i64 (k : Int), .int .i64 (1 + (row : Int))] wr fun e w' => ∃ v, e = .returned (.tuple #[v, .int .u16 0]) ∧ RSumAt w R b M c s (st.hand (1 + row) but (k + 1)).s (st.hand (1 + row) but k).f w' ∧ w'.ownsRow wr.heap.size 5 1 v 128 (ucells x)) := by
            refine Lib.hid (hread.mono fun e w' ⟨v, h1, h2, h3, h4⟩ => ⟨v, ?_, ?_, h3 x hx⟩)
            · rw [h1, hc]; try rfl
            · rw [hok.out]
              exact HE.out.then HLT.out HR'.out h2
          have HSZ : Hid (w.heap.size + 3 ≤ wr.heap.size) := by have := HE.out.out.lt; exact this
          clear hread hrd hbay hR' hb
          obtain ⟨wo, rfl⟩ : ∃ wo : World, wo = wr := ⟨_, rfl⟩
          go_wp2_with (first
            | (go_at_call 99; (with_reducible refine hread'.out.mono ?_); rintro e w1 ⟨v, rfl, hS1, hown⟩; obtain ⟨gv, cv, rfl, hgv, hgl⟩ := ownsRow_full hown (by omega); have HS1 := Lib.hid hS1; have HO := Lib.hid hown; clear hS1 hown x0))
          go_loopw [14] (fun q wx => ∃ j : Nat, j ≤ 128 ∧ q = .int .i64 j ∧ RSumAt w R b M c s (st.hand (1 + row) but (k + 1)).s (fun i => if i < j then (st.hand (1 + row) but k).f i ^^^ x.getD i 0 else (st.hand (1 + row) but k).f i) wx ∧ wx.ownsRow wo.heap.size 5 1 (.slice (some ⟨gv, 0, none⟩) 128 cv) 128 (ucells x)) (fun q _ => 128 - (intOf q).toNat)
          case atStart =>
            refine ⟨0, by omega, rfl, ?_, HO.out⟩
            have e : (fun i => if i < 0 then (st.hand (1 + row) but k).f i ^^^ x.getD i 0 else (st.hand (1 + row) but k).f i) = (st.hand (1 + row) but k).f := by funext i; rw [if_neg (by omega)]
            rw [e]
            exact HS1.out
          case round =>
            obtain ⟨j, hj, rfl, hs, hown⟩ := hrel
            have HS := Lib.hid hs
            have HOW := Lib.hid hown
            have hxl : x.length = 128 := by have := hown.1; rw [ucells_length] at this; omega
            by_cases hj2 : j < 128
            · have J1 : Hid (j + 1 ≤ 128) := hj2
              obtain ⟨y, hy⟩ : ∃ y, y = x[j]'(by omega) := ⟨_, rfl⟩
              have HY : Hid (x.getD j 0 = y) := by show _ = _; rw [hy, List.getD_eq_getElem?_getD, List.getElem?_eq_getElem (by omega)]; rfl
              have d0 : wr.cell? ⟨gv, j, none⟩ = some (.int .u8 ((y.toNat : Nat) : Int)) := by
                have := hown.cellAt j (by omega)
                rw [this, hy]
                simp [ucells, hxl, hj2]
              have f0 := hs.out.free j
              have x0 : wr.cell? ⟨w.heap.size + 2, j, none⟩ = some (.int .u8 ((((st.hand (1 + row) but k).f j).toNat : Nat) : Int)) := by
                rw [hs.out.cell, ufn_at _ _ _ hj2, if_neg (by omega)]
              have hgne : gv ≠ w.heap.size + 2 := by have := HSZ.out; omega
              have HGN := Lib.hid hgne
              generalize (st.hand (1 + row) but k).f = F at *
              clear hs hown hy
              go_wp2
              go_region
              go_wp2
              rw [bits_xor8]
              obtain ⟨q1, q2⟩ := HS.out.byte HLT.out j (F j ^^^ y) (g := fun i => if i < j + 1 then F i ^^^ x.getD i 0 else F i) (fun i hi => by
                show (if i < j + 1 then F i ^^^ x.getD i 0 else F i) = if i = j then F j ^^^ y else (if i < j then F i ^^^ x.getD i 0 else F i)
                by_cases e : i = j
                · subst e; rw [if_pos (by omega), if_pos rfl, HY.out]
                · rw [if_neg e]
                  by_cases e2 : i < j
                  · rw [if_pos (by omega), if_pos e2]
                  · rw [if_neg (by omega), if_neg e2])
              go_roundw
              case rel =>
                refine ⟨j + 1, J1.out, by go_num, q1.drew, ?_⟩
                exact ownsRow_chg HOW.out (q2.trans ((Chg.refl _ _).drew)) (fun q hq e => by simp only [Value.ownBlock, Option.some.injEq] at hq; exact HGN.out (hq.trans e))
              case measure => simp [intOf]; have := J1.out; omega
            · obtain rfl : j = 128 := by omega
              clear hs hown
              go_wp2
              go_roundw
              case rel =>
                refine ⟨k + 1, K1.out, by go_num, by rw [hok.out], ?_⟩
                have h1 := HS.out.ext (g := fun i => (st.hand (1 + row) but k).f i ^^^ x.getD i 0) (fun i hi => by rw [if_pos hi])
                rw [hok.out] at h1 ⊢
                exact h1
              case measure => simp [intOf]; have := K1.out; omega
        · have hok := Lib.hid (hand_bad st (1 + row) but k HN.out hb hc)
          have hcode := Lib.hid (hand_code st (1 + row) but (k + 1))
          have hst := Lib.hid (hand_stop st (1 + row) but (k + 1) (by rw [hok.out]; simp) M hkM)
          generalize hcd : ((st.hand (1 + row) but k).s.read k (1 + row)).1 = cd at *
          have hcd1 : ((cd : Int) == 0) = false := by simp; exact hc
          have hcd2 : ((cd : Int) != 0) = true := by simp; exact hc
          have hread' : Hid (Calls Tryz.prog 99 #[.pointer (some ⟨b, 0, none⟩), .int .i64 (k : Int), .int .i64 (1 + (row : Int))] wr fun e w' => ∃ v, e = .returned (.tuple #[v, .int .u16 (cd : Int)]) ∧ RSumAt w R b M c s (st.hand (1 + row) but (k + 1)).s (st.hand (1 + row) but k).f w') := by
            refine Lib.hid (hread.mono fun e w' ⟨v, h1, h2, h3, h4⟩ => ⟨v, ?_, ?_⟩)
            · rw [h1, hcd]
            · rw [hok.out]
              exact HE.out.then HLT.out HR'.out h2
          clear hread hrd hbay hR' hb
          go_wp2_with (first
            | (go_at_call 99; (with_reducible refine hread'.out.mono ?_); rintro e w1 ⟨v, rfl, hS1⟩; have d0 := hS1.res.cell 0; have d1 := hS1.res.cell 1; have f0 := hS1.res.free 0; have f1 := hS1.res.free 1; have HS1 := Lib.hid hS1; clear hS1 x0))
          obtain ⟨r0, r1, hset⟩ := trouble_set HS1.out.res (.int .i64 (k : Int)) (.int .u16 (cd : Int))
          clear d0 d1 f0 f1
          (try simp only [Exit.inBlock, Exit.then])
          refine bodyPost_ret (v := .tuple #[.slice none 0 0, trVal (some (k, cd))]) ?_ rfl ⟨.slice none 0 0, ?_, ?_, ?_⟩
          · rw [results_tmp_cell rfl]
            go_simp
            rfl
          · rw [hst.out, hok.out]
          · rw [hst.out, hok.out]
            exact ⟨fun e => by simp at e, fun _ => rfl⟩
          · have h1 := (HS1.out.post HLT.out hset).1 (.slice none 0 0) (fun g hg => by simp [Value.ownBlock] at hg)
            rw [hst.out]
            exact h1
    · obtain rfl : k = M := by omega
      have d0 := HE.out.res.cell 0
      have d1 := HE.out.res.cell 1
      have f0 := HE.out.res.free 0
      have f1 := HE.out.res.free 1
      obtain ⟨r0, r1, hset⟩ := trouble_set HE.out.res (.int .i64 0) (.int .u16 0)
      go_wp2
      clear d0 d1 f0 f1
      (try simp only [Exit.inBlock, Exit.then])
      obtain ⟨p1, p2⟩ := HE.out.post HLT.out hset
      refine bodyPost_ret (v := .tuple #[.slice (some ⟨w.heap.size + 2, 0, none⟩) 128 128, trVal none]) ?_ rfl ⟨.slice (some ⟨w.heap.size + 2, 0, none⟩) 128 128, ?_, ?_, p1 _ (fun g hg => by simp only [Value.ownBlock, Option.some.injEq] at hg; exact hg.symm)⟩
      · rw [results_tmp_cell rfl]
        go_simp
        rfl
      · rw [HN.out]
      · exact ⟨fun _ => own_ufn p2 (by omega), fun e => absurd HN.out e⟩

theorem ref_sum {w : World} {R : Nat → Prop} {b : Nat} {st : BaySt} (h : RBayAt w R b st) (M : Nat) (c s : Int) (row : Nat) (but : Int)
    (hM : M ≤ 16) (hrow : row ≤ 4096) (hcnt : st.cnt 0 ≤ 999999000000) :
    Calls Tryz.prog 69 #[.pointer (some ⟨b, 0, none⟩), geo M c s, .int .i64 row, .int .i64 but] w fun e w' =>
      ∃ v, e = .returned (.tuple #[v, trVal (st.hand (1 + row) but M).t]) ∧ lostVal (st.hand (1 + row) but M) v w' w.heap.size ∧ RBPost w R b (st.hand (1 + row) but M).s w' :=
  (ref_sumV h M c s row but hM hrow hcnt).mono fun e w' ⟨v, h1, h2, h3⟩ => ⟨v, h1, h2, h3.post⟩

end Go.Proofs.YtleicmmbaacbmaaGreat
