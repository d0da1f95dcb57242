/- Scrub: where there is no such row or member. -/
import Derived.Test.YtleicmmbaacbmaaGreatMrg15
import Derived.Test.YtleicmmbaacbmaaGreatMrg16
import Derived.Test.YtleicmmbaacbmaaGreatScrF
set_option linter.unusedVariables false
namespace Go.Proofs.YtleicmmbaacbmaaGreat
open Go.RowKit

set_option maxRecDepth 100000 in
set_option maxHeartbeats 4000000 in
theorem scrub_rows_no {w : World} {T : Nat → Nat} {b : Nat} {st : BaySt} (h : BayAt w T b st) (m c s : Int) (cd : Int) (hcd : mayCode st.n m c s 0 0 = cd) (h0 : cd ≠ 0) :
    Calls Tryz.prog 21 #[.pointer (some ⟨b, 0, none⟩), geo m c s] w fun e w' =>
      e = .returned (.tuple #[.slice none 0 0, .agg #[.int .i64 0, .int .u16 cd]]) ∧ Below w.heap.size w w' := by
  have HF : Hid (∀ W, Below w.heap.size w W → Calls Tryz.prog 61 #[.pointer (some ⟨b, 0, none⟩), geo m c s, .int .i64 0, .int .i64 0] W fun e w' => e = .returned (.int .u16 cd) ∧ Below W.heap.size W w') := fun W hW => by
    have := scrub_may (h.below hW) m c s 0 0
    rw [hcd] at this
    exact this
  have e1 : (w.alloc (ObjG m c s)).heap.size = w.heap.size + 1 := size_alloc _ _
  have e2 : ((w.alloc (ObjG m c s)).alloc (ObjT 0 0)).heap.size = w.heap.size + 2 := by rw [size_alloc, e1]
  have HB0 : Hid (Below w.heap.size w ((w.alloc (ObjG m c s)).alloc (ObjT 0 0))) := ((Below.refl _ _).alloc (Nat.le_refl _) _).alloc (by omega) _
  have HA : Hid (At ((w.alloc (ObjG m c s)).alloc (ObjT 0 0)) w.heap.size #[.int .i64 m, .int .i64 c, .int .i64 s] 23) := (At.new _ _ _).alloc _
  have HR : Hid (At ((w.alloc (ObjG m c s)).alloc (ObjT 0 0)) (w.heap.size + 1) #[.int .i64 0, .int .u16 0] 72) := At.new2 _ _ _ _
  have x0 := HA.out.cell 0
  have x1 := HA.out.cell 1
  have x2 := HA.out.cell 2
  have hne : (cd != 0) = true := by simp [h0]
  clear h hcd
  unfold ObjG ObjT geo at *
  go_enter Tryz.func21, Tryz.ntmps21
  go_wp2_with (first
    | (go_at_call 61; (with_reducible refine (HF.out _ HB0.out).mono ?_); rintro e w1 ⟨rfl, hb1⟩; have hR1 := HR.out.below hb1 HR.out.lt; have d0 := hR1.cell 0; have d1 := hR1.cell 1; have f0 := hR1.free 0; have f1 := hR1.free 1; have HB1 : Hid (Below w.heap.size w w1) := (HB0.out.trans (hb1.mono (by rw [e2]; omega))); have HR1 := Lib.hid hR1; clear hb1 hR1 x0 x1 x2))
  obtain ⟨r0, r1, hset⟩ := trouble_set HR1.out (.int .i64 0) (.int .u16 cd)
  clear d0 d1 f0 f1
  (try simp only [Exit.inBlock, Exit.then])
  refine bodyPost_ret (v := .tuple #[.slice none 0 0, .agg #[.int .i64 0, .int .u16 cd]]) ?_ rfl ⟨rfl, (trouble_below HB1.out (by omega) _ _)⟩
  rw [results_tmp_cell rfl]
  go_simp

set_option maxRecDepth 100000 in
set_option maxHeartbeats 4000000 in
theorem scrub_lost_no {w : World} {T : Nat → Nat} {b : Nat} {st : BaySt} (h : BayAt w T b st) (m c s mem row : Int) (cd : Int) (hcd : mayCode st.n m c s mem row = cd) (h0 : cd ≠ 0) :
    Calls Tryz.prog 22 #[.pointer (some ⟨b, 0, none⟩), geo m c s, .int .i64 mem, .int .i64 row] w fun e w' =>
      e = .returned (.tuple #[.slice none 0 0, .agg #[.int .i64 0, .int .u16 cd]]) ∧ Below w.heap.size w w' := by
  have HF : Hid (∀ W, Below w.heap.size w W → Calls Tryz.prog 61 #[.pointer (some ⟨b, 0, none⟩), geo m c s, .int .i64 mem, .int .i64 row] W fun e w' => e = .returned (.int .u16 cd) ∧ Below W.heap.size W w') := fun W hW => by
    have := scrub_may (h.below hW) m c s mem row
    rw [hcd] at this
    exact this
  have e1 : (w.alloc (ObjG m c s)).heap.size = w.heap.size + 1 := size_alloc _ _
  have e2 : ((w.alloc (ObjG m c s)).alloc (ObjT 0 0)).heap.size = w.heap.size + 2 := by rw [size_alloc, e1]
  have HB0 : Hid (Below w.heap.size w ((w.alloc (ObjG m c s)).alloc (ObjT 0 0))) := ((Below.refl _ _).alloc (Nat.le_refl _) _).alloc (by omega) _
  have HA : Hid (At ((w.alloc (ObjG m c s)).alloc (ObjT 0 0)) w.heap.size #[.int .i64 m, .int .i64 c, .int .i64 s] 23) := (At.new _ _ _).alloc _
  have HR : Hid (At ((w.alloc (ObjG m c s)).alloc (ObjT 0 0)) (w.heap.size + 1) #[.int .i64 0, .int .u16 0] 72) := At.new2 _ _ _ _
  have x0 := HA.out.cell 0
  have x1 := HA.out.cell 1
  have x2 := HA.out.cell 2
  have hne : (cd != 0) = true := by simp [h0]
  clear h hcd
  unfold ObjG ObjT geo at *
  go_enter Tryz.func22, Tryz.ntmps22
  go_wp2_with (first
    | (go_at_call 61; (with_reducible refine (HF.out _ HB0.out).mono ?_); rintro e w1 ⟨rfl, hb1⟩; have hR1 := HR.out.below hb1 HR.out.lt; have d0 := hR1.cell 0; have d1 := hR1.cell 1; have f0 := hR1.free 0; have f1 := hR1.free 1; have HB1 : Hid (Below w.heap.size w w1) := (HB0.out.trans (hb1.mono (by rw [e2]; omega))); have HR1 := Lib.hid hR1; clear hb1 hR1 x0 x1 x2))
  obtain ⟨r0, r1, hset⟩ := trouble_set HR1.out (.int .i64 0) (.int .u16 cd)
  clear d0 d1 f0 f1
  (try simp only [Exit.inBlock, Exit.then])
  refine bodyPost_ret (v := .tuple #[.slice none 0 0, .agg #[.int .i64 0, .int .u16 cd]]) ?_ rfl ⟨rfl, (trouble_below HB1.out (by omega) _ _)⟩
  rw [results_tmp_cell rfl]
  go_simp

set_option maxRecDepth 100000 in
set_option maxHeartbeats 4000000 in
theorem scrub_mend_no {w : World} {T : Nat → Nat} {b : Nat} {st : BaySt} (h : BayAt w T b st) (m c s row : Int) (cd : Int) (hcd : mayCode st.n m c s 0 row = cd) (h0 : cd ≠ 0) :
    Calls Tryz.prog 23 #[.pointer (some ⟨b, 0, none⟩), geo m c s, .int .i64 row] w fun e w' =>
      e = .returned (.agg #[.int .i64 0, .int .u16 cd]) ∧ Below w.heap.size w w' := by
  have HF : Hid (∀ W, Below w.heap.size w W → Calls Tryz.prog 61 #[.pointer (some ⟨b, 0, none⟩), geo m c s, .int .i64 0, .int .i64 row] W fun e w' => e = .returned (.int .u16 cd) ∧ Below W.heap.size W w') := fun W hW => by
    have := scrub_may (h.below hW) m c s 0 row
    rw [hcd] at this
    exact this
  have e1 : (w.alloc (ObjG m c s)).heap.size = w.heap.size + 1 := size_alloc _ _
  have e2 : ((w.alloc (ObjG m c s)).alloc (ObjT 0 0)).heap.size = w.heap.size + 2 := by rw [size_alloc, e1]
  have HB0 : Hid (Below w.heap.size w ((w.alloc (ObjG m c s)).alloc (ObjT 0 0))) := ((Below.refl _ _).alloc (Nat.le_refl _) _).alloc (by omega) _
  have HA : Hid (At ((w.alloc (ObjG m c s)).alloc (ObjT 0 0)) w.heap.size #[.int .i64 m, .int .i64 c, .int .i64 s] 23) := (At.new _ _ _).alloc _
  have HR : Hid (At ((w.alloc (ObjG m c s)).alloc (ObjT 0 0)) (w.heap.size + 1) #[.int .i64 0, .int .u16 0] 72) := At.new2 _ _ _ _
  have x0 := HA.out.cell 0
  have x1 := HA.out.cell 1
  have x2 := HA.out.cell 2
  have hne : (cd != 0) = true := by simp [h0]
  clear h hcd
  unfold ObjG ObjT geo at *
  go_enter Tryz.func23, Tryz.ntmps23
  go_wp2_with (first
    | (go_at_call 61; (with_reducible refine (HF.out _ HB0.out).mono ?_); rintro e w1 ⟨rfl, hb1⟩; have hR1 := HR.out.below hb1 HR.out.lt; have d0 := hR1.cell 0; have d1 := hR1.cell 1; have f0 := hR1.free 0; have f1 := hR1.free 1; have HB1 : Hid (Below w.heap.size w w1) := (HB0.out.trans (hb1.mono (by rw [e2]; omega))); have HR1 := Lib.hid hR1; clear hb1 hR1 x0 x1 x2))
  obtain ⟨r0, r1, hset⟩ := trouble_set HR1.out (.int .i64 0) (.int .u16 cd)
  clear d0 d1 f0 f1
  (try simp only [Exit.inBlock, Exit.then])
  refine bodyPost_ret (v := .agg #[.int .i64 0, .int .u16 cd]) ?_ rfl ⟨rfl, (trouble_below HB1.out (by omega) _ _)⟩
  rw [results_cell rfl]
  go_simp

end Go.Proofs.YtleicmmbaacbmaaGreat
