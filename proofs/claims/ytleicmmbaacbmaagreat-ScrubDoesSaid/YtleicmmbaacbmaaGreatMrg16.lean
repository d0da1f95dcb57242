/- Several texts in one: RfL, ScrG. -/
import Derived.Test.YtleicmmbaacbmaaGreatMrg15
import Derived.Test.YtleicmmbaacbmaaGreatMrg12
/- The document's scrub: Lost. -/
set_option linter.unusedVariables false
namespace Go.Proofs.YtleicmmbaacbmaaGreat
open Go.RowKit

/-- Where the document's scrub stands: the bay, its own n blocks apart. -/
structure RKeep (w : World) (R : Nat → Prop) (c : Nat) (n : Nat) (s : BaySt) (wx : World) : Prop where
  bay : ∃ R', RBayAt wx R' c s ∧ (∀ q, R' q → R q ∨ w.heap.size + n ≤ q)
  chg : Chg R w wx
  size : w.heap.size + n ≤ wx.heap.size

theorem RKeep.start {w wx : World} {R : Nat → Prop} {c n : Nat} {s : BaySt} (h : RBayAt w R c s) (hb : Below w.heap.size w wx) (hs : w.heap.size + n ≤ wx.heap.size) : RKeep w R c n s wx :=
  ⟨⟨R, h.below hb, fun q hq => .inl hq⟩, Chg.ofBelow hb R, hs⟩
theorem RKeep.below {w wx w2 : World} {R : Nat → Prop} {c n : Nat} {s : BaySt} (h : RKeep w R c n s wx) (hb : Below wx.heap.size wx w2) : RKeep w R c n s w2 := by
  obtain ⟨R', k1, k2⟩ := h.bay
  exact ⟨⟨R', k1.below hb, k2⟩, h.chg.trans (Chg.ofBelow hb R), Nat.le_trans h.size hb.size⟩
/-- .. a store into blocks of its own. -/
theorem RKeep.own {w wx w2 : World} {R : Nat → Prop} {c n : Nat} {s : BaySt} {X : Nat → Prop} (h : RKeep w R c n s wx) (hlt : ∀ q, R q → q < w.heap.size) (hc : Chg X wx w2) (hX : ∀ q, X q → w.heap.size ≤ q ∧ q < w.heap.size + n) : RKeep w R c n s w2 := by
  obtain ⟨R', k1, k2⟩ := h.bay
  refine ⟨⟨R', k1.keep hc (fun q hq e => ?_), k2⟩, chg_and h.chg hc (fun q hq e => by have := (hX q e).1; omega), Nat.le_trans h.size hc.size⟩
  rcases k2 q hq with e' | e'
  · have := hlt q e'; have := (hX q e).1; omega
  · have := (hX q e).2; omega
/-- .. an operation of the bay. -/
theorem RKeep.did {w wx w2 : World} {R R' : Nat → Prop} {c n : Nat} {s s2 : BaySt} (h : RKeep w R c n s wx) (hR : ∀ q, R' q → R q ∨ w.heap.size + n ≤ q) (hp : RBPost wx R' c s2 w2) : RKeep w R c n s2 w2 := by
  obtain ⟨R2, k1, k2, k3⟩ := hp
  have hs := h.size
  refine ⟨⟨R2, k1, fun q hq => ?_⟩, chg_and h.chg k3 (fun q hq e => (hR q e).resolve_right (by omega)), Nat.le_trans h.size k3.size⟩
  rcases k2 q hq with e | e
  · exact hR q e
  · exact .inr (by omega)
theorem RKeep.post {w wx : World} {R : Nat → Prop} {c n : Nat} {s : BaySt} (h : RKeep w R c n s wx) : RBPost w R c s wx := by
  obtain ⟨R', k1, k2⟩ := h.bay
  exact ⟨R', k1, fun q hq => (k2 q hq).imp id (fun e => by omega), h.chg⟩
/-- What is of its own is not turned by an operation. -/
theorem keep_own {w wx w2 : World} {R R' : Nat → Prop} {n g : Nat} {s2 : BaySt} {c : Nat} {cs : Array Value} {t : TypeId} (h : At wx g cs t) (hlt : ∀ q, R q → q < w.heap.size) (hR : ∀ q, R' q → R q ∨ w.heap.size + n ≤ q) (hg : w.heap.size ≤ g) (hg2 : g < w.heap.size + n) (hp : RBPost wx R' c s2 w2) : At w2 g cs t := by
  obtain ⟨R2, k1, k2, k3⟩ := hp
  refine h.mod k3 (fun e => ?_)
  rcases hR g e with e | e
  · have := hlt g e; omega
  · omega

abbrev ObjG (m c s : Int) : Obj := .cells #[.int .i64 m, .int .i64 c, .int .i64 s] 23
abbrev ObjT (x y : Int) : Obj := .cells #[.int .i64 x, .int .u16 y] 72

set_option maxRecDepth 100000 in
set_option maxHeartbeats 4000000 in
theorem ref_lost_no {w : World} {R : Nat → Prop} {b : Nat} {st : BaySt} (h : RBayAt w R b st) (m c s mem row : Int) (cd : Int) (hcd : mayCode st.n m c s mem row = cd) (h0 : cd ≠ 0) :
    Calls Tryz.prog 28 #[.pointer (some ⟨b, 0, none⟩), geo m c s, .int .i64 mem, .int .i64 row] w fun e w' =>
      e = .returned (.tuple #[.slice none 0 0, .agg #[.int .i64 0, .int .u16 cd]]) ∧ Below w.heap.size w w' := by
  have HF : Hid (∀ W, Below w.heap.size w W → Calls Tryz.prog 68 #[.pointer (some ⟨b, 0, none⟩), geo m c s, .int .i64 mem, .int .i64 row] W fun e w' => e = .returned (.agg #[.int .i64 0, .int .u16 cd]) ∧ Below W.heap.size W w') := fun W hW => by
    have := ref_first (h.below hW) m c s mem row
    rw [hcd] at this
    exact this
  have e1 : (w.alloc (ObjG m c s)).heap.size = w.heap.size + 1 := size_alloc _ _
  have e2 : ((w.alloc (ObjG m c s)).alloc (ObjT 0 0)).heap.size = w.heap.size + 2 := by rw [size_alloc, e1]
  have HB0 : Hid (Below w.heap.size w ((w.alloc (ObjG m c s)).alloc (ObjT 0 0))) := ((Below.refl _ _).alloc (Nat.le_refl _) _).alloc (by omega) _
  have HA : Hid (At ((w.alloc (ObjG m c s)).alloc (ObjT 0 0)) w.heap.size #[.int .i64 m, .int .i64 c, .int .i64 s] 23) := (At.new _ _ _).alloc _
  have HR : Hid (At ((w.alloc (ObjG m c s)).alloc (ObjT 0 0)) (w.heap.size + 1) #[.int .i64 0, .int .u16 0] 72) := At.new2 _ _ _ _
  have x0 := HA.out.cell 0
  have x1 := HA.out.cell 1
  have x2 := HA.out.cell 2
  have hne : (cd != 0) = true := by simp [h0]
  clear h hcd
  unfold ObjG ObjT geo at *
  go_enter Tryz.func28, Tryz.ntmps28
  go_wp2_with (first
    | (go_at_call 68; (with_reducible refine (HF.out _ HB0.out).mono ?_); rintro e w1 ⟨rfl, hb1⟩; have hR1 := HR.out.below hb1 HR.out.lt; have hR2 := hR1.alloc (.cells #[.int .i64 0, .int .u16 cd] 72); have hT2 := At.new w1 #[.int .i64 0, .int .u16 cd] 72; have d0 := hR2.cell 0; have d1 := hR2.cell 1; have f0 := hR2.free 0; have f1 := hR2.free 1; have y0 := hT2.cell 0; have y1 := hT2.cell 1; have HB1 : Hid (Below w.heap.size w (w1.alloc (.cells #[.int .i64 0, .int .u16 cd] 72))) := (HB0.out.trans (hb1.mono (by rw [e2]; omega))).alloc (by have := hb1.size; omega) _; have HR2 := Lib.hid hR2; have HLE : Hid (w.heap.size + 2 ≤ w1.heap.size) := by { have := hb1.size; rw [e2] at this; exact this }; clear hb1 hR1 hR2 hT2 x0 x1 x2))
  go_region
  obtain ⟨r0, r1, hset⟩ := trouble_set HR2.out (.int .i64 0) (.int .u16 cd)
  go_wp2
  clear d0 d1 f0 f1 y0 y1
  (try simp only [Exit.inBlock, Exit.then])
  refine bodyPost_ret (v := .tuple #[.slice none 0 0, .agg #[.int .i64 0, .int .u16 cd]]) ?_ rfl ⟨rfl, (trouble_below HB1.out (by omega) _ _).drew⟩
  rw [results_tmp_cell rfl]
  go_simp

theorem trVal_agg (t : Option (Nat × Nat)) : trVal t = .agg #[.int .i64 (((t.getD (0, 0)).1 : Nat) : Int), .int .u16 (((t.getD (0, 0)).2 : Nat) : Int)] := rfl

theorem lostVal.keep {H : Handed} {v : Value} {w w' : World} {B B' : Nat} {S : Nat → Prop} (h : lostVal H v w B) (hc : Chg S w w') (hS : ∀ q, S q → q < B) (hB : B' ≤ B) : lostVal H v w' B' :=
  ⟨fun e => ownsRow_lower (ownsRow_chg (h.1 e) hc (fun q hq hs => by have := ((h.1 e).lt q hq).1; have := hS q hs; omega)) hB, h.2⟩

set_option maxRecDepth 100000 in
set_option maxHeartbeats 4000000 in
theorem ref_lost {w : World} {R : Nat → Prop} {b : Nat} {st : BaySt} (h : RBayAt w R b st) (M C S m r : Nat) (hg : geoIs M C S = true) (hn : st.n = M + 1) (hm : m < M) (hr : r < S * C) (hcnt : st.cnt 0 ≤ 999999000000) :
    Calls Tryz.prog 28 #[.pointer (some ⟨b, 0, none⟩), geo M C S, .int .i64 m, .int .i64 r] w fun e w' =>
      ∃ v, e = .returned (.tuple #[v, trVal (st.hand (1 + r) m M).t]) ∧ lostVal (st.hand (1 + r) m M) v w' w.heap.size ∧ RBPost w R b (st.hand (1 + r) m M).s w' := by
  obtain ⟨g1, g2, g3, g4, g5, g6⟩ := (geoIs_iff M C S).1 hg
  have hrr : (r : Int) < (S : Int) * (C : Int) := by exact_mod_cast hr
  have hbd := geo_bounds hg
  have hr4 : r ≤ 4096 := by omega
  have hcode0 : mayCode st.n M C S m r = 0 := by
    unfold mayCode
    rw [if_pos hg, if_pos (by rw [hn]; omega), if_pos ⟨by omega, by omega, by omega, hrr⟩]
  have HLT := Lib.hid h.lt
  have HF : Hid (∀ W, Below w.heap.size w W → Calls Tryz.prog 68 #[.pointer (some ⟨b, 0, none⟩), geo M C S, .int .i64 m, .int .i64 r] W fun e w' => e = .returned (.agg #[.int .i64 0, .int .u16 0]) ∧ Below W.heap.size W w') := fun W hW => by
    have := ref_first (h.below hW) M C S m r
    rw [hcode0] at this
    exact this
  have HS : Hid (∀ W, Below w.heap.size w W → Calls Tryz.prog 69 #[.pointer (some ⟨b, 0, none⟩), geo M C S, .int .i64 r, .int .i64 m] W fun e w' => ∃ v, e = .returned (.tuple #[v, trVal (st.hand (1 + r) m M).t]) ∧ lostVal (st.hand (1 + r) m M) v w' W.heap.size ∧ RBPost W R b (st.hand (1 + r) m M).s w') := fun W hW => ref_sum (h.below hW) M C S r m (by omega) hr4 hcnt
  have HB := Lib.hid h
  have e1 : (w.alloc (ObjG M C S)).heap.size = w.heap.size + 1 := size_alloc _ _
  have e2 : ((w.alloc (ObjG M C S)).alloc (ObjT 0 0)).heap.size = w.heap.size + 2 := by rw [size_alloc, e1]
  have HB0 : Hid (Below w.heap.size w ((w.alloc (ObjG M C S)).alloc (ObjT 0 0))) := ((Below.refl _ _).alloc (Nat.le_refl _) _).alloc (by omega) _
  have HA : Hid (At ((w.alloc (ObjG M C S)).alloc (ObjT 0 0)) w.heap.size #[.int .i64 M, .int .i64 C, .int .i64 S] 23) := (At.new _ _ _).alloc _
  have HR : Hid (At ((w.alloc (ObjG M C S)).alloc (ObjT 0 0)) (w.heap.size + 1) #[.int .i64 0, .int .u16 0] 72) := At.new2 _ _ _ _
  have x0 := HA.out.cell 0
  have x1 := HA.out.cell 1
  have x2 := HA.out.cell 2
  clear h hcnt hcode0 hbd hrr hg g1 g2 g3 g4 g5 g6
  generalize hH : st.hand (1 + r) m M = H at *
  clear hH
  unfold trVal ObjG ObjT geo at *
  go_enter Tryz.func28, Tryz.ntmps28
  go_wp2_with (first
    | (go_at_call 68; (with_reducible refine (HF.out _ HB0.out).mono ?_); rintro e w1 ⟨rfl, hb1⟩; have hA2 := (HA.out.below hb1 HA.out.lt).alloc (.cells #[.int .i64 0, .int .u16 0] 72); have hR2 := (HR.out.below hb1 HR.out.lt).alloc (.cells #[.int .i64 0, .int .u16 0] 72); have hT2 := At.new w1 #[.int .i64 0, .int .u16 0] 72; have z0 := hA2.cell 0; have z1 := hA2.cell 1; have z2 := hA2.cell 2; have y1 := hT2.cell 1; have HLE : Hid (w.heap.size + 2 ≤ w1.heap.size) := by { have := hb1.size; rw [e2] at this; exact this }; have HB1 : Hid (Below w.heap.size w (w1.alloc (.cells #[.int .i64 0, .int .u16 0] 72))) := (HB0.out.trans (hb1.mono (by rw [e2]; omega))).alloc (by have := HLE.out; omega) _; have HR2 := Lib.hid hR2; clear hb1 hA2 hR2 hT2 x0 x1 x2)
    | (go_at_call 69; (with_reducible refine (HS.out _ HB1.out).mono ?_); rintro e w3 ⟨v, rfl, hv, hp⟩; have hR3 := keep_own (n := 2) (R' := R) HR2.out HLT.out (fun q hq => .inl hq) (by omega) (by omega) hp; have d0 := hR3.cell 0; have d1 := hR3.cell 1; have f0 := hR3.free 0; have f1 := hR3.free 1; have HR3 := Lib.hid hR3; have HV := Lib.hid hv; have HP := Lib.hid hp; clear hR3 hv hp z0 z1 z2 y1))
  obtain ⟨r0, r1, hset⟩ := trouble_set HR3.out (.int .i64 (((H.t.getD (0, 0)).1 : Nat) : Int)) (.int .u16 (((H.t.getD (0, 0)).2 : Nat) : Int))
  clear d0 d1 f0 f1
  (try simp only [Exit.inBlock, Exit.then])
  have hsz : (w1.alloc (.cells #[.int .i64 0, .int .u16 0] 72)).heap.size = w1.heap.size + 1 := size_alloc _ _
  have hle := HLE.out
  have hK : RKeep w R b 2 H.s w3 := RKeep.did (R' := R) (RKeep.start HB.out HB1.out (by rw [hsz]; omega)) (fun q hq => .inl hq) HP.out
  refine bodyPost_ret (v := .tuple #[v, trVal H.t]) ?_ rfl ⟨v, rfl, HV.out.keep hset (fun q hq => by rw [hsz]; omega) (by rw [hsz]; omega), (hK.own HLT.out hset (fun q hq => by omega)).post⟩
  rw [results_tmp_cell rfl]
  go_simp
  rfl

end Go.Proofs.YtleicmmbaacbmaaGreat

/- Scrub: Rows. -/
set_option linter.unusedVariables false
namespace Go.Proofs.YtleicmmbaacbmaaGreat
open Go.RowKit

theorem slice_ints : SliceOf Tryz.prog 27 3 1 8 := SliceOf.mk' (z := .int .i64 0) Tryz.underlying27 (by decide) (by kernel_rfl) rfl

/-- Where Rows stands behind k rows. -/
structure ScrRowsAt (w : World) (T : Nat → Nat) (b : Nat) (L : Looked) (v : Value) (g : List Value) (wr : World) : Prop where
  none' : L.t = none
  bay : BayAt wr T b L.s
  row : wr.ownsRow (w.heap.size + 2) 3 1 v L.l.length (kcells L.l)
  chg : Chg (fun q => T q ≠ 0) w wr
  box : At wr w.heap.size g.toArray 23
  res : At wr (w.heap.size + 1) #[.int .i64 0, .int .u16 0] 72

theorem kcells_length (l : List Nat) : (kcells l).length = l.length := by simp [kcells]
theorem kcells_snoc (l : List Nat) (k : Nat) : kcells (l ++ [k]) = kcells l ++ [.int .i64 (k : Int)] := by simp [kcells]

theorem ScrRowsAt.next {w wr w3 w5 : World} {T : Nat → Nat} {b : Nat} {L : Looked} {v v' : Value} {g : List Value} {s' : BaySt} {l' : List Nat} (h : ScrRowsAt w T b L v g wr) (hvir : ∀ k, w.heap.size ≤ k → T k = 0) (hb : BayAt w3 T b s') (hc : Chg (fun q => T q ≠ 0) wr w3) (h5 : Chg (fun q => w.heap.size + 2 ≤ q) w3 w5)
    (hrow : w5.ownsRow (w.heap.size + 2) 3 1 v' l'.length (kcells l')) : ScrRowsAt w T b ⟨none, l', s'⟩ v' g w5 := by
  refine ⟨rfl, hb.keep h5 (fun q hq e => hq (hvir q (by omega))), hrow, chg_and (h.chg.trans hc) h5 (fun q hq e => by omega), ?_, ?_⟩
  · exact (h.box.mod hc (fun e => e (hvir _ (by omega)))).mod h5 (by omega)
  · exact (h.res.mod hc (fun e => e (hvir _ (by omega)))).mod h5 (by omega)

set_option maxRecDepth 100000 in
set_option maxHeartbeats 8000000 in
theorem scrub_rows {w : World} {T : Nat → Nat} {b : Nat} {st : BaySt} (h : BayAt w T b st) (M C S : Nat) (hg : geoIs M C S = true) (hn : st.n = M + 1)
    (hcnt : st.cnt 0 ≤ 999998000000) (hsm : st.small 1000000) :
    Calls Tryz.prog 21 #[.pointer (some ⟨b, 0, none⟩), geo M C S] w fun e w' =>
      ∃ v, e = .returned (.tuple #[v, trVal (st.look M (S * C)).t]) ∧ ((st.look M (S * C)).t = none → w'.ownsRow w.heap.size 3 1 v (st.look M (S * C)).l.length (kcells (st.look M (S * C)).l)) ∧ ((st.look M (S * C)).t ≠ none → v = .slice none 0 0) ∧ BayAt w' T b (st.look M (S * C)).s ∧ Chg (fun q => T q ≠ 0) w w' := by
  obtain ⟨g1, g2, g3, g4, g5, g6⟩ := (geoIs_iff M C S).1 hg
  have hbd := geo_bounds hg
  have hv := h.virgin
  have hvir := Lib.hid hv
  have hM16 : M ≤ 16 := by omega
  have hR0 : 0 < S * C := Nat.mul_pos (by omega) (by omega)
  have hR1 : S * C ≤ 4096 := by have := hbd.2; exact_mod_cast this
  have hcode0 : mayCode st.n M C S 0 0 = 0 := by
    unfold mayCode
    rw [if_pos hg, if_pos (by rw [hn]; omega), if_pos ⟨by omega, by omega, by omega, by exact_mod_cast hR0⟩]
  have e1 : (w.alloc (.cells #[.int .i64 M, .int .i64 C, .int .i64 S] 23)).heap.size = w.heap.size + 1 := size_alloc _ _
  have e2 : ((w.alloc (.cells #[.int .i64 M, .int .i64 C, .int .i64 S] 23)).alloc (.cells #[.int .i64 0, .int .u16 0] 72)).heap.size = w.heap.size + 2 := by rw [size_alloc, e1]
  have hb0 : Below w.heap.size w ((w.alloc (.cells #[.int .i64 M, .int .i64 C, .int .i64 S] 23)).alloc (.cells #[.int .i64 0, .int .u16 0] 72)) := ((Below.refl _ _).alloc (Nat.le_refl _) _).alloc (by omega) _
  have ha : At ((w.alloc (.cells #[.int .i64 M, .int .i64 C, .int .i64 S] 23)).alloc (.cells #[.int .i64 0, .int .u16 0] 72)) w.heap.size #[.int .i64 M, .int .i64 C, .int .i64 S] 23 := (At.new _ _ _).alloc _
  have hre : At ((w.alloc (.cells #[.int .i64 M, .int .i64 C, .int .i64 S] 23)).alloc (.cells #[.int .i64 0, .int .u16 0] 72)) (w.heap.size + 1) #[.int .i64 0, .int .u16 0] 72 := At.new2 _ _ _ _
  have hba : BayAt ((w.alloc (.cells #[.int .i64 M, .int .i64 C, .int .i64 S] 23)).alloc (.cells #[.int .i64 0, .int .u16 0] 72)) T b st := h.below hb0
  have hmay := Lib.hid (scrub_may hba M C S 0 0)
  rw [hcode0] at hmay
  have hrows : Hid (∀ W, Calls Tryz.prog 62 #[geo M C S] W fun e w' => e = .returned (.int .i64 ((S * C : Nat) : Int)) ∧ Below W.heap.size W w') := fun W => (geom_rows M C S W).mono fun e w' ⟨x1, x2⟩ => ⟨by rw [x1]; unfold geoRows; rw [if_pos hg, Int.natCast_mul], x2⟩
  have HSM : Hid (∀ k W, k ≤ 4096 → BayAt W T b (st.look M k).s → Calls Tryz.prog 63 #[.pointer (some ⟨b, 0, none⟩), geo M C S, .int .i64 k, .int .i64 (-1)] W fun e w' => ∃ p, e = .returned (.tuple #[p, trVal ((st.look M k).s.hand ((1 + k : Nat) : Int) (-1) M).t]) ∧ SumPost W T b ((st.look M k).s.hand ((1 + k : Nat) : Int) (-1) M) p w') := fun k W hk hB => by
    have hlr := look_reads st M k
    have hkM : k * M ≤ 4096 * 16 := Nat.mul_le_mul hk hM16
    have := scrub_sum hB M C S k (-1) hM16 hk (by have := hlr.hi; omega) (hlr.small _ hsm)
    rw [show (1 + (k : Int)) = ((1 + k : Nat) : Int) by omega] at this
    exact this
  have HA := Lib.hid ha
  have HR := Lib.hid hre
  have HAL := Lib.hid ha.lt
  have HBA := Lib.hid hba
  clear ha hre hba h hv hcnt hsm hcode0 hbd
  generalize S * C = R at *
  unfold geo at *
  go_enter Tryz.func21, Tryz.ntmps21
  go_wp2_with (first
    | (go_at_call 61; refine hmay.out.mono ?_; rintro e w1 ⟨rfl, hb1⟩; have ha1 := HA.out.below hb1 HAL.out; have c0 := ha1.cell 0; have c1 := ha1.cell 1; have c2 := ha1.cell 2; have HA1 := Lib.hid ha1; clear ha1; have hR1 := HR.out.below hb1 (by rw [e2]; omega); have HR1 := Lib.hid hR1; clear hR1)
    | (go_at_call 62; refine (hrows.out _).mono ?_; rintro e w2 ⟨rfl, hb2⟩; have HA2 := Lib.hid (HA1.out.below hb2 HA1.out.lt); have HR2 := Lib.hid (HR1.out.below hb2 HR1.out.lt)))
  clear c0 c1 c2
  go_loopw [7, 20] (fun v q wr => ∃ k : Nat, k ≤ R ∧ q = .int .i64 k ∧ ScrRowsAt w T b (st.look M k) v [.int .i64 M, .int .i64 C, .int .i64 S] wr) (fun _ q _ => R - (intOf q).toNat)
  case atStart => exact ⟨0, by omega, rfl, rfl, (HBA.out.below hb1).below hb2, World.ownsRow_nil _ _ _ _, Chg.ofBelow (below_then (below_then hb0 hb1) hb2) _, HA2.out, HR2.out⟩
  case round =>
    obtain ⟨k, hk, rfl, hL⟩ := hrel
    have HL := Lib.hid hL
    have c0 := hL.box.cell 0
    have c1 := hL.box.cell 1
    have c2 := hL.box.cell 2
    clear hL
    by_cases hkR : k < R
    · have K1 : Hid (k + 1 ≤ R) := hkR
      have HK := Lib.hid (HSM.out k wr (by omega) HL.out.bay)
      have hsz := HL.out.res.lt
      cases ht : ((st.look M k).s.hand ((1 + k : Nat) : Int) (-1) M).t with
      | some t =>
        have hbad := Lib.hid (look_bad st M k HL.out.none' (by rw [ht]; simp))
        have hst := Lib.hid (look_stop st M (k + 1) (by rw [hbad.out]; show ((st.look M k).s.hand ((1 + k : Nat) : Int) (-1) M).t ≠ none; rw [ht]; simp) R hkR)
        obtain ⟨m, cd⟩ := t
        obtain ⟨-, hcd0, -⟩ := hand_code _ _ _ _ (m, cd) ht
        have hcd2 : ((cd : Int) != 0) = true := by simp; exact hcd0
        have HT := Lib.hid ht
        rw [ht] at HK hbad
        clear ht hcd0
        unfold trVal at *
        simp only [Option.getD_some] at *
        generalize (st.look M k).s.hand ((1 + k : Nat) : Int) (-1) M = H at *
        as_aux_lemma =>
          go_wp2_with (first
            | (go_at_call 63; refine HK.out.mono ?_; rintro e w3 ⟨p, rfl, hS⟩; obtain rfl := hS.bad (by rw [HT.out]; simp); have HS := Lib.hid hS; clear hS; have hR3 := (HL.out.res.mod HS.out.chg (fun e => e (hvir.out _ (by omega)))).alloc (.cells #[.int .i64 (m : Int), .int .u16 (cd : Int)] 72); have d0 := hR3.cell 0; have d1 := hR3.cell 1; have f0 := hR3.free 0; have f1 := hR3.free 1; have HR3 := Lib.hid hR3; clear hR3))
          go_region
          go_wp2
          obtain ⟨r0, r1, hset⟩ := trouble_set HR3.out (.int .i64 (m : Int)) (.int .u16 (cd : Int))
          clear d0 d1 f0 f1 c0 c1 c2
          (try simp only [Exit.inBlock, Exit.then])
          refine bodyPost_ret (v := .tuple #[.slice none 0 0, .agg #[.int .i64 (m : Int), .int .u16 (cd : Int)]]) ?_ rfl ⟨.slice none 0 0, ?_, ?_⟩
          · rw [results_tmp_cell rfl]
            go_simp
          · rw [hst.out, hbad.out]
            rfl
          · rw [hst.out, hbad.out]
            have hal : Chg (fun q => q = w.heap.size + 1) w3 (w3.alloc (.cells #[.int .i64 (m : Int), .int .u16 (cd : Int)] 72)) := (Chg.refl _ _).alloc _
            have hch := (hal.trans hset).drew
            exact ⟨fun e => (by cases e), fun _ => rfl, HS.out.bay.keep hch (fun q hq e => by subst e; exact hq (hvir.out _ (by omega))), chg_and (HL.out.chg.trans HS.out.chg) hch (fun q hq e => by omega)⟩
      | none =>
        have hok := Lib.hid (look_ok st M k HL.out.none' ht)
        have HT := Lib.hid ht
        rw [ht] at HK
        clear ht
        unfold trVal at *
        simp only [Option.getD_none] at *
        by_cases hz : allZero ((st.look M k).s.hand ((1 + k : Nat) : Int) (-1) M).f 128
        · have hnz : Hid (∀ (g gb : Nat) (many : Int) (W : World), SumAt W g gb 128 ((st.look M k).s.hand ((1 + k : Nat) : Int) (-1) M).f many → Calls Tryz.prog 64 #[.pointer (some ⟨g, 0, none⟩)] W fun e w' => w' = W ∧ e = .returned (.bool true)) := fun g gb many W hs => (xor_nought g gb 128 _ many W hs (by omega)).mono fun e w' ⟨x1, r, x2, x3⟩ => ⟨x1, by rw [x2, x3.2 hz]⟩
          rw [if_pos hz] at hok
          clear hz
          generalize (st.look M k).s.hand ((1 + k : Nat) : Int) (-1) M = H at *
          as_aux_lemma =>
            go_wp2_with (first
              | (go_at_call 63; refine HK.out.mono ?_; rintro e w3 ⟨p, rfl, hS⟩; obtain ⟨g, gb, many, rfl, m1, m2, hsum, hg1, hg2⟩ := hS.ok HT.out; have HS := Lib.hid hS; have HSU := Lib.hid (hsum.mod (S := fun _ => False) ((Chg.refl _ _).alloc (.cells #[.int .i64 0, .int .u16 0] 72)) (fun h => h) (fun h => h)); clear hS hsum; have hown := (ownsRow_mod HL.out.row HS.out.chg (fun g' hg' e => e (hvir.out _ (by have := (HL.out.row.lt g' hg').1; omega)))).alloc (.cells #[.int .i64 0, .int .u16 0] 72))
              | (go_at_call 64; refine (hnz.out g gb many _ HSU.out).mono ?_; rintro e w4 ⟨rfl, rfl⟩))
            refine ⟨⟨k + 1, K1.out, by go_num, ?_⟩, by simp [intOf]; omega⟩
            rw [hok.out]
            exact HL.out.next hvir.out HS.out.bay HS.out.chg ((Chg.refl _ _).alloc _) hown
        · have hnz : Hid (∀ (g gb : Nat) (many : Int) (W : World), SumAt W g gb 128 ((st.look M k).s.hand ((1 + k : Nat) : Int) (-1) M).f many → Calls Tryz.prog 64 #[.pointer (some ⟨g, 0, none⟩)] W fun e w' => w' = W ∧ e = .returned (.bool false)) := fun g gb many W hs => (xor_nought g gb 128 _ many W hs (by omega)).mono fun e w' ⟨x1, r, x2, x3⟩ => ⟨x1, by rw [x2]; cases r; rfl; exact absurd (x3.1 rfl) hz⟩
          rw [if_neg hz] at hok
          clear hz
          generalize (st.look M k).s.hand ((1 + k : Nat) : Int) (-1) M = H at *
          as_aux_lemma =>
            go_wp2_with (first
              | (go_at_call 63; refine HK.out.mono ?_; rintro e w3 ⟨p, rfl, hS⟩; obtain ⟨g, gb, many, rfl, m1, m2, hsum, hg1, hg2⟩ := hS.ok HT.out; have HS := Lib.hid hS; have HSU := Lib.hid (hsum.mod (S := fun _ => False) ((Chg.refl _ _).alloc (.cells #[.int .i64 0, .int .u16 0] 72)) (fun h => h) (fun h => h)); clear hS hsum; have hown := (ownsRow_mod HL.out.row HS.out.chg (fun g' hg' e => e (hvir.out _ (by have := (HL.out.row.lt g' hg').1; omega)))).alloc (.cells #[.int .i64 0, .int .u16 0] 72))
              | (go_at_call 64; refine (hnz.out g gb many _ HSU.out).mono ?_; rintro e w4 ⟨rfl, rfl⟩)
              | (refine wpList_append_one rfl _ _ 27 3 8 rfl slice_ints (w.heap.size + 2) u7 (st.look M k).l.length _ rfl hown _ rfl (by rw [size_alloc]; rfl) (by have := look_length st M k; unfold maxLen; omega) (by have := look_length st M k; omega) (by have := HL.out.res.lt; have := HS.out.chg.size; rw [size_alloc]; omega) ?_; intro v' w5 hown5 hb5 hgr5))
            refine ⟨⟨k + 1, K1.out, by go_num, ?_⟩, by simp [intOf]; omega⟩
            rw [hok.out]
            refine HL.out.next hvir.out HS.out.bay HS.out.chg (w5 := w5) (((Chg.refl _ _).alloc _).trans (Chg.ofGrown hgr5 (fun q hq => .inl ((hown.lt q hq).1)))) ?_
            rw [kcells_snoc, List.length_append]
            exact hown5
    · obtain rfl : k = R := by omega
      have hsz := HL.out.res.lt
      have d0 := HL.out.res.cell 0
      have d1 := HL.out.res.cell 1
      have f0 := HL.out.res.free 0
      have f1 := HL.out.res.free 1
      as_aux_lemma =>
        go_wp2
        obtain ⟨r0, r1, hset⟩ := trouble_set HL.out.res (.int .i64 0) (.int .u16 0)
        clear d0 d1 f0 f1 c0 c1 c2
        (try simp only [Exit.inBlock, Exit.then])
        refine bodyPost_ret (v := .tuple #[u7, .agg #[.int .i64 0, .int .u16 0]]) ?_ rfl ⟨u7, ?_, ?_, fun e => absurd HL.out.none' e, ?_, ?_⟩
        · rw [results_tmp_cell rfl]
          go_simp
        · rw [HL.out.none']
          rfl
        · exact fun _ => ownsRow_lower (ownsRow_mod HL.out.row hset (fun g' hg' e => by have := (HL.out.row.lt g' hg').1; omega)) (by omega)
        · exact HL.out.bay.keep hset (fun q hq e => by subst e; exact hq (hvir.out _ (by omega)))
        · exact chg_and HL.out.chg hset (fun q hq e => by omega)

end Go.Proofs.YtleicmmbaacbmaaGreat
