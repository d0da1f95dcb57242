/- The program's bay and the document's, side by side, with the book. -/
import Derived.Test.YtleicmmbaacbmaaGreatMrg17
import Derived.Test.YtleicmmbaacbmaaGreatBokN
set_option linter.unusedVariables false
namespace Go.Proofs.YtleicmmbaacbmaaGreat
open Go.RowKit

set_option maxRecDepth 100000 in
set_option maxHeartbeats 4000000 in
theorem book_bytesX {W : World} {K n : Nat} {bs is ps : List Value} {vb vi vp : Value} {x : Value} {xs : List Value} (hb : BkAt W K bs is ps vb vi vp) (hn : bs.length ≤ 1000000) (hx : W.ownsRow 0 5 1 x n xs) (hl : xs.length ≤ 300000) (hap : OffAll bs x) :
    Calls Tryz.prog 36 #[.pointer (some ⟨K, 0, none⟩), x] W fun e W' => e = .returned (.tuple #[]) ∧ ∃ vn, BkAt W' K (bs ++ [x]) is ps vn vi vp ∧ (vn.ownBlock = vb.ownBlock ∨ ∃ g, vn.ownBlock = some g ∧ W.heap.size ≤ g) ∧ Chg (fun q => q = K ∨ vb.ownBlock = some q) W W' := by
  have hbook := hb.book
  have c0 : W.cell? ⟨K, 0, none⟩ = some vb := hbook.cell 0
  have HB := Lib.hid hb
  have HL := Lib.hid hl
  have hKlt := hbook.lt
  have hvK : (vb).ownBlock ≠ some K := own_ne_at hb.brow hbook (by decide)
  obtain ⟨xa, xc, rfl⟩ := ownsRow_shape hx
  have HX := Lib.hid hx
  have HAP := Lib.hid hap
  have hKW : K ≤ W.heap.size := Nat.le_of_lt hKlt
  clear hb hx hl hap hbook
  go_enter Tryz.func36, Tryz.ntmps36
  go_wp2_with (refine wpList_append_keeps rfl _ _ 38 53 1 24 rfl slice_rowsB K vb bs.length bs rfl (HB.out.brow.alloc _) _ 1 1 [.slice xa n xc] rfl rfl (new_one _ _ _ _ (by first | rfl | simp)) (by intro u hu; rw [List.mem_singleton] at hu; subst hu; rfl) (by unfold maxLen; omega) (by omega) (by rw [size_alloc]; omega) (by omega) ?_; intro v1 w1 hown1 hloc hchg hkeep; have hb1 : At w1 K (bookC vb vi vp) 51 := (HB.out.book.alloc _).mod hchg hvK; have d0 : w1.cell? ⟨K, 0, none⟩ = some vb := hb1.cell 0; have f0 := hb1.free 0; have HB1 := Lib.hid hb1; have HW1 := Lib.hid hown1; have HC1 := Lib.hid hchg; obtain ⟨va, vc, rfl⟩ := ownsRow_shape hown1; have HLO := Lib.hid hloc; clear hown1 hb1 hkeep hchg hloc)
  have HCH := Lib.hid (bks_kept (u := .slice va (bs.length + 1) vc) (j := 0) HB.out.book HB.out.brow (by decide) HC1.out)
  have HST : Hid (Chg (fun k => k = K) w1 (w1.setCell ⟨K, 0, none⟩ (.slice va (bs.length + 1) vc))) := Chg.setCell (S := fun k => k = K) (Chg.refl _ _) ⟨K, 0, none⟩ (.inl rfl) _
  go_end0
  have hset : At (w1.setCell ⟨K, 0, none⟩ (.slice va (bs.length + 1) vc)) K (bookC (.slice va (bs.length + 1) vc) vi vp) 51 := HB1.out.set 0 _
  have hnew : (w1.setCell ⟨K, 0, none⟩ (.slice va (bs.length + 1) vc)).ownsRow K 53 1 (.slice va (bs.length + 1) vc) (bs ++ [Value.slice xa n xc]).length (bs ++ [Value.slice xa n xc]) := by
    rw [List.length_append, List.length_singleton]
    exact ownsRow_mod HW1.out HST.out (fun z hz e => own_ne_at HW1.out HB1.out (by decide) (e ▸ hz))
  have hX' := ownsRow_mod HX.out HCH.out (bks_off HX.out (by decide) (by decide) (by decide) (by decide))
  have hbe := bk_each HB.out.beach HCH.out (by decide) (by decide) (by decide) (by decide)
  have hie := bk_each HB.out.ieach HCH.out (by decide) (by decide) (by decide) (by decide)
  have hpe := bk_each HB.out.peach HCH.out (by decide) (by decide) (by decide) (by decide)
  have hk1 : (w1.setCell ⟨K, 0, none⟩ (.slice va (bs.length + 1) vc)).ownsRow K 27 1 vi is.length is := ownsRow_mod (ownsRow_mod (HB.out.irow.alloc _) HC1.out (fun z hz e => own_ne_own HB.out.irow HB.out.brow (by decide) e hz)) HST.out (fun z hz e => own_ne_at HB.out.irow HB.out.book (by decide) (e ▸ hz))
  have hk2 : (w1.setCell ⟨K, 0, none⟩ (.slice va (bs.length + 1) vc)).ownsRow K 167 1 vp ps.length ps := ownsRow_mod (ownsRow_mod (HB.out.prow.alloc _) HC1.out (fun z hz e => own_ne_own HB.out.prow HB.out.brow (by decide) e hz)) HST.out (fun z hz e => own_ne_at HB.out.prow HB.out.book (by decide) (e ▸ hz))
  refine ⟨rfl, .slice va (bs.length + 1) vc, ⟨hset, hnew, hk1, hk2, bk_each_snoc hbe hX' HL.out, hie, hpe, alone_snoc HB.out.balone HAP.out, HB.out.ialone, HB.out.palone⟩, ?_, ?_⟩
  · rcases HLO.out with e | e
    · exact .inl e
    · exact .inr ⟨_, e, by rw [size_alloc]; omega⟩
  · exact (((Chg.refl (fun q => q = K ∨ vb.ownBlock = some q) W).alloc _).trans (HC1.out.mono fun q hq => .inr hq)).trans (HST.out.mono fun q hq => .inl hq)

set_option maxRecDepth 100000 in
set_option maxHeartbeats 4000000 in
theorem book_intsX {W : World} {K n : Nat} {bs is ps : List Value} {vb vi vp : Value} {x : Value} {xs : List Value} (hb : BkAt W K bs is ps vb vi vp) (hn : is.length ≤ 1000000) (hx : W.ownsRow 0 3 1 x n xs) (hl : xs.length ≤ 300000) (hap : OffAll is x) :
    Calls Tryz.prog 37 #[.pointer (some ⟨K, 0, none⟩), x] W fun e W' => e = .returned (.tuple #[]) ∧ ∃ vn, BkAt W' K bs (is ++ [x]) ps vb vn vp ∧ (vn.ownBlock = vi.ownBlock ∨ ∃ g, vn.ownBlock = some g ∧ W.heap.size ≤ g) ∧ Chg (fun q => q = K ∨ vi.ownBlock = some q) W W' := by
  have hbook := hb.book
  have c0 : W.cell? ⟨K, 2, none⟩ = some vi := hbook.cell 2
  have HB := Lib.hid hb
  have HL := Lib.hid hl
  have hKlt := hbook.lt
  have hvK : (vi).ownBlock ≠ some K := own_ne_at hb.irow hbook (by decide)
  obtain ⟨xa, xc, rfl⟩ := ownsRow_shape hx
  have HX := Lib.hid hx
  have HAP := Lib.hid hap
  have hKW : K ≤ W.heap.size := Nat.le_of_lt hKlt
  clear hb hx hl hap hbook
  go_enter Tryz.func37, Tryz.ntmps37
  go_wp2_with (refine wpList_append_keeps rfl _ _ 40 27 1 24 rfl slice_rowsI K vi is.length is rfl (HB.out.irow.alloc _) _ 1 1 [.slice xa n xc] rfl rfl (new_one _ _ _ _ (by first | rfl | simp)) (by intro u hu; rw [List.mem_singleton] at hu; subst hu; rfl) (by unfold maxLen; omega) (by omega) (by rw [size_alloc]; omega) (by omega) ?_; intro v1 w1 hown1 hloc hchg hkeep; have hb1 : At w1 K (bookC vb vi vp) 51 := (HB.out.book.alloc _).mod hchg hvK; have d0 : w1.cell? ⟨K, 2, none⟩ = some vi := hb1.cell 2; have f0 := hb1.free 2; have HB1 := Lib.hid hb1; have HW1 := Lib.hid hown1; have HC1 := Lib.hid hchg; obtain ⟨va, vc, rfl⟩ := ownsRow_shape hown1; have HLO := Lib.hid hloc; clear hown1 hb1 hkeep hchg hloc)
  have HCH := Lib.hid (bks_kept (u := .slice va (is.length + 1) vc) (j := 2) HB.out.book HB.out.irow (by decide) HC1.out)
  have HST : Hid (Chg (fun k => k = K) w1 (w1.setCell ⟨K, 2, none⟩ (.slice va (is.length + 1) vc))) := Chg.setCell (S := fun k => k = K) (Chg.refl _ _) ⟨K, 2, none⟩ (.inl rfl) _
  go_end0
  have hset : At (w1.setCell ⟨K, 2, none⟩ (.slice va (is.length + 1) vc)) K (bookC vb (.slice va (is.length + 1) vc) vp) 51 := HB1.out.set 2 _
  have hnew : (w1.setCell ⟨K, 2, none⟩ (.slice va (is.length + 1) vc)).ownsRow K 27 1 (.slice va (is.length + 1) vc) (is ++ [Value.slice xa n xc]).length (is ++ [Value.slice xa n xc]) := by
    rw [List.length_append, List.length_singleton]
    exact ownsRow_mod HW1.out HST.out (fun z hz e => own_ne_at HW1.out HB1.out (by decide) (e ▸ hz))
  have hX' := ownsRow_mod HX.out HCH.out (bks_off HX.out (by decide) (by decide) (by decide) (by decide))
  have hbe := bk_each HB.out.beach HCH.out (by decide) (by decide) (by decide) (by decide)
  have hie := bk_each HB.out.ieach HCH.out (by decide) (by decide) (by decide) (by decide)
  have hpe := bk_each HB.out.peach HCH.out (by decide) (by decide) (by decide) (by decide)
  have hk0 : (w1.setCell ⟨K, 2, none⟩ (.slice va (is.length + 1) vc)).ownsRow K 53 1 vb bs.length bs := ownsRow_mod (ownsRow_mod (HB.out.brow.alloc _) HC1.out (fun z hz e => own_ne_own HB.out.brow HB.out.irow (by decide) e hz)) HST.out (fun z hz e => own_ne_at HB.out.brow HB.out.book (by decide) (e ▸ hz))
  have hk2 : (w1.setCell ⟨K, 2, none⟩ (.slice va (is.length + 1) vc)).ownsRow K 167 1 vp ps.length ps := ownsRow_mod (ownsRow_mod (HB.out.prow.alloc _) HC1.out (fun z hz e => own_ne_own HB.out.prow HB.out.irow (by decide) e hz)) HST.out (fun z hz e => own_ne_at HB.out.prow HB.out.book (by decide) (e ▸ hz))
  refine ⟨rfl, .slice va (is.length + 1) vc, ⟨hset, hk0, hnew, hk2, hbe, bk_each_snoc hie hX' HL.out, hpe, HB.out.balone, alone_snoc HB.out.ialone HAP.out, HB.out.palone⟩, ?_, ?_⟩
  · rcases HLO.out with e | e
    · exact .inl e
    · exact .inr ⟨_, e, by rw [size_alloc]; omega⟩
  · exact (((Chg.refl (fun q => q = K ∨ vi.ownBlock = some q) W).alloc _).trans (HC1.out.mono fun q hq => .inr hq)).trans (HST.out.mono fun q hq => .inl hq)

/-- The book's blocks. -/
def Foot (K : Nat) (vb vi : Value) (bs is : List Value) (q : Nat) : Prop := q = K ∨ vb.ownBlock = some q ∨ vi.ownBlock = some q ∨ (∃ x ∈ bs, x.ownBlock = some q) ∨ ∃ x ∈ is, x.ownBlock = some q

theorem foot_lt {w : World} {K : Nat} {bs is : List Value} {vb vi : Value} (h : BkAt w K bs is [] vb vi (.slice none 0 0)) : ∀ q, Foot K vb vi bs is q → q < w.heap.size := by
  rintro q (rfl | hq | hq | ⟨x, hx, hq⟩ | ⟨x, hx, hq⟩)
  · exact h.book.lt
  · exact (h.brow.lt q hq).2
  · exact (h.irow.lt q hq).2
  · obtain ⟨xs, hr, -⟩ := h.beach x hx
    exact (hr.lt q hq).2
  · obtain ⟨xs, hr, -⟩ := h.ieach x hx
    exact (hr.lt q hq).2
theorem BkAt.off {S : Nat → Prop} {w w' : World} {K : Nat} {bs is : List Value} {vb vi : Value} (h : BkAt w K bs is [] vb vi (.slice none 0 0)) (hc : Chg S w w') (hS : ∀ q, Foot K vb vi bs is q → ¬ S q) : BkAt w' K bs is [] vb vi (.slice none 0 0) :=
  ⟨h.book.mod hc (hS K (.inl rfl)), ownsRow_mod h.brow hc (fun g hg => hS g (.inr (.inl hg))), ownsRow_mod h.irow hc (fun g hg => hS g (.inr (.inr (.inl hg)))), World.ownsRow_nil _ _ _ _,
    fun x hx => (h.beach x hx).imp fun xs ⟨r1, r2⟩ => ⟨ownsRow_mod r1 hc (fun g hg => hS g (.inr (.inr (.inr (.inl ⟨x, hx, hg⟩))))), r2⟩, fun x hx => (h.ieach x hx).imp fun xs ⟨r1, r2⟩ => ⟨ownsRow_mod r1 hc (fun g hg => hS g (.inr (.inr (.inr (.inr ⟨x, hx, hg⟩))))), r2⟩, fun x hx => by simp at hx, h.balone, h.ialone, h.palone⟩

/-- The program's bay (b, tags T), the document's (c, blocks R), the book (K): all made since W0, none of them shares a block. -/
structure SAt (W0 w : World) (b c K : Nat) (s : BaySt) (T : Nat → Nat) (R : Nat → Prop) (bs is : List Value) (vb vi : Value) : Prop where
  old : Below W0.heap.size W0 w
  bay : BayAt w T b s
  ref : RBayAt w R c s
  bk : BkAt w K bs is [] vb vi (.slice none 0 0)
  t0 : ∀ q, q < W0.heap.size → T q = 0
  r0 : ∀ q, R q → W0.heap.size ≤ q
  k0 : ∀ q, Foot K vb vi bs is q → W0.heap.size ≤ q
  tr : ∀ q, R q → T q = 0
  foot : ∀ q, Foot K vb vi bs is q → T q = 0 ∧ ¬ R q

theorem SAt.more {W0 w w' : World} {b c K : Nat} {s : BaySt} {T : Nat → Nat} {R : Nat → Prop} {bs is : List Value} {vb vi : Value} (h : SAt W0 w b c K s T R bs is vb vi) (hb : Below w.heap.size w w') : SAt W0 w' b c K s T R bs is vb vi :=
  ⟨below_then h.old hb, h.bay.below hb, h.ref.below hb, h.bk.off (Chg.ofBelow hb (fun _ => False)) (fun _ _ e => e), h.t0, h.r0, h.k0, h.tr, h.foot⟩

/-- Behind the program's call: the document's bay stands. -/
theorem SAt.mid {W0 w w1 : World} {b c K : Nat} {s : BaySt} {T : Nat → Nat} {R : Nat → Prop} {bs is : List Value} {vb vi : Value} (h : SAt W0 w b c K s T R bs is vb vi) (hc : Chg (fun q => T q ≠ 0) w w1) : RBayAt w1 R c s := h.ref.keep hc (fun q hq e => e (h.tr q hq))

/-- Behind both calls. -/
theorem SAt.both {W0 w w1 w2 : World} {b c K : Nat} {s s' : BaySt} {T : Nat → Nat} {R : Nat → Prop} {bs is : List Value} {vb vi : Value} (h : SAt W0 w b c K s T R bs is vb vi) (hp : BayPost w T b s' w1) (hr : RBPost w1 R c s' w2) :
    ∃ T' R', SAt W0 w2 b c K s' T' R' bs is vb vi ∧ (∀ q, q < w.heap.size → T' q = T q) ∧ (∀ q, R' q → R q ∨ w1.heap.size ≤ q) ∧ (∀ q, w1.heap.size ≤ q → T' q = 0) := by
  obtain ⟨T', p1, p2, p3⟩ := hp
  obtain ⟨R', r1, r2, r3⟩ := hr
  have hs0 := h.old.size
  have hs1 := p3.size
  have hbv := p1.virgin
  have htr : ∀ q, R q → T' q = 0 := fun q hq => by rw [p2 q (h.ref.lt q hq)]; exact h.tr q hq
  have hb2 : BayAt w2 T' b s' := p1.keep r3 (fun q hq e => hq (htr q e))
  refine ⟨T', R', ⟨?_, hb2, r1, (h.bk.off p3 (fun q hq e => e (h.foot q hq).1)).off r3 (fun q hq e => (h.foot q hq).2 e), fun q hq => ?_, fun q hq => ?_, h.k0, fun q hq => ?_, fun q hq => ?_⟩, p2, r2, hbv⟩
  · exact Chg.own (Chg.own h.old p3 (fun q hq => Classical.byContradiction fun e => hq (h.t0 q (by omega)))) r3 (fun q hq => h.r0 q hq)
  · rw [p2 q (by omega)]; exact h.t0 q hq
  · rcases r2 q hq with e | e
    · exact h.r0 q e
    · omega
  · rcases r2 q hq with e | e
    · exact htr q e
    · exact hbv q e
  · have hlt := foot_lt h.bk q hq
    refine ⟨by rw [p2 q hlt]; exact (h.foot q hq).1, fun e => ?_⟩
    rcases r2 q e with e' | e'
    · exact (h.foot q hq).2 e'
    · omega

/-- A list of bytes has been entered. -/
theorem SAt.enterB {W0 w w' : World} {b c K : Nat} {s : BaySt} {T : Nat → Nat} {R : Nat → Prop} {bs is : List Value} {vb vi vn x : Value} (h : SAt W0 w b c K s T R bs is vb vi) (hx : ∀ q, x.ownBlock = some q → T q = 0 ∧ ¬ R q ∧ W0.heap.size ≤ q)
    (hb : BkAt w' K (bs ++ [x]) is [] vn vi (.slice none 0 0)) (hv : vn.ownBlock = vb.ownBlock ∨ ∃ g, vn.ownBlock = some g ∧ w.heap.size ≤ g) (hc : Chg (fun q => q = K ∨ vb.ownBlock = some q) w w') : SAt W0 w' b c K s T R (bs ++ [x]) is vn vi := by
  have hF : ∀ q, (q = K ∨ vb.ownBlock = some q) → Foot K vb vi bs is q := fun q hq => hq.imp id .inl
  have hs0 := h.old.size
  have hnew : ∀ q, Foot K vn vi (bs ++ [x]) is q → T q = 0 ∧ ¬ R q ∧ W0.heap.size ≤ q := by
    have hold : ∀ q, Foot K vb vi bs is q → T q = 0 ∧ ¬ R q ∧ W0.heap.size ≤ q := fun q hq => ⟨(h.foot q hq).1, (h.foot q hq).2, h.k0 q hq⟩
    rintro q (hq | hq | hq | ⟨y, hy, hq⟩ | hq)
    · exact hold q (.inl hq)
    · rcases hv with e | ⟨g, e, hg⟩
      · exact hold q (.inr (.inl (e ▸ hq)))
      · rw [e] at hq
        obtain rfl := Option.some.inj hq
        exact ⟨h.bay.virgin _ hg, fun e => by have := h.ref.lt _ e; omega, by omega⟩
    · exact hold q (.inr (.inr (.inl hq)))
    · rcases List.mem_append.1 hy with hy | hy
      · exact hold q (.inr (.inr (.inr (.inl ⟨y, hy, hq⟩))))
      · rw [List.mem_singleton] at hy
        exact hx q (hy ▸ hq)
    · exact hold q (.inr (.inr (.inr (.inr hq))))
  exact ⟨Chg.own h.old hc (fun q hq => h.k0 q (hF q hq)), h.bay.keep hc (fun q hq e => hq (h.foot q (hF q e)).1), h.ref.keep hc (fun q hq e => (h.foot q (hF q e)).2 hq), hb, h.t0, h.r0, fun q hq => (hnew q hq).2.2, h.tr, fun q hq => ⟨(hnew q hq).1, (hnew q hq).2.1⟩⟩
theorem SAt.enterI {W0 w w' : World} {b c K : Nat} {s : BaySt} {T : Nat → Nat} {R : Nat → Prop} {bs is : List Value} {vb vi vn x : Value} (h : SAt W0 w b c K s T R bs is vb vi) (hx : ∀ q, x.ownBlock = some q → T q = 0 ∧ ¬ R q ∧ W0.heap.size ≤ q)
    (hb : BkAt w' K bs (is ++ [x]) [] vb vn (.slice none 0 0)) (hv : vn.ownBlock = vi.ownBlock ∨ ∃ g, vn.ownBlock = some g ∧ w.heap.size ≤ g) (hc : Chg (fun q => q = K ∨ vi.ownBlock = some q) w w') : SAt W0 w' b c K s T R bs (is ++ [x]) vb vn := by
  have hF : ∀ q, (q = K ∨ vi.ownBlock = some q) → Foot K vb vi bs is q := fun q hq => hq.imp id (fun e => .inr (.inl e))
  have hs0 := h.old.size
  have hnew : ∀ q, Foot K vb vn bs (is ++ [x]) q → T q = 0 ∧ ¬ R q ∧ W0.heap.size ≤ q := by
    have hold : ∀ q, Foot K vb vi bs is q → T q = 0 ∧ ¬ R q ∧ W0.heap.size ≤ q := fun q hq => ⟨(h.foot q hq).1, (h.foot q hq).2, h.k0 q hq⟩
    rintro q (hq | hq | hq | hq | ⟨y, hy, hq⟩)
    · exact hold q (.inl hq)
    · exact hold q (.inr (.inl hq))
    · rcases hv with e | ⟨g, e, hg⟩
      · exact hold q (.inr (.inr (.inl (e ▸ hq))))
      · rw [e] at hq
        obtain rfl := Option.some.inj hq
        exact ⟨h.bay.virgin _ hg, fun e => by have := h.ref.lt _ e; omega, by omega⟩
    · exact hold q (.inr (.inr (.inr (.inl hq))))
    · rcases List.mem_append.1 hy with hy | hy
      · exact hold q (.inr (.inr (.inr (.inr ⟨y, hy, hq⟩))))
      · rw [List.mem_singleton] at hy
        exact hx q (hy ▸ hq)
  exact ⟨Chg.own h.old hc (fun q hq => h.k0 q (hF q hq)), h.bay.keep hc (fun q hq e => hq (h.foot q (hF q e)).1), h.ref.keep hc (fun q hq e => (h.foot q (hF q e)).2 hq), hb, h.t0, h.r0, fun q hq => (hnew q hq).2.2, h.tr, fun q hq => ⟨(hnew q hq).1, (hnew q hq).2.1⟩⟩

end Go.Proofs.YtleicmmbaacbmaaGreat
