/- The book: none shares memory with another one. -/
import Derived.Test.YtleicmmbaacbmaaGreatBokL
set_option linter.unusedVariables false
namespace Go.Proofs.YtleicmmbaacbmaaGreat
open Go.RowKit

set_option maxRecDepth 100000 in
set_option maxHeartbeats 4000000 in
theorem ownTexts_nil (w : World) : Calls Tryz.prog 46 #[.slice none 0 0] w fun e w' => e = .returned (.bool true) ∧ w = w' := by
  go_enter Tryz.func46, Tryz.ntmps46
  go_wp2
  refine wp_loop_rounds 1 ?_
  rw [rounds_succ]
  go_wp2
  refine wp_loop_rounds 1 ?_
  rw [rounds_succ]
  go_wp2
  refine wp_loop_rounds 1 ?_
  rw [rounds_succ]
  go_wp2
  go_ret
  exact ⟨rfl, rfl⟩

set_option maxRecDepth 100000 in
set_option maxHeartbeats 4000000 in
theorem ownNumbers_nil (w : World) : Calls Tryz.prog 48 #[.slice none 0 0] w fun e w' => e = .returned (.bool true) ∧ w = w' := by
  go_enter Tryz.func48, Tryz.ntmps48
  go_wp2
  refine wp_loop_rounds 1 ?_
  rw [rounds_succ]
  go_wp2
  refine wp_loop_rounds 1 ?_
  rw [rounds_succ]
  go_wp2
  refine wp_loop_rounds 1 ?_
  rw [rounds_succ]
  go_wp2
  go_ret
  exact ⟨rfl, rfl⟩

set_option maxRecDepth 100000 in
set_option maxHeartbeats 4000000 in
theorem ownErrs_nil (w : World) : Calls Tryz.prog 49 #[.slice none 0 0] w fun e w' => e = .returned (.bool true) ∧ w = w' := by
  go_enter Tryz.func49, Tryz.ntmps49
  go_wp2
  refine wp_loop_rounds 1 ?_
  rw [rounds_succ]
  go_wp2
  refine wp_loop_rounds 1 ?_
  rw [rounds_succ]
  go_wp2
  refine wp_loop_rounds 1 ?_
  rw [rounds_succ]
  go_wp2
  go_ret
  exact ⟨rfl, rfl⟩

set_option maxRecDepth 100000 in
set_option maxHeartbeats 4000000 in
theorem ownSpans_nil (w : World) : Calls Tryz.prog 50 #[.slice none 0 0] w fun e w' => e = .returned (.bool true) ∧ w = w' := by
  go_enter Tryz.func50, Tryz.ntmps50
  go_wp2
  refine wp_loop_rounds 1 ?_
  rw [rounds_succ]
  go_wp2
  refine wp_loop_rounds 1 ?_
  rw [rounds_succ]
  go_wp2
  refine wp_loop_rounds 1 ?_
  rw [rounds_succ]
  go_wp2
  go_ret
  exact ⟨rfl, rfl⟩

set_option maxRecDepth 100000 in
set_option maxHeartbeats 4000000 in
theorem ownStates_nil (w : World) : Calls Tryz.prog 51 #[.slice none 0 0] w fun e w' => e = .returned (.bool true) ∧ w = w' := by
  go_enter Tryz.func51, Tryz.ntmps51
  go_wp2
  refine wp_loop_rounds 1 ?_
  rw [rounds_succ]
  go_wp2
  refine wp_loop_rounds 1 ?_
  rw [rounds_succ]
  go_wp2
  refine wp_loop_rounds 1 ?_
  rw [rounds_succ]
  go_wp2
  go_ret
  exact ⟨rfl, rfl⟩

set_option maxRecDepth 100000 in
set_option maxHeartbeats 4000000 in
theorem ownRows_nil (w : World) : Calls Tryz.prog 53 #[.slice none 0 0] w fun e w' => e = .returned (.bool true) ∧ w = w' := by
  go_enter Tryz.func53, Tryz.ntmps53
  go_wp2
  refine wp_loop_rounds 1 ?_
  rw [rounds_succ]
  go_wp2
  refine wp_loop_rounds 1 ?_
  rw [rounds_succ]
  go_wp2
  refine wp_loop_rounds 1 ?_
  rw [rounds_succ]
  go_wp2
  go_ret
  exact ⟨rfl, rfl⟩

set_option maxRecDepth 100000 in
set_option maxHeartbeats 4000000 in
theorem ownPuts_nil (w : World) : Calls Tryz.prog 54 #[.slice none 0 0] w fun e w' => e = .returned (.bool true) ∧ w = w' := by
  go_enter Tryz.func54, Tryz.ntmps54
  go_wp2
  refine wp_loop_rounds 1 ?_
  rw [rounds_succ]
  go_wp2
  refine wp_loop_rounds 1 ?_
  rw [rounds_succ]
  go_wp2
  refine wp_loop_rounds 1 ?_
  rw [rounds_succ]
  go_wp2
  go_ret
  exact ⟨rfl, rfl⟩

set_option maxRecDepth 100000 in
set_option maxHeartbeats 4000000 in
theorem ownTxns_nil (w : World) : Calls Tryz.prog 56 #[.slice none 0 0] w fun e w' => e = .returned (.bool true) ∧ w = w' := by
  go_enter Tryz.func56, Tryz.ntmps56
  go_wp2
  refine wp_loop_rounds 1 ?_
  rw [rounds_succ]
  go_wp2
  refine wp_loop_rounds 1 ?_
  rw [rounds_succ]
  go_wp2
  refine wp_loop_rounds 1 ?_
  rw [rounds_succ]
  go_wp2
  go_ret
  exact ⟨rfl, rfl⟩

theorem slice_boolsB : SliceOf Tryz.prog 45 103 1 24 := SliceOf.mk' (z := .slice none 0 0) Tryz.underlying45 (by decide) (by kernel_rfl) rfl

set_option maxRecDepth 100000 in
set_option maxHeartbeats 4000000 in
theorem ownBools_nil (w : World) : Calls Tryz.prog 52 #[.slice none 0 0] w fun e w' => e = .returned (.bool true) ∧ Below w.heap.size w w' := by
  go_enter Tryz.func52, Tryz.ntmps52
  go_wp2_with (refine wpList_make_zero rfl _ _ 45 103 24 rfl slice_boolsB (.slice none 0 0) (by kernel_rfl) rfl (fun _ => .slice none 0 0) _ _ _ _ 0 rfl rfl rfl rfl (by omega) (by unfold maxLen; omega) ?_; intro w3 L3 b3)
  refine wp_loop_rounds 1 ?_
  rw [rounds_succ]
  go_wp2
  go_ret
  exact ⟨rfl, b3⟩

/-- Tags for rows of which none shares a block with another one. -/
theorem tags_of {vs : List Value} (h : Alone vs) : ∃ T : Nat → Nat, (∀ j (hj : j < vs.length) g, vs[j].ownBlock = some g → T g = j + 2) ∧ (∀ g, 2 ≤ T g → ∃ y ∈ vs, y.ownBlock = some g) ∧ ∀ g, (∀ y ∈ vs, y.ownBlock ≠ some g) → T g = 0 := by
  classical
  refine ⟨fun g => if h : ∃ j, ∃ hj : j < vs.length, (vs[j]'hj).ownBlock = some g then h.choose + 2 else 0, fun j hj g hg => ?_, fun g hg => ?_, fun g hg => ?_⟩
  · have hex : ∃ j, ∃ hj : j < vs.length, (vs[j]'hj).ownBlock = some g := ⟨j, hj, hg⟩
    show (if h : ∃ j, ∃ hj : j < vs.length, (vs[j]'hj).ownBlock = some g then h.choose + 2 else 0) = j + 2
    rw [dif_pos hex]
    obtain ⟨hj', hg'⟩ := hex.choose_spec
    rcases Nat.lt_trichotomy hex.choose j with hlt | heq | hgt
    · exact absurd hg (List.pairwise_iff_getElem.1 h hex.choose j hj' hj hlt g hg')
    · omega
    · exact absurd hg' (List.pairwise_iff_getElem.1 h j hex.choose hj hj' hgt g hg)
  · have hg2 : 2 ≤ (if h : ∃ j, ∃ hj : j < vs.length, (vs[j]'hj).ownBlock = some g then h.choose + 2 else 0) := hg
    by_cases hex : ∃ j, ∃ hj : j < vs.length, (vs[j]'hj).ownBlock = some g
    · obtain ⟨j, hj, e⟩ := hex
      exact ⟨_, List.getElem_mem hj, e⟩
    · rw [dif_neg hex] at hg2
      omega
  · show (if h : ∃ j, ∃ hj : j < vs.length, (vs[j]'hj).ownBlock = some g then h.choose + 2 else 0) = 0
    rw [dif_neg]
    rintro ⟨j, hj, e⟩
    exact hg _ (List.getElem_mem hj) e

def InAny (vs : List Value) (k : Nat) : Prop := ∃ y ∈ vs, y.ownBlock = some k

/-- What is left of a book while it is looked at: without the bytes, without the numbers. -/
structure BkI (W : World) (K : Nat) (is ps : List Value) (vb vi vp : Value) : Prop where
  book : At W K (bookC vb vi vp) 51
  irow : W.ownsRow K 27 1 vi is.length is
  prow : W.ownsRow K 167 1 vp ps.length ps
  ieach : ∀ x ∈ is, ∃ xs, W.ownsRow 0 3 1 x x.many xs ∧ xs.length ≤ 300000
  peach : ∀ x ∈ ps, ∃ xs, W.ownsRow 0 169 3 x x.many xs ∧ xs.length ≤ 300000
structure BkP (W : World) (K : Nat) (ps : List Value) (vb vi vp : Value) : Prop where
  book : At W K (bookC vb vi vp) 51
  prow : W.ownsRow K 167 1 vp ps.length ps
  peach : ∀ x ∈ ps, ∃ xs, W.ownsRow 0 169 3 x x.many xs ∧ xs.length ≤ 300000
theorem BkP.below {W W' : World} {K : Nat} {ps : List Value} {vb vi vp : Value} (h : BkP W K ps vb vi vp) (hb : Below W.heap.size W W') : BkP W' K ps vb vi vp :=
  ⟨h.book.below hb h.book.lt, ownsRow_below h.prow hb (Nat.le_refl _), fun x hx => (h.peach x hx).imp fun xs ⟨h1, h2⟩ => ⟨ownsRow_below h1 hb (Nat.le_refl _), h2⟩⟩

theorem inany_at {W : World} {vs : List Value} {e t : TypeId} {sz k : Nat} {cs : Array Value} (h : ∀ x ∈ vs, ∃ xs, W.ownsRow 0 e sz x x.many xs ∧ xs.length ≤ 300000) (ha : At W k cs t) (hne : e ≠ t) : ¬ InAny vs k := fun ⟨y, hy, e'⟩ => by
  obtain ⟨xs, r1, -⟩ := h y hy
  exact own_ne_at r1 ha hne e'
theorem inany_row {W : World} {vs : List Value} {e t : TypeId} {sz sz' B n : Nat} {x : Value} {xs : List Value} (h : ∀ x ∈ vs, ∃ xs, W.ownsRow 0 e sz x x.many xs ∧ xs.length ≤ 300000) (hr : W.ownsRow B t sz' x n xs) (hne : e ≠ t) : ∀ g, x.ownBlock = some g → ¬ InAny vs g := fun g hg ⟨y, hy, e'⟩ => by
  obtain ⟨ys, r1, -⟩ := h y hy
  exact own_ne_own r1 hr hne hg e'
theorem BkAt.toI {W W1 : World} {K : Nat} {bs is ps : List Value} {vb vi vp : Value} (h : BkAt W K bs is ps vb vi vp) (hc : Chg (InAny bs) W W1) : BkI W1 K is ps vb vi vp :=
  ⟨h.book.mod hc (inany_at h.beach h.book (by decide)), ownsRow_mod h.irow hc (inany_row h.beach h.irow (by decide)), ownsRow_mod h.prow hc (inany_row h.beach h.prow (by decide)),
    fun x hx => (h.ieach x hx).imp fun xs ⟨h1, h2⟩ => ⟨ownsRow_mod h1 hc (inany_row h.beach h1 (by decide)), h2⟩, fun x hx => (h.peach x hx).imp fun xs ⟨h1, h2⟩ => ⟨ownsRow_mod h1 hc (inany_row h.beach h1 (by decide)), h2⟩⟩
theorem BkI.toP {W W1 : World} {K : Nat} {is ps : List Value} {vb vi vp : Value} (h : BkI W K is ps vb vi vp) (hc : Chg (InAny is) W W1) : BkP W1 K ps vb vi vp :=
  ⟨h.book.mod hc (inany_at h.ieach h.book (by decide)), ownsRow_mod h.prow hc (inany_row h.ieach h.prow (by decide)),
    fun x hx => (h.peach x hx).imp fun xs ⟨h1, h2⟩ => ⟨ownsRow_mod h1 hc (inany_row h.ieach h1 (by decide)), h2⟩⟩
theorem BkP.done {W W1 : World} {K : Nat} {ps : List Value} {vb vi vp : Value} (h : BkP W K ps vb vi vp) (hc : Chg (InAny ps) W W1) : At W1 K (bookC vb vi vp) 51 := h.book.mod hc (inany_at h.peach h.book (by decide))

theorem fam_of {W : World} {e : TypeId} {sz : Nat} {T : Nat → Nat} {vs : List Value} (h : ∀ x ∈ vs, ∃ xs, W.ownsRow 0 e sz x x.many xs ∧ xs.length ≤ 300000) (hT : ∀ j (hj : j < vs.length) g, vs[j].ownBlock = some g → T g = j + 2) : Fam W 0 e sz T vs (fun _ xs => xs.length ≤ 300000) :=
  ⟨fun j hj => h _ (List.getElem_mem hj), hT⟩
theorem tag_row {W : World} {e t : TypeId} {sz sz' B n : Nat} {T : Nat → Nat} {vs xs : List Value} {v : Value} (h : ∀ x ∈ vs, ∃ xs, W.ownsRow 0 e sz x x.many xs ∧ xs.length ≤ 300000) (hr : W.ownsRow B t sz' v n xs) (hne : e ≠ t) (h0 : ∀ g, (∀ y ∈ vs, y.ownBlock ≠ some g) → T g = 0) : ∀ g, v.ownBlock = some g → T g = 0 := fun g hg => h0 g fun y hy e' => inany_row h hr hne g hg ⟨y, hy, e'⟩

set_option maxRecDepth 100000 in
set_option maxHeartbeats 8000000 in
theorem book_own {W : World} {K : Nat} {bs is ps : List Value} (h : Bk W K bs is ps) (hb : bs.length ≤ 1000000) (hi : is.length ≤ 1000000) (hp : ps.length ≤ 1000000) :
    Calls Tryz.prog 16 #[.pointer (some ⟨K, 0, none⟩)] W fun e W' => e = .returned (.bool true) ∧ Chg (fun k => InAny bs k ∨ InAny is k ∨ InAny ps k) W W' := by
  obtain ⟨vb, vi, vp, hA⟩ := h
  have hbook := hA.book
  have c0 : W.cell? ⟨K, 0, none⟩ = some vb := hbook.cell 0
  obtain ⟨Tb, tb1, tb2, tb3⟩ := tags_of hA.balone
  obtain ⟨Ti, ti1, ti2, ti3⟩ := tags_of hA.ialone
  obtain ⟨Tp, tp1, tp2, tp3⟩ := tags_of hA.palone
  have kb := Lib.hid (ownb_any W 0 Tb bs vb (rebase_row hA.brow (Nat.zero_le _)) (tag_row hA.beach hA.brow (by decide) tb3) (fam_of hA.beach tb1) hb (Nat.zero_le _))
  have ki : Hid (∀ w1, BkI w1 K is ps vb vi vp → _) := fun w1 h1 => owni_any w1 0 Ti is vi (rebase_row h1.irow (Nat.zero_le _)) (tag_row h1.ieach h1.irow (by decide) ti3) (fam_of h1.ieach ti1) hi (Nat.zero_le _)
  have kp : Hid (∀ w1, BkP w1 K ps vb vi vp → _) := fun w1 h1 => ownp_any w1 0 Tp ps vp (rebase_row h1.prow (Nat.zero_le _)) (tag_row h1.peach h1.prow (by decide) tp3) (fam_of h1.peach tp1) hp (Nat.zero_le _)
  have HA := Lib.hid hA
  have HTB : Hid (∀ k, 2 ≤ Tb k → InAny bs k) := fun k hk => tb2 k hk
  have HTI : Hid (∀ k, 2 ≤ Ti k → InAny is k) := fun k hk => ti2 k hk
  have HTP : Hid (∀ k, 2 ≤ Tp k → InAny ps k) := fun k hk => tp2 k hk
  clear hA hbook tb1 tb2 tb3 ti1 ti2 ti3 tp1 tp2 tp3 hb hi hp
  go_enter Tryz.func16, Tryz.ntmps16
  go_wp2_with (first
    | (go_at_call 45; (with_reducible refine kb.out.mono ?_); rintro e w1 ⟨rfl, hc1⟩; have HC1 : Hid (Chg (InAny bs) W w1) := hc1.mono HTB.out; have HI1 := Lib.hid (HA.out.toI HC1.out); clear c0 hc1; have d1 : w1.cell? ⟨K, 1, none⟩ = some (.slice none 0 0) := HI1.out.book.cell 1; have d2 : w1.cell? ⟨K, 2, none⟩ = some vi := HI1.out.book.cell 2)
    | (go_at_call 46; (with_reducible refine (ownTexts_nil _).mono ?_); rintro e w2 ⟨rfl, rfl⟩)
    | (go_at_call 47; (with_reducible refine (ki.out _ HI1.out).mono ?_); rintro e w2 ⟨rfl, hc2⟩; have HC2 : Hid (Chg (InAny is) w1 w2) := hc2.mono HTI.out; have HP2 := Lib.hid (HI1.out.toP HC2.out); clear d1 d2 hc2; have d3 : w2.cell? ⟨K, 3, none⟩ = some (.slice none 0 0) := HP2.out.book.cell 3; have d4 : w2.cell? ⟨K, 4, none⟩ = some (.slice none 0 0) := HP2.out.book.cell 4; have d5 : w2.cell? ⟨K, 5, none⟩ = some (.slice none 0 0) := HP2.out.book.cell 5; have d6 : w2.cell? ⟨K, 6, none⟩ = some (.slice none 0 0) := HP2.out.book.cell 6; have d7 : w2.cell? ⟨K, 7, none⟩ = some (.slice none 0 0) := HP2.out.book.cell 7)
    | (go_at_call 48; (with_reducible refine (ownNumbers_nil _).mono ?_); rintro e w3 ⟨rfl, rfl⟩)
    | (go_at_call 49; (with_reducible refine (ownErrs_nil _).mono ?_); rintro e w3 ⟨rfl, rfl⟩)
    | (go_at_call 50; (with_reducible refine (ownSpans_nil _).mono ?_); rintro e w3 ⟨rfl, rfl⟩)
    | (go_at_call 51; (with_reducible refine (ownStates_nil _).mono ?_); rintro e w3 ⟨rfl, rfl⟩)
    | (go_at_call 52; (with_reducible refine (ownBools_nil _).mono ?_); rintro e w4 ⟨rfl, hb4⟩; have HB4 := Lib.hid hb4; have HP4 := Lib.hid (HP2.out.below hb4); clear d3 d4 d5 d6 d7 hb4; have d8 : w4.cell? ⟨K, 8, none⟩ = some (.slice none 0 0) := HP4.out.book.cell 8; have d9 : w4.cell? ⟨K, 9, none⟩ = some (.slice none 0 0) := HP4.out.book.cell 9; have d10 : w4.cell? ⟨K, 10, none⟩ = some vp := HP4.out.book.cell 10)
    | (go_at_call 53; (with_reducible refine (ownRows_nil _).mono ?_); rintro e w5 ⟨rfl, rfl⟩)
    | (go_at_call 54; (with_reducible refine (ownPuts_nil _).mono ?_); rintro e w5 ⟨rfl, rfl⟩)
    | (go_at_call 55; (with_reducible refine (kp.out _ HP4.out).mono ?_); rintro e w5 ⟨rfl, hc5⟩; have HC5 : Hid (Chg (InAny ps) w4 w5) := hc5.mono HTP.out; have hbk := HP4.out.done HC5.out; clear d8 d9 d10 hc5; have d11 : w5.cell? ⟨K, 11, none⟩ = some (.slice none 0 0) := hbk.cell 11; clear hbk)
    | (go_at_call 56; (with_reducible refine (ownTxns_nil _).mono ?_); rintro e w6 ⟨rfl, rfl⟩))
  go_ret
  exact ⟨rfl, (((HC1.out.mono fun k hk => .inl hk).trans (HC2.out.mono fun k hk => .inr (.inl hk))).trans (Chg.ofBelow HB4.out _)).trans (HC5.out.mono fun k hk => .inr (.inr hk))⟩

end Go.Proofs.YtleicmmbaacbmaaGreat
