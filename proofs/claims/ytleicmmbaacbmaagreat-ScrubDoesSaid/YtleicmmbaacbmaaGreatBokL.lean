/- The book of what came out. -/
import Derived.Test.YtleicmmbaacbmaaGreatBokOb
import Derived.Test.YtleicmmbaacbmaaGreatBokOi
import Derived.Test.YtleicmmbaacbmaaGreatBokOp
set_option linter.unusedVariables false
namespace Go.Proofs.YtleicmmbaacbmaaGreat
open Go.RowKit

/-- The book's cells: the lists of bytes, of numbers, of patches. -/
def bookC (vb vi vp : Value) : Array Value := #[vb, .slice none 0 0, vi, .slice none 0 0, .slice none 0 0, .slice none 0 0, .slice none 0 0, .slice none 0 0, .slice none 0 0, .slice none 0 0, vp, .slice none 0 0]

/-- None of them shares a block with another one. -/
abbrev Alone (vs : List Value) : Prop := vs.Pairwise fun x y => ∀ g, x.ownBlock = some g → y.ownBlock ≠ some g
abbrev OffAll (vs : List Value) (x : Value) : Prop := ∀ y ∈ vs, ∀ g, y.ownBlock = some g → x.ownBlock ≠ some g

structure BkAt (W : World) (K : Nat) (bs is ps : List Value) (vb vi vp : Value) : Prop where
  book : At W K (bookC vb vi vp) 51
  brow : W.ownsRow K 53 1 vb bs.length bs
  irow : W.ownsRow K 27 1 vi is.length is
  prow : W.ownsRow K 167 1 vp ps.length ps
  beach : ∀ x ∈ bs, ∃ xs, W.ownsRow 0 5 1 x x.many xs ∧ xs.length ≤ 300000
  ieach : ∀ x ∈ is, ∃ xs, W.ownsRow 0 3 1 x x.many xs ∧ xs.length ≤ 300000
  peach : ∀ x ∈ ps, ∃ xs, W.ownsRow 0 169 3 x x.many xs ∧ xs.length ≤ 300000
  balone : Alone bs
  ialone : Alone is
  palone : Alone ps
def Bk (W : World) (K : Nat) (bs is ps : List Value) : Prop := ∃ vb vi vp, BkAt W K bs is ps vb vi vp

/-- What an entry may turn: the book, and its lists of lists. -/
def BkS (W : World) (K k : Nat) : Prop := K ≤ k ∧ ∃ cs t, At W k cs t ∧ (t = 51 ∨ t = 53 ∨ t = 27 ∨ t = 167)

theorem Bk.below {W W' : World} {K : Nat} {bs is ps : List Value} (h : Bk W K bs is ps) (hb : Below W.heap.size W W') : Bk W' K bs is ps := by
  obtain ⟨vb, vi, vp, h⟩ := h
  exact ⟨vb, vi, vp, h.book.below hb h.book.lt, ownsRow_below h.brow hb (Nat.le_refl _), ownsRow_below h.irow hb (Nat.le_refl _), ownsRow_below h.prow hb (Nat.le_refl _),
    fun x hx => (h.beach x hx).imp fun xs ⟨h1, h2⟩ => ⟨ownsRow_below h1 hb (Nat.le_refl _), h2⟩, fun x hx => (h.ieach x hx).imp fun xs ⟨h1, h2⟩ => ⟨ownsRow_below h1 hb (Nat.le_refl _), h2⟩, fun x hx => (h.peach x hx).imp fun xs ⟨h1, h2⟩ => ⟨ownsRow_below h1 hb (Nat.le_refl _), h2⟩, h.balone, h.ialone, h.palone⟩

theorem alone_snoc {vs : List Value} {x : Value} (h : Alone vs) (hx : OffAll vs x) : Alone (vs ++ [x]) := by
  show List.Pairwise _ (_ ++ _)
  rw [List.pairwise_append]
  exact ⟨h, List.pairwise_singleton _ _, fun y hy z hz => by
    obtain rfl : z = x := by simpa using hz
    exact hx y hy⟩

/-- A row is off a block of another type. -/
theorem row_off {W : World} {B sz n g : Nat} {e t : TypeId} {x : Value} {xs cs : List Value} {cs' : Array Value} (h : W.ownsRow B e sz x n xs) (ha : At W g cs' t) (hne : e ≠ t) : ∀ z, x.ownBlock = some z → z ≠ g := fun z hz e' => own_ne_at h ha hne (e' ▸ hz)

theorem bks_kept {W W1 : World} {K : Nat} {v u : Value} {n : Nat} {xs : List Value} {t : TypeId} {o : Obj} {j : Nat} {cs : Array Value} (hb : At W K cs 51) (hr : W.ownsRow K t 1 v n xs) (ht : t = 53 ∨ t = 27 ∨ t = 167) (hc : Chg (fun k => v.ownBlock = some k) (W.alloc o) W1) : Chg (BkS W K) W (W1.setCell ⟨K, j, none⟩ u) := by
  have h1 : Chg (BkS W K) W (W.alloc o) := ((Chg.refl _ _).alloc o)
  have h2 : Chg (BkS W K) (W.alloc o) W1 := hc.mono fun k hk => by
    obtain ⟨hB, hlt⟩ := hr.lt k hk
    rcases hr.2 with ⟨e, _⟩ | ⟨g, cap, cur, e, -, hg, -⟩
    · rw [e] at hk; cases hk
    · rw [e] at hk
      simp only [Value.ownBlock, Option.some.injEq] at hk
      subst hk
      exact ⟨hB, cur, t, hg, .inr ht⟩
  exact (h1.trans h2).trans (Chg.setCell (S := BkS W K) (Chg.refl _ _) ⟨K, j, none⟩ (.inl ⟨Nat.le_refl _, cs, _, hb, .inl rfl⟩) u)

/-- A row of numbers or patches stands beside an entry. -/
theorem bks_off {W : World} {B sz n K : Nat} {e : TypeId} {x : Value} {xs : List Value} (h : W.ownsRow B e sz x n xs) (h1 : e ≠ 51) (h2 : e ≠ 53) (h3 : e ≠ 27) (h4 : e ≠ 167) : ∀ z, x.ownBlock = some z → ¬ BkS W K z := fun z hz ⟨_, cs, t, ha, ht⟩ => by
  rcases ht with rfl | rfl | rfl | rfl
  · exact own_ne_at h ha h1 hz
  · exact own_ne_at h ha h2 hz
  · exact own_ne_at h ha h3 hz
  · exact own_ne_at h ha h4 hz

/-- What stands of a book whose cell j and whose list v has turned. -/
theorem bk_each {W W' : World} {K sz : Nat} {e : TypeId} {vs : List Value} (h : ∀ x ∈ vs, ∃ xs, W.ownsRow 0 e sz x x.many xs ∧ xs.length ≤ 300000) (hc : Chg (BkS W K) W W') (h1 : e ≠ 51) (h2 : e ≠ 53) (h3 : e ≠ 27) (h4 : e ≠ 167) : ∀ x ∈ vs, ∃ xs, W'.ownsRow 0 e sz x x.many xs ∧ xs.length ≤ 300000 := fun x hx => by
  obtain ⟨xs, r1, r2⟩ := h x hx
  exact ⟨xs, ownsRow_mod r1 hc (bks_off r1 h1 h2 h3 h4), r2⟩
theorem bk_each_snoc {W : World} {sz n : Nat} {e : TypeId} {vs xs : List Value} {x : Value} (h : ∀ x ∈ vs, ∃ xs, W.ownsRow 0 e sz x x.many xs ∧ xs.length ≤ 300000) (hx : W.ownsRow 0 e sz x n xs) (hl : xs.length ≤ 300000) : ∀ y ∈ vs ++ [x], ∃ xs, W.ownsRow 0 e sz y y.many xs ∧ xs.length ≤ 300000 := fun y hy => by
  rcases List.mem_append.1 hy with hy | hy
  · exact h y hy
  · rw [List.mem_singleton] at hy
    subst hy
    exact ⟨xs, by rw [ownsRow_many hx]; exact hx, hl⟩

set_option maxRecDepth 100000 in
set_option maxHeartbeats 4000000 in
theorem book_bytes {W : World} {K n : Nat} {bs is ps : List Value} {x : Value} {xs : List Value} (h : Bk W K bs is ps) (hn : bs.length ≤ 1000000) (hx : W.ownsRow 0 5 1 x n xs) (hl : xs.length ≤ 300000) (hap : OffAll bs x) :
    Calls Tryz.prog 36 #[.pointer (some ⟨K, 0, none⟩), x] W fun e W' => e = .returned (.tuple #[]) ∧ Bk W' K (bs ++ [x]) is ps ∧ Chg (BkS W K) W W' := by
  obtain ⟨vb, vi, vp, hb⟩ := h
  have hbook := hb.book
  have c0 : W.cell? ⟨K, 0, none⟩ = some vb := hbook.cell 0
  have HB := Lib.hid hb
  have HL := Lib.hid hl
  have hKlt := hbook.lt
  have hvK : (vb).ownBlock ≠ some K := own_ne_at hb.brow hbook (by decide)
  obtain ⟨xa, xc, rfl⟩ := ownsRow_shape hx
  have HX := Lib.hid hx
  have HAP := Lib.hid hap
  have hKW : K ≤ W.heap.size := Nat.le_of_lt hKlt
  clear hb hx hl hap hbook
  go_enter Tryz.func36, Tryz.ntmps36
  go_wp2_with (refine wpList_append_keeps rfl _ _ 38 53 1 24 rfl slice_rowsB K vb bs.length bs rfl (HB.out.brow.alloc _) _ 1 1 [.slice xa n xc] rfl rfl (new_one _ _ _ _ (by first | rfl | simp)) (by intro u hu; rw [List.mem_singleton] at hu; subst hu; rfl) (by unfold maxLen; omega) (by omega) (by rw [size_alloc]; omega) (by omega) ?_; intro v1 w1 hown1 hloc hchg hkeep; have hb1 : At w1 K (bookC vb vi vp) 51 := (HB.out.book.alloc _).mod hchg hvK; have d0 : w1.cell? ⟨K, 0, none⟩ = some vb := hb1.cell 0; have f0 := hb1.free 0; have HB1 := Lib.hid hb1; have HW1 := Lib.hid hown1; have HC1 := Lib.hid hchg; obtain ⟨va, vc, rfl⟩ := ownsRow_shape hown1; clear hown1 hb1 hkeep hchg)
  have HCH := Lib.hid (bks_kept (u := .slice va (bs.length + 1) vc) (j := 0) HB.out.book HB.out.brow (by decide) HC1.out)
  have HST : Hid (Chg (fun k => k = K) w1 (w1.setCell ⟨K, 0, none⟩ (.slice va (bs.length + 1) vc))) := Chg.setCell (S := fun k => k = K) (Chg.refl _ _) ⟨K, 0, none⟩ (.inl rfl) _
  go_end0
  have hset : At (w1.setCell ⟨K, 0, none⟩ (.slice va (bs.length + 1) vc)) K (bookC (.slice va (bs.length + 1) vc) vi vp) 51 := HB1.out.set 0 _
  have hnew : (w1.setCell ⟨K, 0, none⟩ (.slice va (bs.length + 1) vc)).ownsRow K 53 1 (.slice va (bs.length + 1) vc) (bs ++ [Value.slice xa n xc]).length (bs ++ [Value.slice xa n xc]) := by
    rw [List.length_append, List.length_singleton]
    exact ownsRow_mod HW1.out HST.out (fun z hz e => own_ne_at HW1.out HB1.out (by decide) (e ▸ hz))
  have hX' := ownsRow_mod HX.out HCH.out (bks_off HX.out (by decide) (by decide) (by decide) (by decide))
  have hbe := bk_each HB.out.beach HCH.out (by decide) (by decide) (by decide) (by decide)
  have hie := bk_each HB.out.ieach HCH.out (by decide) (by decide) (by decide) (by decide)
  have hpe := bk_each HB.out.peach HCH.out (by decide) (by decide) (by decide) (by decide)
  have hk1 : (w1.setCell ⟨K, 0, none⟩ (.slice va (bs.length + 1) vc)).ownsRow K 27 1 vi is.length is := ownsRow_mod (ownsRow_mod (HB.out.irow.alloc _) HC1.out (fun z hz e => own_ne_own HB.out.irow HB.out.brow (by decide) e hz)) HST.out (fun z hz e => own_ne_at HB.out.irow HB.out.book (by decide) (e ▸ hz))
  have hk2 : (w1.setCell ⟨K, 0, none⟩ (.slice va (bs.length + 1) vc)).ownsRow K 167 1 vp ps.length ps := ownsRow_mod (ownsRow_mod (HB.out.prow.alloc _) HC1.out (fun z hz e => own_ne_own HB.out.prow HB.out.brow (by decide) e hz)) HST.out (fun z hz e => own_ne_at HB.out.prow HB.out.book (by decide) (e ▸ hz))
  exact ⟨rfl, ⟨.slice va (bs.length + 1) vc, vi, vp, hset, hnew, hk1, hk2, bk_each_snoc hbe hX' HL.out, hie, hpe, alone_snoc HB.out.balone HAP.out, HB.out.ialone, HB.out.palone⟩, HCH.out⟩

set_option maxRecDepth 100000 in
set_option maxHeartbeats 4000000 in
theorem book_ints {W : World} {K n : Nat} {bs is ps : List Value} {x : Value} {xs : List Value} (h : Bk W K bs is ps) (hn : is.length ≤ 1000000) (hx : W.ownsRow 0 3 1 x n xs) (hl : xs.length ≤ 300000) (hap : OffAll is x) :
    Calls Tryz.prog 37 #[.pointer (some ⟨K, 0, none⟩), x] W fun e W' => e = .returned (.tuple #[]) ∧ Bk W' K bs (is ++ [x]) ps ∧ Chg (BkS W K) W W' := by
  obtain ⟨vb, vi, vp, hb⟩ := h
  have hbook := hb.book
  have c0 : W.cell? ⟨K, 2, none⟩ = some vi := hbook.cell 2
  have HB := Lib.hid hb
  have HL := Lib.hid hl
  have hKlt := hbook.lt
  have hvK : (vi).ownBlock ≠ some K := own_ne_at hb.irow hbook (by decide)
  obtain ⟨xa, xc, rfl⟩ := ownsRow_shape hx
  have HX := Lib.hid hx
  have HAP := Lib.hid hap
  have hKW : K ≤ W.heap.size := Nat.le_of_lt hKlt
  clear hb hx hl hap hbook
  go_enter Tryz.func37, Tryz.ntmps37
  go_wp2_with (refine wpList_append_keeps rfl _ _ 40 27 1 24 rfl slice_rowsI K vi is.length is rfl (HB.out.irow.alloc _) _ 1 1 [.slice xa n xc] rfl rfl (new_one _ _ _ _ (by first | rfl | simp)) (by intro u hu; rw [List.mem_singleton] at hu; subst hu; rfl) (by unfold maxLen; omega) (by omega) (by rw [size_alloc]; omega) (by omega) ?_; intro v1 w1 hown1 hloc hchg hkeep; have hb1 : At w1 K (bookC vb vi vp) 51 := (HB.out.book.alloc _).mod hchg hvK; have d0 : w1.cell? ⟨K, 2, none⟩ = some vi := hb1.cell 2; have f0 := hb1.free 2; have HB1 := Lib.hid hb1; have HW1 := Lib.hid hown1; have HC1 := Lib.hid hchg; obtain ⟨va, vc, rfl⟩ := ownsRow_shape hown1; clear hown1 hb1 hkeep hchg)
  have HCH := Lib.hid (bks_kept (u := .slice va (is.length + 1) vc) (j := 2) HB.out.book HB.out.irow (by decide) HC1.out)
  have HST : Hid (Chg (fun k => k = K) w1 (w1.setCell ⟨K, 2, none⟩ (.slice va (is.length + 1) vc))) := Chg.setCell (S := fun k => k = K) (Chg.refl _ _) ⟨K, 2, none⟩ (.inl rfl) _
  go_end0
  have hset : At (w1.setCell ⟨K, 2, none⟩ (.slice va (is.length + 1) vc)) K (bookC vb (.slice va (is.length + 1) vc) vp) 51 := HB1.out.set 2 _
  have hnew : (w1.setCell ⟨K, 2, none⟩ (.slice va (is.length + 1) vc)).ownsRow K 27 1 (.slice va (is.length + 1) vc) (is ++ [Value.slice xa n xc]).length (is ++ [Value.slice xa n xc]) := by
    rw [List.length_append, List.length_singleton]
    exact ownsRow_mod HW1.out HST.out (fun z hz e => own_ne_at HW1.out HB1.out (by decide) (e ▸ hz))
  have hX' := ownsRow_mod HX.out HCH.out (bks_off HX.out (by decide) (by decide) (by decide) (by decide))
  have hbe := bk_each HB.out.beach HCH.out (by decide) (by decide) (by decide) (by decide)
  have hie := bk_each HB.out.ieach HCH.out (by decide) (by decide) (by decide) (by decide)
  have hpe := bk_each HB.out.peach HCH.out (by decide) (by decide) (by decide) (by decide)
  have hk0 : (w1.setCell ⟨K, 2, none⟩ (.slice va (is.length + 1) vc)).ownsRow K 53 1 vb bs.length bs := ownsRow_mod (ownsRow_mod (HB.out.brow.alloc _) HC1.out (fun z hz e => own_ne_own HB.out.brow HB.out.irow (by decide) e hz)) HST.out (fun z hz e => own_ne_at HB.out.brow HB.out.book (by decide) (e ▸ hz))
  have hk2 : (w1.setCell ⟨K, 2, none⟩ (.slice va (is.length + 1) vc)).ownsRow K 167 1 vp ps.length ps := ownsRow_mod (ownsRow_mod (HB.out.prow.alloc _) HC1.out (fun z hz e => own_ne_own HB.out.prow HB.out.irow (by decide) e hz)) HST.out (fun z hz e => own_ne_at HB.out.prow HB.out.book (by decide) (e ▸ hz))
  exact ⟨rfl, ⟨vb, .slice va (is.length + 1) vc, vp, hset, hk0, hnew, hk2, hbe, bk_each_snoc hie hX' HL.out, hpe, HB.out.balone, alone_snoc HB.out.ialone HAP.out, HB.out.palone⟩, HCH.out⟩

theorem bks_trans {W wx wy : World} {K : Nat} (h : Chg (BkS W K) W wx) (h' : Chg (BkS wx K) wx wy) : Chg (BkS W K) W wy :=
  ⟨h'.os.trans h.os, h'.tape.trans h.tape, h'.output.trans h.output, Nat.le_trans h.size h'.size, fun k hk hn => by
    have e := h.block k hk hn
    refine (h'.block k (Nat.lt_of_lt_of_le hk h.size) fun ⟨hK, cs, t, ha, ht⟩ => hn ⟨hK, cs, t, ?_, ht⟩).trans e
    unfold At at ha ⊢
    rw [← e]
    exact ha⟩
theorem bks_below {W W' : World} {K : Nat} (h : Chg (BkS W K) W W') (hK : K ≤ W.heap.size) : Below K W W' := h.below fun k hk => ⟨Nat.lt_of_lt_of_le hk hK, fun ⟨h1, _⟩ => by omega⟩

end Go.Proofs.YtleicmmbaacbmaaGreat
