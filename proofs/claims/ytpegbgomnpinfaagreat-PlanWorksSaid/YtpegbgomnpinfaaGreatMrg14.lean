/- Several texts in one: PlzL, PlzM. -/
import Derived.Test.YtpegbgomnpinfaaGreatPlzOb
import Derived.Test.YtpegbgomnpinfaaGreatPlzOi
import Derived.Test.YtpegbgomnpinfaaGreatPlzOp
/- The book of what came out. -/
set_option linter.unusedVariables false
namespace Go.Proofs.YtpegbgomnpinfaaGreat
open Go.RowKit

/-- The book's cells: the lists of bytes, of numbers, of patches. -/
def bookC (vb vi vp : Value) : Array Value := #[vb, .slice none 0 0, vi, .slice none 0 0, .slice none 0 0, .slice none 0 0, .slice none 0 0, .slice none 0 0, .slice none 0 0, .slice none 0 0, vp, .slice none 0 0]

/-- None of them shares a block with another one. -/
abbrev Alone (vs : List Value) : Prop := vs.Pairwise fun x y => ∀ g, x.ownBlock = some g → y.ownBlock ≠ some g
abbrev OffAll (vs : List Value) (x : Value) : Prop := ∀ y ∈ vs, ∀ g, y.ownBlock = some g → x.ownBlock ≠ some g

structure BkAt (W : World) (K : Nat) (bs is ps : List Value) (vb vi vp : Value) : Prop where
  book : At W K (bookC vb vi vp) 51
  brow : W.ownsRow K 53 1 vb bs.length bs
  irow : W.ownsRow K 27 1 vi is.length is
  prow : W.ownsRow K 69 1 vp ps.length ps
  beach : ∀ x ∈ bs, ∃ xs, W.ownsRow 0 5 1 x x.many xs ∧ xs.length ≤ 300000
  ieach : ∀ x ∈ is, ∃ xs, W.ownsRow 0 3 1 x x.many xs ∧ xs.length ≤ 300000
  peach : ∀ x ∈ ps, ∃ xs, W.ownsRow 0 153 3 x x.many xs ∧ xs.length ≤ 300000
  balone : Alone bs
  ialone : Alone is
  palone : Alone ps
def Bk (W : World) (K : Nat) (bs is ps : List Value) : Prop := ∃ vb vi vp, BkAt W K bs is ps vb vi vp

/-- What an entry may turn: the book, and its lists of lists. -/
def BkS (W : World) (K k : Nat) : Prop := K ≤ k ∧ ∃ cs t, At W k cs t ∧ (t = 51 ∨ t = 53 ∨ t = 27 ∨ t = 69)

theorem Bk.below {W W' : World} {K : Nat} {bs is ps : List Value} (h : Bk W K bs is ps) (hb : Below W.heap.size W W') : Bk W' K bs is ps := by
  obtain ⟨vb, vi, vp, h⟩ := h
  exact ⟨vb, vi, vp, h.book.below hb h.book.lt, ownsRow_below h.brow hb (Nat.le_refl _), ownsRow_below h.irow hb (Nat.le_refl _), ownsRow_below h.prow hb (Nat.le_refl _),
    fun x hx => (h.beach x hx).imp fun xs ⟨h1, h2⟩ => ⟨ownsRow_below h1 hb (Nat.le_refl _), h2⟩, fun x hx => (h.ieach x hx).imp fun xs ⟨h1, h2⟩ => ⟨ownsRow_below h1 hb (Nat.le_refl _), h2⟩, fun x hx => (h.peach x hx).imp fun xs ⟨h1, h2⟩ => ⟨ownsRow_below h1 hb (Nat.le_refl _), h2⟩, h.balone, h.ialone, h.palone⟩

theorem alone_snoc {vs : List Value} {x : Value} (h : Alone vs) (hx : OffAll vs x) : Alone (vs ++ [x]) := by
  show List.Pairwise _ (_ ++ _)
  rw [List.pairwise_append]
  exact ⟨h, List.pairwise_singleton _ _, fun y hy z hz => by
    obtain rfl : z = x := by simpa using hz
    exact hx y hy⟩

/-- A row is off a block of another type. -/
theorem row_off {W : World} {B sz n g : Nat} {e t : TypeId} {x : Value} {xs cs : List Value} {cs' : Array Value} (h : W.ownsRow B e sz x n xs) (ha : At W g cs' t) (hne : e ≠ t) : ∀ z, x.ownBlock = some z → z ≠ g := fun z hz e' => own_ne_at h ha hne (e' ▸ hz)

theorem bks_kept {W W1 : World} {K : Nat} {v u : Value} {n : Nat} {xs : List Value} {t : TypeId} {o : Obj} {j : Nat} {cs : Array Value} (hb : At W K cs 51) (hr : W.ownsRow K t 1 v n xs) (ht : t = 53 ∨ t = 27 ∨ t = 69) (hc : Chg (fun k => v.ownBlock = some k) (W.alloc o) W1) : Chg (BkS W K) W (W1.setCell ⟨K, j, none⟩ u) := by
  have h1 : Chg (BkS W K) W (W.alloc o) := ((Chg.refl _ _).alloc o)
  have h2 : Chg (BkS W K) (W.alloc o) W1 := hc.mono fun k hk => by
    obtain ⟨hB, hlt⟩ := hr.lt k hk
    rcases hr.2 with ⟨e, _⟩ | ⟨g, cap, cur, e, -, hg, -⟩
    · rw [e] at hk; cases hk
    · rw [e] at hk
      simp only [Value.ownBlock, Option.some.injEq] at hk
      subst hk
      exact ⟨hB, cur, t, hg, .inr ht⟩
  exact (h1.trans h2).trans (Chg.setCell (S := BkS W K) (Chg.refl _ _) ⟨K, j, none⟩ (.inl ⟨Nat.le_refl _, cs, _, hb, .inl rfl⟩) u)

/-- A row of numbers or patches stands beside an entry. -/
theorem bks_off {W : World} {B sz n K : Nat} {e : TypeId} {x : Value} {xs : List Value} (h : W.ownsRow B e sz x n xs) (h1 : e ≠ 51) (h2 : e ≠ 53) (h3 : e ≠ 27) (h4 : e ≠ 69) : ∀ z, x.ownBlock = some z → ¬ BkS W K z := fun z hz ⟨_, cs, t, ha, ht⟩ => by
  rcases ht with rfl | rfl | rfl | rfl
  · exact own_ne_at h ha h1 hz
  · exact own_ne_at h ha h2 hz
  · exact own_ne_at h ha h3 hz
  · exact own_ne_at h ha h4 hz

/-- What stands of a book whose cell j and whose list v has turned. -/
theorem bk_each {W W' : World} {K sz : Nat} {e : TypeId} {vs : List Value} (h : ∀ x ∈ vs, ∃ xs, W.ownsRow 0 e sz x x.many xs ∧ xs.length ≤ 300000) (hc : Chg (BkS W K) W W') (h1 : e ≠ 51) (h2 : e ≠ 53) (h3 : e ≠ 27) (h4 : e ≠ 69) : ∀ x ∈ vs, ∃ xs, W'.ownsRow 0 e sz x x.many xs ∧ xs.length ≤ 300000 := fun x hx => by
  obtain ⟨xs, r1, r2⟩ := h x hx
  exact ⟨xs, ownsRow_mod r1 hc (bks_off r1 h1 h2 h3 h4), r2⟩
theorem bk_each_snoc {W : World} {sz n : Nat} {e : TypeId} {vs xs : List Value} {x : Value} (h : ∀ x ∈ vs, ∃ xs, W.ownsRow 0 e sz x x.many xs ∧ xs.length ≤ 300000) (hx : W.ownsRow 0 e sz x n xs) (hl : xs.length ≤ 300000) : ∀ y ∈ vs ++ [x], ∃ xs, W.ownsRow 0 e sz y y.many xs ∧ xs.length ≤ 300000 := fun y hy => by
  rcases List.mem_append.1 hy with hy | hy
  · exact h y hy
  · rw [List.mem_singleton] at hy
    subst hy
    exact ⟨xs, by rw [ownsRow_many hx]; exact hx, hl⟩

set_option maxRecDepth 100000 in
set_option maxHeartbeats 4000000 in
theorem book_bytes {W : World} {K n : Nat} {bs is ps : List Value} {x : Value} {xs : List Value} (h : Bk W K bs is ps) (hn : bs.length ≤ 1000000) (hx : W.ownsRow 0 5 1 x n xs) (hl : xs.length ≤ 300000) (hap : OffAll bs x) :
    Calls Tryz.prog 42 #[.pointer (some ⟨K, 0, none⟩), x] W fun e W' => e = .returned (.tuple #[]) ∧ Bk W' K (bs ++ [x]) is ps ∧ Chg (BkS W K) W W' := by
  obtain ⟨vb, vi, vp, hb⟩ := h
  have hbook := hb.book
  have c0 : W.cell? ⟨K, 0, none⟩ = some vb := hbook.cell 0
  have HB := Lib.hid hb
  have HL := Lib.hid hl
  have hKlt := hbook.lt
  have hvK : (vb).ownBlock ≠ some K := own_ne_at hb.brow hbook (by decide)
  obtain ⟨xa, xc, rfl⟩ := ownsRow_shape hx
  have HX := Lib.hid hx
  have HAP := Lib.hid hap
  have hKW : K ≤ W.heap.size := Nat.le_of_lt hKlt
  clear hb hx hl hap hbook
  go_enter Tryz.func42, Tryz.ntmps42
  go_wp2_with (refine wpList_append_keeps rfl _ _ 38 53 1 24 rfl slice_rowsB K vb bs.length bs rfl (HB.out.brow.alloc _) _ 1 1 [.slice xa n xc] rfl rfl (new_one _ _ _ _ (by first | rfl | simp)) (by intro u hu; rw [List.mem_singleton] at hu; subst hu; rfl) (by unfold maxLen; omega) (by omega) (by rw [size_alloc]; omega) (by omega) ?_; intro v1 w1 hown1 hloc hchg hkeep; have hb1 : At w1 K (bookC vb vi vp) 51 := (HB.out.book.alloc _).mod hchg hvK; have d0 : w1.cell? ⟨K, 0, none⟩ = some vb := hb1.cell 0; have f0 := hb1.free 0; have HB1 := Lib.hid hb1; have HW1 := Lib.hid hown1; have HC1 := Lib.hid hchg; obtain ⟨va, vc, rfl⟩ := ownsRow_shape hown1; clear hown1 hb1 hkeep hchg)
  have HCH := Lib.hid (bks_kept (u := .slice va (bs.length + 1) vc) (j := 0) HB.out.book HB.out.brow (by decide) HC1.out)
  have HST : Hid (Chg (fun k => k = K) w1 (w1.setCell ⟨K, 0, none⟩ (.slice va (bs.length + 1) vc))) := Chg.setCell (S := fun k => k = K) (Chg.refl _ _) ⟨K, 0, none⟩ (.inl rfl) _
  go_end0
  have hset : At (w1.setCell ⟨K, 0, none⟩ (.slice va (bs.length + 1) vc)) K (bookC (.slice va (bs.length + 1) vc) vi vp) 51 := HB1.out.set 0 _
  have hnew : (w1.setCell ⟨K, 0, none⟩ (.slice va (bs.length + 1) vc)).ownsRow K 53 1 (.slice va (bs.length + 1) vc) (bs ++ [Value.slice xa n xc]).length (bs ++ [Value.slice xa n xc]) := by
    rw [List.length_append, List.length_singleton]
    exact ownsRow_mod HW1.out HST.out (fun z hz e => own_ne_at HW1.out HB1.out (by decide) (e ▸ hz))
  have hX' := ownsRow_mod HX.out HCH.out (bks_off HX.out (by decide) (by decide) (by decide) (by decide))
  have hbe := bk_each HB.out.beach HCH.out (by decide) (by decide) (by decide) (by decide)
  have hie := bk_each HB.out.ieach HCH.out (by decide) (by decide) (by decide) (by decide)
  have hpe := bk_each HB.out.peach HCH.out (by decide) (by decide) (by decide) (by decide)
  have hk1 : (w1.setCell ⟨K, 0, none⟩ (.slice va (bs.length + 1) vc)).ownsRow K 27 1 vi is.length is := ownsRow_mod (ownsRow_mod (HB.out.irow.alloc _) HC1.out (fun z hz e => own_ne_own HB.out.irow HB.out.brow (by decide) e hz)) HST.out (fun z hz e => own_ne_at HB.out.irow HB.out.book (by decide) (e ▸ hz))
  have hk2 : (w1.setCell ⟨K, 0, none⟩ (.slice va (bs.length + 1) vc)).ownsRow K 69 1 vp ps.length ps := ownsRow_mod (ownsRow_mod (HB.out.prow.alloc _) HC1.out (fun z hz e => own_ne_own HB.out.prow HB.out.brow (by decide) e hz)) HST.out (fun z hz e => own_ne_at HB.out.prow HB.out.book (by decide) (e ▸ hz))
  exact ⟨rfl, ⟨.slice va (bs.length + 1) vc, vi, vp, hset, hnew, hk1, hk2, bk_each_snoc hbe hX' HL.out, hie, hpe, alone_snoc HB.out.balone HAP.out, HB.out.ialone, HB.out.palone⟩, HCH.out⟩

set_option maxRecDepth 100000 in
set_option maxHeartbeats 4000000 in
theorem book_ints {W : World} {K n : Nat} {bs is ps : List Value} {x : Value} {xs : List Value} (h : Bk W K bs is ps) (hn : is.length ≤ 1000000) (hx : W.ownsRow 0 3 1 x n xs) (hl : xs.length ≤ 300000) (hap : OffAll is x) :
    Calls Tryz.prog 63 #[.pointer (some ⟨K, 0, none⟩), x] W fun e W' => e = .returned (.tuple #[]) ∧ Bk W' K bs (is ++ [x]) ps ∧ Chg (BkS W K) W W' := by
  obtain ⟨vb, vi, vp, hb⟩ := h
  have hbook := hb.book
  have c0 : W.cell? ⟨K, 2, none⟩ = some vi := hbook.cell 2
  have HB := Lib.hid hb
  have HL := Lib.hid hl
  have hKlt := hbook.lt
  have hvK : (vi).ownBlock ≠ some K := own_ne_at hb.irow hbook (by decide)
  obtain ⟨xa, xc, rfl⟩ := ownsRow_shape hx
  have HX := Lib.hid hx
  have HAP := Lib.hid hap
  have hKW : K ≤ W.heap.size := Nat.le_of_lt hKlt
  clear hb hx hl hap hbook
  go_enter Tryz.func63, Tryz.ntmps63
  go_wp2_with (refine wpList_append_keeps rfl _ _ 40 27 1 24 rfl slice_rowsI K vi is.length is rfl (HB.out.irow.alloc _) _ 1 1 [.slice xa n xc] rfl rfl (new_one _ _ _ _ (by first | rfl | simp)) (by intro u hu; rw [List.mem_singleton] at hu; subst hu; rfl) (by unfold maxLen; omega) (by omega) (by rw [size_alloc]; omega) (by omega) ?_; intro v1 w1 hown1 hloc hchg hkeep; have hb1 : At w1 K (bookC vb vi vp) 51 := (HB.out.book.alloc _).mod hchg hvK; have d0 : w1.cell? ⟨K, 2, none⟩ = some vi := hb1.cell 2; have f0 := hb1.free 2; have HB1 := Lib.hid hb1; have HW1 := Lib.hid hown1; have HC1 := Lib.hid hchg; obtain ⟨va, vc, rfl⟩ := ownsRow_shape hown1; clear hown1 hb1 hkeep hchg)
  have HCH := Lib.hid (bks_kept (u := .slice va (is.length + 1) vc) (j := 2) HB.out.book HB.out.irow (by decide) HC1.out)
  have HST : Hid (Chg (fun k => k = K) w1 (w1.setCell ⟨K, 2, none⟩ (.slice va (is.length + 1) vc))) := Chg.setCell (S := fun k => k = K) (Chg.refl _ _) ⟨K, 2, none⟩ (.inl rfl) _
  go_end0
  have hset : At (w1.setCell ⟨K, 2, none⟩ (.slice va (is.length + 1) vc)) K (bookC vb (.slice va (is.length + 1) vc) vp) 51 := HB1.out.set 2 _
  have hnew : (w1.setCell ⟨K, 2, none⟩ (.slice va (is.length + 1) vc)).ownsRow K 27 1 (.slice va (is.length + 1) vc) (is ++ [Value.slice xa n xc]).length (is ++ [Value.slice xa n xc]) := by
    rw [List.length_append, List.length_singleton]
    exact ownsRow_mod HW1.out HST.out (fun z hz e => own_ne_at HW1.out HB1.out (by decide) (e ▸ hz))
  have hX' := ownsRow_mod HX.out HCH.out (bks_off HX.out (by decide) (by decide) (by decide) (by decide))
  have hbe := bk_each HB.out.beach HCH.out (by decide) (by decide) (by decide) (by decide)
  have hie := bk_each HB.out.ieach HCH.out (by decide) (by decide) (by decide) (by decide)
  have hpe := bk_each HB.out.peach HCH.out (by decide) (by decide) (by decide) (by decide)
  have hk0 : (w1.setCell ⟨K, 2, none⟩ (.slice va (is.length + 1) vc)).ownsRow K 53 1 vb bs.length bs := ownsRow_mod (ownsRow_mod (HB.out.brow.alloc _) HC1.out (fun z hz e => own_ne_own HB.out.brow HB.out.irow (by decide) e hz)) HST.out (fun z hz e => own_ne_at HB.out.brow HB.out.book (by decide) (e ▸ hz))
  have hk2 : (w1.setCell ⟨K, 2, none⟩ (.slice va (is.length + 1) vc)).ownsRow K 69 1 vp ps.length ps := ownsRow_mod (ownsRow_mod (HB.out.prow.alloc _) HC1.out (fun z hz e => own_ne_own HB.out.prow HB.out.irow (by decide) e hz)) HST.out (fun z hz e => own_ne_at HB.out.prow HB.out.book (by decide) (e ▸ hz))
  exact ⟨rfl, ⟨vb, .slice va (is.length + 1) vc, vp, hset, hk0, hnew, hk2, hbe, bk_each_snoc hie hX' HL.out, hpe, HB.out.balone, alone_snoc HB.out.ialone HAP.out, HB.out.palone⟩, HCH.out⟩

end Go.Proofs.YtpegbgomnpinfaaGreat

/- The book: a row of patches. -/
set_option linter.unusedVariables false
namespace Go.Proofs.YtpegbgomnpinfaaGreat
open Go.RowKit

theorem bks_trans {W wx wy : World} {K : Nat} (h : Chg (BkS W K) W wx) (h' : Chg (BkS wx K) wx wy) : Chg (BkS W K) W wy :=
  ⟨h'.os.trans h.os, h'.tape.trans h.tape, h'.output.trans h.output, Nat.le_trans h.size h'.size, fun k hk hn => by
    have e := h.block k hk hn
    refine (h'.block k (Nat.lt_of_lt_of_le hk h.size) fun ⟨hK, cs, t, ha, ht⟩ => hn ⟨hK, cs, t, ?_, ht⟩).trans e
    unfold At at ha ⊢
    rw [← e]
    exact ha⟩
theorem bks_below {W W' : World} {K : Nat} (h : Chg (BkS W K) W W') (hK : K ≤ W.heap.size) : Below K W W' := h.below fun k hk => ⟨Nat.lt_of_lt_of_le hk hK, fun ⟨h1, _⟩ => by omega⟩
theorem ORow.bks {W W' : World} {K B : Nat} {v : Value} {X : List OP} (h : ORow W B v X) (hc : Chg (BkS W K) W W') : ORow W' B v X :=
  h.mod hc (bks_off h.row (by decide) (by decide) (by decide) (by decide)) (fun x hx => bks_off (h.dat x hx) (by decide) (by decide) (by decide) (by decide))

set_option maxRecDepth 100000 in
set_option maxHeartbeats 4000000 in
theorem book_patches {W : World} {K : Nat} {bs is ps : List Value} {v : Value} {X : List OP} (h : Bk W K bs is ps) (hn : bs.length + X.length ≤ 1000000) (hpn : ps.length ≤ 1000000) (hv : ORow W 0 v X) (hXl : X.length ≤ 100000) (hap : OffAll ps v) (hd : ∀ x ∈ X, OffAll bs x.2) :
    Calls Tryz.prog 41 #[.pointer (some ⟨K, 0, none⟩), v] W fun e W' => e = .returned (.tuple #[]) ∧ Bk W' K (bs ++ X.map (·.2)) is (ps ++ [v]) ∧ Chg (BkS W K) W W' := by
  obtain ⟨vb, vi, vp, hb⟩ := h
  have hbook := hb.book
  have c0 : W.cell? ⟨K, 10, none⟩ = some vp := hbook.cell 10
  have HB := Lib.hid hb
  have hKlt := hbook.lt
  have hvK : (vp).ownBlock ≠ some K := own_ne_at hb.prow hbook (by decide)
  obtain ⟨xa, xc, rfl⟩ := ownsRow_shape hv.row
  have HX := Lib.hid hv
  have HAP := Lib.hid hap
  have HD := Lib.hid hd
  have hKW : K ≤ W.heap.size := Nat.le_of_lt hKlt
  clear hb hv hap hbook hd
  go_enter Tryz.func41, Tryz.ntmps41
  go_wp2_with (refine wpList_append_keeps rfl _ _ 48 69 1 24 rfl slice_rows K vp ps.length ps rfl (HB.out.prow.alloc _) _ 1 1 [.slice xa X.length xc] rfl rfl (new_one _ _ _ _ (by first | rfl | simp)) (by intro u hu; rw [List.mem_singleton] at hu; subst hu; rfl) (by unfold maxLen; omega) (by omega) (by rw [size_alloc]; omega) (by omega) ?_; intro v1 w1 hown1 hloc hchg hkeep; have hb1 : At w1 K (bookC vb vi vp) 51 := (HB.out.book.alloc _).mod hchg hvK; have d0 : w1.cell? ⟨K, 10, none⟩ = some vp := hb1.cell 10; have f0 := hb1.free 10; have HB1 := Lib.hid hb1; have HW1 := Lib.hid hown1; have HC1 := Lib.hid hchg; obtain ⟨va, vc, rfl⟩ := ownsRow_shape hown1; clear hown1 hb1 hkeep hchg hloc)
  have HCH := Lib.hid (bks_kept (u := .slice va (ps.length + 1) vc) (j := 10) HB.out.book HB.out.prow (by decide) HC1.out)
  have HST : Hid (Chg (fun k => k = K) w1 (w1.setCell ⟨K, 10, none⟩ (.slice va (ps.length + 1) vc))) := Chg.setCell (S := fun k => k = K) (Chg.refl _ _) ⟨K, 10, none⟩ (.inl rfl) _
  have hset : At (w1.setCell ⟨K, 10, none⟩ (.slice va (ps.length + 1) vc)) K (bookC vb vi (.slice va (ps.length + 1) vc)) 51 := HB1.out.set 10 _
  have hnew : (w1.setCell ⟨K, 10, none⟩ (.slice va (ps.length + 1) vc)).ownsRow K 69 1 (.slice va (ps.length + 1) vc) (ps ++ [Value.slice xa X.length xc]).length (ps ++ [Value.slice xa X.length xc]) := by
    rw [List.length_append, List.length_singleton]
    exact ownsRow_mod HW1.out HST.out (fun z hz e => own_ne_at HW1.out HB1.out (by decide) (e ▸ hz))
  have HXW := Lib.hid (HX.out.bks HCH.out)
  have hbe := bk_each HB.out.beach HCH.out (by decide) (by decide) (by decide) (by decide)
  have hie := bk_each HB.out.ieach HCH.out (by decide) (by decide) (by decide) (by decide)
  have hpe := bk_each HB.out.peach HCH.out (by decide) (by decide) (by decide) (by decide)
  have hk0 : (w1.setCell ⟨K, 10, none⟩ (.slice va (ps.length + 1) vc)).ownsRow K 53 1 vb bs.length bs := ownsRow_mod (ownsRow_mod (HB.out.brow.alloc _) HC1.out (fun z hz e => own_ne_own HB.out.brow HB.out.prow (by decide) e hz)) HST.out (fun z hz e => own_ne_at HB.out.brow HB.out.book (by decide) (e ▸ hz))
  have hk1 : (w1.setCell ⟨K, 10, none⟩ (.slice va (ps.length + 1) vc)).ownsRow K 27 1 vi is.length is := ownsRow_mod (ownsRow_mod (HB.out.irow.alloc _) HC1.out (fun z hz e => own_ne_own HB.out.irow HB.out.prow (by decide) e hz)) HST.out (fun z hz e => own_ne_at HB.out.irow HB.out.book (by decide) (e ▸ hz))
  have HBK : Hid (Bk (w1.setCell ⟨K, 10, none⟩ (.slice va (ps.length + 1) vc)) K bs is (ps ++ [.slice xa X.length xc])) :=
    ⟨vb, vi, .slice va (ps.length + 1) vc, hset, hk0, hk1, hnew, hbe, hie, bk_each_snoc hpe HXW.out.row (by rw [elems_length (sz := 3) (fun k => rfl)]; omega), HB.out.balone, HB.out.ialone, alone_snoc HB.out.palone HAP.out⟩
  clear hset hnew hbe hie hpe hk0 hk1 HST HC1 HW1 HB1 HB c0 d0 f0 hvK HX
  generalize w1.setCell ⟨K, 10, none⟩ (.slice va (ps.length + 1) vc) = w2 at *
  go_loopw [4] (fun q wx => ∃ k : Nat, k ≤ X.length ∧ q = .int .i64 k ∧ Bk wx K (bs ++ (X.take k).map (·.2)) is (ps ++ [.slice xa X.length xc]) ∧ ORow wx 0 (.slice xa X.length xc) X ∧ Chg (BkS W K) W wx) (fun q _ => X.length - (intOf q).toNat)
  case atStart => exact ⟨0, by omega, rfl, by simpa using HBK.out, HXW.out, HCH.out⟩
  case round =>
    obtain ⟨k, hk, rfl, hbk, hx, hch⟩ := hrel
    have HBK2 := Lib.hid hbk
    have HX2 := Lib.hid hx
    have HC2 := Lib.hid hch
    clear hbk hx hch HBK HXW HCH
    by_cases hk2 : k < X.length
    · have K1 : Hid (k + 1 ≤ X.length) := hk2
      obtain ⟨g, c', hve, -, -⟩ := ownsRow_full HX2.out.row (by omega)
      simp only [Value.slice.injEq, true_and] at hve
      obtain ⟨rfl, rfl⟩ := hve
      have e2 := own_cell3 HX2.out.row (fun k => rfl) k 2 hk2 (by omega)
      have eg : X.getD k op0 = X[k]'hk2 := by rw [List.getD_eq_getElem?_getD, List.getElem?_eq_getElem hk2]; rfl
      rw [eg] at e2
      have hdat := HX2.out.dat _ (List.getElem_mem hk2)
      have hoff : OffAll (bs ++ (X.take k).map (·.2)) (X[k]'hk2).2 := fun y hy g hg => by
        rcases List.mem_append.1 hy with hy | hy
        · exact HD.out _ (List.getElem_mem hk2) y hy g hg
        · obtain ⟨z, hz, rfl⟩ := List.mem_map.1 hy
          obtain ⟨j, hj, rfl⟩ := List.getElem_of_mem hz
          rw [List.length_take] at hj
          rw [List.getElem_take] at hg
          exact List.pairwise_iff_getElem.1 HX2.out.apart j k (by omega) hk2 (by omega) g hg
      have hbl : (bs ++ (X.take k).map (·.2)).length ≤ 1000000 := by rw [List.length_append, List.length_map, List.length_take]; omega
      have HCB := Lib.hid (book_bytes HBK2.out hbl hdat (by rw [ucells_length, HX2.out.len _ (List.getElem_mem hk2)]; decide) hoff)
      have HSN : Hid ((bs ++ (X.take k).map (·.2)) ++ [(X[k]'hk2).2] = bs ++ (X.take (k + 1)).map (·.2)) := by
        show _ = _
        rw [List.take_succ_eq_append_getElem hk2, List.map_append, List.append_assoc]
        rfl
      obtain ⟨da, dc, hde⟩ := ownsRow_shape hdat
      have e2' : wr.cell? ⟨g, k * 3 + 2, none⟩ = some (.slice da 128 dc) := by rw [e2, ← hde]; rfl
      rw [hde] at HCB HSN
      clear e2 eg hdat hoff hbl hde
      go_wp2_with (first
        | (go_at_call 42; (with_reducible refine HCB.out.mono ?_); rintro e w3 ⟨rfl, hb3, hc3⟩))
      go_roundw
      case measure => simp [intOf]; omega
      refine ⟨k + 1, K1.out, by go_num, ?_, HX2.out.bks hc3, bks_trans HC2.out hc3⟩
      rw [← HSN.out]
      exact hb3
    · obtain rfl : k = X.length := by omega
      go_wp2
      go_end0
      refine ⟨rfl, ?_, HC2.out⟩
      have := HBK2.out
      rw [List.take_length] at this
      exact this

end Go.Proofs.YtpegbgomnpinfaaGreat
