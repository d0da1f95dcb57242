/- Several texts in one: LawA, LawB, LawC. -/
import Derived.Test.YtleicmmbaacbmaaGreatScrF
import Derived.Test.YtleicmmbaacbmaaGreatMrg16
import Derived.Test.YtleicmmbaacbmaaGreatMrg18
import Derived.Test.YtleicmmbaacbmaaGreatMrg17
/- Scrub of a calm bay. -/
set_option linter.unusedVariables false
namespace Go.Proofs.YtleicmmbaacbmaaGreat
open Go.RowKit

theorem calm_rows {w : World} {T : Nat → Nat} {b : Nat} {s : BaySt} {sz : Nat → Nat} (h : BayAt w T b s) (hc : CalmBay s sz) (M C S : Nat) (hg : geoIs M C S = true) (hn : s.n = M + 1) (hsz : ∀ m, m < M → sz m = 1 + S * C)
    (hcnt : s.cnt 0 ≤ 999998000000) (hsm : s.small 1000000) :
    Calls Tryz.prog 21 #[.pointer (some ⟨b, 0, none⟩), geo M C S] w fun e w' =>
      ∃ v, e = .returned (.tuple #[v, .agg #[.int .i64 0, .int .u16 0]]) ∧ w'.ownsRow w.heap.size 3 1 v (uneven s M (S * C)).length (kcells (uneven s M (S * C))) ∧ BayAt w' T b (s.ticks 0 (S * C * M)) ∧ Chg (fun q => T q ≠ 0) w w' := by
  have hl := look_calm hc M (by omega) (S * C) (fun j hj => by rw [hsz j hj]; omega)
  refine (scrub_rows h M C S hg hn hcnt hsm).mono fun e w' ⟨v, h1, h2, h3, h4, h5⟩ => ?_
  rw [hl] at h1 h2 h4
  exact ⟨v, h1, h2 rfl, h4, h5⟩

theorem calm_lost {w : World} {T : Nat → Nat} {b : Nat} {s : BaySt} {sz : Nat → Nat} (h : BayAt w T b s) (hc : CalmBay s sz) (M C S m r : Nat) (hg : geoIs M C S = true) (hn : s.n = M + 1) (hsz : ∀ m, m < M → sz m = 1 + S * C) (hm : m < M) (hr : r < S * C)
    (hcnt : s.cnt 0 ≤ 999998000000) (hsm : s.small 1000000) :
    Calls Tryz.prog 22 #[.pointer (some ⟨b, 0, none⟩), geo M C S, .int .i64 m, .int .i64 r] w fun e w' =>
      ∃ v, e = .returned (.tuple #[v, .agg #[.int .i64 0, .int .u16 0]]) ∧ w'.ownsRow w.heap.size 5 1 v 128 (ucells (sumL (xorTo (fun j => s.sec j (1 + r)) m M) 128)) ∧ BayAt w' T b (s.ticks 0 (M - 1)) ∧ Chg (fun q => T q ≠ 0) w w' := by
  have hh := hand_calm hc (1 + r) (m : Int) M (by omega) (fun j hj => by rw [hsz j hj]; omega)
  have hM := handed_but (m : Int) M (by omega) (by omega)
  rw [show handed (m : Int) M = M - 1 by omega, show ((1 + r : Nat) : Int) = 1 + (r : Int) by omega] at hh
  refine (scrub_lost h M C S m r hg hn hm hr (by omega) hsm).mono fun e w' ⟨v, h1, h2, h3, h4⟩ => ?_
  rw [hh] at h1 h2 h3
  exact ⟨v, h1, h2.1 rfl, h3, h4⟩

/-- What a row that was mended leaves. -/
structure Mended (s s' : BaySt) (sz : Nat → Nat) (M p r : Nat) : Prop where
  calm : CalmBay s' sz
  n : s'.n = s.n
  small : ∀ m, s.small m → s'.small (m + 1)
  c0 : s'.cnt 0 = s.cnt 0 + ((M - 1 : Nat) : Int)
  c1 : s'.cnt 1 = s.cnt 1 + 1
  c2 : s'.cnt 2 = s.cnt 2 + 1
  sec : ∀ j q, j < s.n → q < sz j → s'.sec j q = if j = p ∧ q = 1 + r then sumL (xorTo (fun j => s.sec j (1 + r)) p M) 128 else s.sec j q
  dry : ∀ j, s.dry j → s'.dry j
  dryp : s'.dry p

theorem calm_mend_plain {s : BaySt} {sz : Nat → Nat} (hc : CalmBay s sz) (M R p r : Nat) (hn : s.n = M + 1) (hsz : ∀ m, m < M → sz m = 1 + R) (hp : p < M) (hr : r < R) : ∃ s', s.mend M p r = (none, s') ∧ Mended s s' sz M p r := by
  have hh := hand_calm hc (1 + r) (p : Int) M (by omega) (fun j hj => by rw [hsz j hj]; omega)
  have hM := handed_but (p : Int) M (by omega) (by omega)
  rw [show handed (p : Int) M = M - 1 by omega, show ((1 + r : Nat) : Int) = 1 + (r : Int) by omega] at hh
  have hc1 := hc.ticks 0 (M - 1)
  obtain ⟨s1, e1, hw, hsec, hdry, hcnt⟩ := write_calm hc1 p (1 + r) (sumL (xorTo (fun j => s.sec j (1 + r)) p M) 128) (by show p < s.n; omega) (by rw [hsz p hp]; omega) (sumL_length _ _)
  have hn1 : s1.n = s.n := hw.n
  obtain ⟨s2, e2, hf⟩ := flush_calm hw.calm p (by omega)
  rw [show ((1 + r : Nat) : Int) = 1 + (r : Int) by omega] at e1
  have hsec' : ∀ j q, j < s.n → q < sz j → s2.sec j q = if j = p ∧ q = 1 + r then sumL (xorTo (fun j => s.sec j (1 + r)) p M) 128 else s.sec j q := fun j q hj hq => by
    rw [hf.sec j q (by omega) hq, hsec j q]
    rfl
  refine ⟨s2, ?_, ⟨hf.calm, hf.n.trans hn1, fun m hm => hf.small _ (hw.small m hm), ?_, ?_, ?_, hsec', fun j hd => ?_, hf.dry⟩⟩
  · unfold BaySt.mend
    rw [hh]
    simp only [ne_eq, not_true_eq_false, if_false]
    rw [e1]
    simp only [not_true_eq_false, if_false]
    rw [e2]
    simp
  · rw [hf.c0, hw.c0, cnt_ticks]
  · rw [hf.c1, hcnt]; rfl
  · rw [hf.hi, hw.c2]; rfl
  · by_cases hj : j = p
    · subst hj; exact hf.dry
    · exact hf.rest j hj (hdry j hj hd)

theorem calm_mend {w : World} {T : Nat → Nat} {b : Nat} {s s' : BaySt} (h : BayAt w T b s) (M C S r : Nat) (hg : geoIs M C S = true) (hn : s.n = M + 1) (hr : r < S * C)
    (hcnt : s.cnt 0 ≤ 999998000000) (hcnt1 : s.cnt 1 ≤ 999998000000) (hcnt2 : s.cnt 2 ≤ 999998000000) (hsm : s.small 999999) (he : s.mend M (parOf M C r) r = (none, s')) :
    Calls Tryz.prog 23 #[.pointer (some ⟨b, 0, none⟩), geo M C S, .int .i64 r] w fun e w' =>
      e = .returned (.agg #[.int .i64 0, .int .u16 0]) ∧ BayPost w T b s' w' := by
  refine (scrub_mend h M C S r hg hn hr (by omega) (by omega) (by omega) hsm).mono fun e' w' ⟨h1, h2⟩ => ?_
  rw [he] at h1 h2
  exact ⟨h1, h2⟩

end Go.Proofs.YtleicmmbaacbmaaGreat

/- The scrub laws' own helpers: a sector, the sizes. -/
set_option linter.unusedVariables false
namespace Go.Proofs.YtleicmmbaacbmaaGreat
open Go.RowKit

theorem zsec_ucells : (List.replicate (128 * 1) (Value.int .u8 0)) = ucells zsec := by
  unfold zsec ucells
  rw [List.map_replicate]
  rfl

/-- A byte of a block of bytes is turned. -/
theorem ucells_set (l : List UInt8) (i : Nat) (x : UInt8) : (ucells l).toArray.setIfInBounds i (.int .u8 ((x.toNat : Nat) : Int)) = (ucells (l.set i x)).toArray := by
  apply Array.ext_getElem?
  intro j
  rw [Array.getElem?_setIfInBounds]
  simp only [List.getElem?_toArray, List.size_toArray, ucells_length]
  unfold ucells
  rw [List.getElem?_map, List.getElem?_map, List.getElem?_set]
  by_cases h : i = j
  · subst h
    by_cases hi : i < l.length
    · simp [hi]
    · simp [hi]
  · simp [h]

theorem seg_row {w : World} {g : Nat} {l : List UInt8} (h : At w g (ucells l).toArray 5) (hl : l.length = 128) : w.ownsRow 0 5 1 (.slice (some ⟨g, 0, none⟩) 128 128) 128 (ucells l) := by
  refine ⟨by rw [ucells_length, hl], .inr ⟨g, 128, (ucells l).toArray, rfl, Nat.zero_le _, h, Nat.le_refl _, by decide, by simp [ucells_length, hl], ?_⟩⟩
  rw [List.take_of_length_le (by rw [ucells_length]; omega)]

set_option maxRecDepth 100000 in
set_option maxHeartbeats 1000000 in
theorem law_sector (x : UInt8) (w : World) :
    Calls Tryz.prog 20 #[.int .u8 ((x.toNat : Nat) : Int)] w fun e w' => e = .returned (.slice (some ⟨w.heap.size, 0, none⟩) 128 128) ∧ At w' w.heap.size (ucells (zsec.set 7 x)).toArray 5 ∧ Below w.heap.size w w' := by
  have hset := Lib.hid (ucells_set zsec 7 x)
  generalize hy : ((x.toNat : Nat) : Int) = y at *
  clear hy
  go_enter Tryz.func20, Tryz.ntmps20
  go_wp2_with (refine wpList_make_same rfl _ _ 53 5 1 1 rfl slice_bytes (.int .u8 0) (by kernel_rfl) _ _ _ _ 128 rfl rfl rfl rfl (by omega) (by unfold maxLen; omega) ?_; intro w1 a1 b1; rw [zsec_ucells] at a1; have f0 := a1.free 7; have d0 : w1.cell? ⟨w.heap.size, 7, none⟩ = some (.int .u8 0) := (a1.cell 7).trans (by simp [ucells, zsec]); have A1 := Lib.hid a1; clear a1)
  go_ret
  refine ⟨rfl, ?_, b1.setCell (p := ⟨w.heap.size, 7, none⟩) (Nat.le_refl _) _⟩
  rw [← hset.out]
  exact A1.out.set 7 _

/-- The sizes of a geometry's disks, and one for the journal. -/
def sizeL (M R : Nat) : List Nat := List.replicate M (1 + R) ++ [7]
theorem sizeL_length (M R : Nat) : (sizeL M R).length = M + 1 := by simp [sizeL]
theorem sizeL_at (M R m : Nat) (h : m < M) : (sizeL M R).getD m 0 = 1 + R := by
  unfold sizeL
  rw [List.getD_eq_getElem?_getD, List.getElem?_append_left (by simpa using h), List.getElem?_replicate, if_pos h]
  rfl

set_option maxRecDepth 100000 in
set_option maxHeartbeats 4000000 in
theorem law_sizes (M C S : Nat) (w : World) (hg : geoIs M C S = true) :
    Calls Tryz.prog 6 #[geo M C S] w fun e w' => ∃ v, e = .returned v ∧ w'.ownsRow (w.heap.size + 1) 3 1 v (sizeL M (S * C)).length (kcells (sizeL M (S * C))) ∧ Below w.heap.size w w' := by
  obtain ⟨g1, g2, g3, g4, g5, g6⟩ := (geoIs_iff M C S).1 hg
  have hbd := geo_bounds hg
  have hR1 : S * C ≤ 4096 := by have := hbd.2; exact_mod_cast this
  have hrows : Hid (∀ W, Calls Tryz.prog 18 #[geo M C S] W fun e w' => e = .returned (.int .i64 ((S * C : Nat) : Int)) ∧ Below W.heap.size W w') := fun W => (ref_rows M C S W).mono fun e w' ⟨x1, x2⟩ => ⟨by rw [x1]; unfold geoRows; rw [if_pos hg, Int.natCast_mul], x2⟩
  have e1 : (w.alloc (.cells #[.int .i64 M, .int .i64 C, .int .i64 S] 23)).heap.size = w.heap.size + 1 := size_alloc _ _
  clear hbd
  generalize S * C = R at *
  unfold geo at *
  go_enter Tryz.func6, Tryz.ntmps6
  go_wp2
  go_loopw [3, 4] (fun v q wr => ∃ k : Nat, k ≤ M ∧ q = .int .i64 k ∧ wr.ownsRow (w.heap.size + 1) 3 1 v k (kcells (List.replicate k (1 + R))) ∧ Below w.heap.size w wr ∧ At wr w.heap.size #[.int .i64 M, .int .i64 C, .int .i64 S] 23) (fun _ q _ => M - (intOf q).toNat)
  case atStart => exact ⟨0, by omega, rfl, World.ownsRow_nil _ _ _ _, (Below.refl _ _).alloc (Nat.le_refl _) _, At.new _ _ _⟩
  case round =>
    obtain ⟨k, hk, rfl, hown, hbel, hA⟩ := hrel
    have c0 := hA.cell 0
    have c1 := hA.cell 1
    have c2 := hA.cell 2
    have HA := Lib.hid hA
    have HO := Lib.hid hown
    have hzl := hA.lt
    clear hA hown
    by_cases hkM : k < M
    · have K1 : Hid (k + 1 ≤ M) := hkM
      go_wp2_with (first
        | (go_at_call 18; refine (hrows.out _).mono ?_; rintro e w2 ⟨rfl, hb2⟩; have hown2 := ownsRow_below HO.out hb2 (Nat.le_refl _))
        | (refine wpList_append_one rfl _ _ 27 3 8 rfl slice_ints (w.heap.size + 1) u3 k _ rfl hown2 _ rfl rfl (by unfold maxLen; omega) (by omega) (by have := hb2.size; omega) ?_; intro v' w5 hown5 hb5 hgr5))
      refine ⟨⟨k + 1, K1.out, by go_num, ?_, (below_then hbel hb2).trans (hb5.mono (Nat.le_succ _)), (HA.out.below hb2 hzl).below hb5 (Nat.lt_succ_self _)⟩, by simp [intOf]; omega⟩
      rw [List.replicate_succ', kcells_snoc, show (((1 + R : Nat)) : Int) = 1 + (R : Int) by omega]
      exact hown5
    · obtain rfl : k = M := by omega
      go_wp2_with (first
        | (refine wpList_append_one rfl _ _ 27 3 8 rfl slice_ints (w.heap.size + 1) u3 k _ rfl HO.out _ rfl rfl (by unfold maxLen; omega) (by omega) (by omega) ?_; intro v' w5 hown5 hb5 hgr5))
      go_ret
      refine ⟨v', rfl, ?_, hbel.trans (hb5.mono (Nat.le_succ _))⟩
      rw [sizeL_length]
      unfold sizeL
      rw [kcells_snoc]
      exact hown5

end Go.Proofs.YtleicmmbaacbmaaGreat

/- What is known of rows that are there: the scrub laws' 'known' tells true. -/
set_option linter.unusedVariables false
namespace Go.Proofs.YtleicmmbaacbmaaGreat
open Go.RowKit

theorem iseg_of_owns {w : World} {B : Nat} {v : Value} {l : List Nat} (h : w.ownsRow B 3 1 v l.length (kcells l)) : ISeg w v l := by
  obtain ⟨a, c, rfl⟩ := ownsRow_shape h
  refine ⟨a, c, rfl, ?_⟩
  by_cases hl : l.length = 0
  · exact .inl (List.eq_nil_of_length_eq_zero hl)
  · obtain ⟨g, cap, hv, hB, hg, hc, -⟩ := ownsRow_cell h (by omega)
    simp only [Value.slice.injEq] at hv
    obtain ⟨rfl, -, rfl⟩ := hv
    exact .inr ⟨g, 0, rfl, hg, fun j hj => by rw [Nat.zero_add, hc j hj, kcells_at l j hj]⟩

theorem seg_of_sec {w : World} {B : Nat} {v : Value} {l : List UInt8} (h : w.ownsRow B 5 1 v 128 (ucells l)) : Seg w v l := by
  have hl : l.length = 128 := by have := h.1; rw [ucells_length] at this; omega
  exact seg_of_owns (by rw [hl]; exact h)

/-- Sizes that serve. -/
theorem sizeL_ok {M R : Nat} (hR : R ≤ 4096) : ∀ x ∈ sizeL M R, 0 < x ∧ x ≤ 8192 := fun x hx => by
  unfold sizeL at hx
  rcases List.mem_append.1 hx with hx | hx
  · obtain rfl := List.eq_of_mem_replicate hx; omega
  · simp at hx; omega

/-- A new bay of a geometry. -/
def newBay (M R : Nat) : BaySt := freshBay (sizeL M R) (sizeL M R).length
def newSz (M R : Nat) : Nat → Nat := fun k => (sizeL M R).getD k 0
theorem newBay_calm {M R : Nat} (hR : R ≤ 4096) : CalmBay (newBay M R) (newSz M R) := fresh_calm _ fun x hx => (sizeL_ok hR x hx).1
theorem newBay_n (M R : Nat) : (newBay M R).n = M + 1 := sizeL_length M R
theorem newSz_at {M R : Nat} (m : Nat) (h : m < M) : newSz M R m = 1 + R := sizeL_at M R m h
theorem newBay_small (M R m : Nat) : (newBay M R).small m := fresh_small _ m
theorem newBay_cnt (M R q : Nat) : (newBay M R).cnt q = 0 := rfl
theorem newBay_sec {M R : Nat} (k z : Nat) (hk : k < M + 1) (hR : R ≤ 4096) : (newBay M R).sec k z = zsec := by
  refine fresh_sec _ k z (by rw [sizeL_length]; exact hk) ?_
  have : (sizeL M R).getD k 0 ∈ sizeL M R := by
    rw [List.getD_eq_getElem?_getD, List.getElem?_eq_getElem (by rw [sizeL_length]; exact hk)]
    exact List.getElem_mem _
  exact (sizeL_ok hR _ this).1

theorem law_newBay (M R : Nat) (v : Value) (B : Nat) (w : World) (hM : M ≤ 16) (hR : R ≤ 4096) (hv : w.ownsRow B 3 1 v (sizeL M R).length (kcells (sizeL M R))) :
    Calls Tryz.prog 7 #[v] w fun e w' => ∃ b T, e = .returned (.tuple #[.pointer (some ⟨b, 0, none⟩), .int .u16 0]) ∧ BayAt w' T b (newBay M R) ∧ (∀ q, q < w.heap.size → T q = 0) ∧ Below w.heap.size w w' := by
  refine (bay_new (sizeL M R) v B w hv (by rw [sizeL_length]; omega) (by rw [sizeL_length]; omega) (fun x hx => (sizeL_ok hR x hx).2)).mono fun e w' ⟨b, h1, T, h2, h3, h4, h5⟩ => ⟨b, T, h1, h2, h3, h5⟩

/-- One sector of a new bay has been written. -/
theorem one_written {M R m k : Nat} {x : Sec} (hR : R ≤ 4096) (hm : m < M) (hk : k < R) (hx : x.length = 128) :
    ∃ s', (newBay M R).write m (1 + (k : Int)) x = (0, s') ∧ CalmBay s' (newSz M R) ∧ s'.n = M + 1 ∧ s'.small 1 ∧ s'.cnt 0 = 0 ∧ s'.cnt 1 = 1 ∧ s'.cnt 2 = 0 ∧ (∀ j q, j < M + 1 → s'.sec j q = if j = m ∧ q = 1 + k then x else zsec) := by
  obtain ⟨s', e, hw, hsec, -, hc⟩ := write_calm (newBay_calm (M := M) hR) m (1 + k) x (by rw [newBay_n]; omega) (by rw [newSz_at m hm]; omega) hx
  rw [show ((1 + k : Nat) : Int) = 1 + (k : Int) by omega] at e
  exact ⟨s', e, hw.calm, hw.n.trans (newBay_n M R), hw.small 0 (newBay_small M R 0), hw.c0, hc, hw.c2, fun j q hj => by rw [hsec, newBay_sec j q hj hR]⟩

/-- Which rows are told, and what is lost, if but one sector is not noughts. -/
theorem one_uneven {s : BaySt} {M R m k i : Nat} {x : Sec} (hs : ∀ j q, j < M + 1 → s.sec j q = if j = m ∧ q = 1 + k then x else zsec) (hm : m < M) (hk : k < R) (hi : i < 128) (hx : x.getD i 0 ≠ 0) : uneven s M R = [k] := by
  refine uneven_one s M k R hk (fun r hr hrk i hi => ?_) fun hz => hx ?_
  · exact xorTo_zero _ _ i M (fun j hj _ => by rw [hs j _ (by omega), if_neg (by omega)])
  · have := hz i hi
    rw [xorTo_one (f := fun m => s.sec m (1 + k)) (m := m) (x := x) (by show s.sec m (1 + k) = x; rw [hs m _ (by omega), if_pos ⟨rfl, rfl⟩]) (-1) i M (fun j hj hjm => by show s.sec j (1 + k) = zsec; rw [hs j _ (by omega), if_neg (by omega)]), if_pos ⟨hm, by omega⟩] at this
    exact this
theorem none_uneven {s : BaySt} {M R : Nat} (hs : ∀ j q, j < M → s.sec j q = zsec) : uneven s M R = [] :=
  allZero_nil s M R (fun r hr i hi => xorTo_zero _ _ i M (fun j hj _ => hs j _ hj))

/-- A row that a walk keeps while a bay is at work. -/
structure Held (w : World) (T : Nat → Nat) (v : Value) (e : TypeId) (n : Nat) (xs : List Value) : Prop where
  own : ∃ B, w.ownsRow B e 1 v n xs
  tag : ∀ g, v.ownBlock = some g → T g = 0

theorem Held.chg {w w' : World} {T : Nat → Nat} {v : Value} {e : TypeId} {n : Nat} {xs : List Value} (h : Held w T v e n xs) (hc : Chg (fun q => T q ≠ 0) w w') : Held w' T v e n xs := by
  obtain ⟨⟨B, h1⟩, h2⟩ := h
  exact ⟨⟨B, ownsRow_mod h1 hc (fun g hg e => e (h2 g hg))⟩, h2⟩
theorem Held.alloc {w : World} {T : Nat → Nat} {v : Value} {e : TypeId} {n : Nat} {xs : List Value} (h : Held w T v e n xs) (o : Obj) : Held (w.alloc o) T v e n xs := h.chg ((Chg.refl _ _).alloc _)
theorem Held.retag {w : World} {T T' : Nat → Nat} {v : Value} {e : TypeId} {n : Nat} {xs : List Value} (h : Held w T v e n xs) (hT : ∀ q, q < w.heap.size → T' q = T q) : Held w T' v e n xs := by
  obtain ⟨⟨B, h1⟩, h2⟩ := h
  exact ⟨⟨B, h1⟩, fun g hg => by rw [hT g (h1.lt g hg).2]; exact h2 g hg⟩
theorem Held.new {w : World} {T : Nat → Nat} {v : Value} {e : TypeId} {n B : Nat} {xs : List Value} (h : w.ownsRow B e 1 v n xs) (hT : ∀ q, B ≤ q → T q = 0) : Held w T v e n xs := ⟨⟨B, h⟩, fun g hg => hT g (h.lt g hg).1⟩
/-- A block that a walk keeps. -/
structure Kept (w : World) (T : Nat → Nat) (g : Nat) (cs : Array Value) (t : TypeId) : Prop where
  at' : At w g cs t
  tag : T g = 0
theorem Kept.chg {w w' : World} {T : Nat → Nat} {g : Nat} {cs : Array Value} {t : TypeId} (h : Kept w T g cs t) (hc : Chg (fun q => T q ≠ 0) w w') : Kept w' T g cs t := ⟨h.at'.mod hc (fun e => e h.tag), h.tag⟩
theorem Kept.alloc {w : World} {T : Nat → Nat} {g : Nat} {cs : Array Value} {t : TypeId} (h : Kept w T g cs t) (o : Obj) : Kept (w.alloc o) T g cs t := h.chg ((Chg.refl _ _).alloc _)
theorem Kept.retag {w : World} {T T' : Nat → Nat} {g : Nat} {cs : Array Value} {t : TypeId} (h : Kept w T g cs t) (hT : ∀ q, q < w.heap.size → T' q = T q) : Kept w T' g cs t := ⟨h.at', by rw [hT g h.at'.lt]; exact h.tag⟩

theorem Kept.post {w w' : World} {T T' : Nat → Nat} {g : Nat} {cs : Array Value} {t : TypeId} (h : Kept w T g cs t) (hT : ∀ q, q < w.heap.size → T' q = T q) (hc : Chg (fun q => T q ≠ 0) w w') : Kept w' T' g cs t := ⟨h.at'.mod hc (fun e => e h.tag), by rw [hT g h.at'.lt]; exact h.tag⟩
theorem Held.post {w w' : World} {T T' : Nat → Nat} {v : Value} {e : TypeId} {n : Nat} {xs : List Value} (h : Held w T v e n xs) (hT : ∀ q, q < w.heap.size → T' q = T q) (hc : Chg (fun q => T q ≠ 0) w w') : Held w' T' v e n xs := by
  obtain ⟨⟨B, h1⟩, h2⟩ := h
  exact ⟨⟨B, ownsRow_mod h1 hc (fun g hg e => e (h2 g hg))⟩, fun g hg => by rw [hT g (h1.lt g hg).2]; exact h2 g hg⟩
theorem Held.cell {w : World} {T : Nat → Nat} {g c n : Nat} {e : TypeId} {xs : List Value} (h : Held w T (.slice (some ⟨g, 0, none⟩) n c) e n xs) (hn : 0 < n) (i : Nat) (hi : i < n) : w.cell? ⟨g, i, none⟩ = xs[i]? := by
  obtain ⟨⟨B, h1⟩, -⟩ := h
  obtain ⟨g', cap, hv, -, -, hc, -⟩ := ownsRow_cell h1 hn
  simp only [Value.slice.injEq, Option.some.injEq, Addr.mk.injEq] at hv
  obtain ⟨⟨rfl, -, -⟩, -, -⟩ := hv
  exact hc i hi

theorem BayAt.more {w : World} {T : Nat → Nat} {b : Nat} {s : BaySt} (h : BayAt w T b s) (o : Obj) : BayAt (w.alloc o) T b s := h.keep (S := fun _ => False) ((Chg.refl _ _).alloc _) (fun _ _ h => h)

end Go.Proofs.YtleicmmbaacbmaaGreat
