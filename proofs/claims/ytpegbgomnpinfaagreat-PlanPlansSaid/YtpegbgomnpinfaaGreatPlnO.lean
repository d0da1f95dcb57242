/- plan.Split: the maps of maps that it makes. -/
import Derived.Test.YtpegbgomnpinfaaGreatPlnN
import Derived.Test.YtpegbgomnpinfaaGreatPlnJ
set_option linter.unusedVariables false
namespace Go.Proofs.YtpegbgomnpinfaaGreat
open Go.RowKit

/-- A batch, to be read. -/
def PutSeg (w : World) (v : Value) (us : List (Int × List UInt8)) : Prop :=
  ∃ a c, v = .slice a us.length c ∧ us.length ≤ 140737488355328 ∧ (∀ u ∈ us, u.2.length ≤ 140737488355000) ∧
    (us = [] ∨ ∃ b o, a = some ⟨b, o, none⟩ ∧ b < w.heap.size ∧ ∀ j (h : j < us.length), w.cell? ⟨b, o + j * 2, none⟩ = some (.int .i64 us[j].1) ∧ ∃ x, w.cell? ⟨b, o + j * 2 + 1, none⟩ = some x ∧ Seg w x us[j].2)
theorem PutSeg.below {w w' : World} {v : Value} {us : List (Int × List UInt8)} (h : PutSeg w v us) (hb : Below w.heap.size w w') : PutSeg w' v us := by
  obtain ⟨a, c, h1, h2, h3, h4⟩ := h
  refine ⟨a, c, h1, h2, h3, ?_⟩
  rcases h4 with h4 | ⟨b, o, h5, h6, h7⟩
  · exact .inl h4
  · refine .inr ⟨b, o, h5, Nat.lt_of_lt_of_le h6 hb.size, fun j hj => ?_⟩
    obtain ⟨e1, x, e2, e3⟩ := h7 j hj
    exact ⟨(hb.cell (p := ⟨b, o + j * 2, none⟩) h6).trans e1, x, (hb.cell (p := ⟨b, o + j * 2 + 1, none⟩) h6).trans e2, e3.below hb⟩
theorem PutSeg.shape {w : World} {v : Value} {us : List (Int × List UInt8)} (h : PutSeg w v us) : ∃ a c, v = .slice a us.length c := by
  obtain ⟨a, c, h1, _⟩ := h
  exact ⟨a, c, h1⟩
theorem PutSeg.few {w : World} {v : Value} {us : List (Int × List UInt8)} (h : PutSeg w v us) : us.length ≤ 140737488355328 := by
  obtain ⟨a, c, h1, h2, _⟩ := h
  exact h2
theorem PutSeg.full {w : World} {a : Option Addr} {n c : Nat} {us : List (Int × List UInt8)} (h : PutSeg w (.slice a n c) us) (hl : 0 < us.length) :
    ∃ b o, a = some ⟨b, o, none⟩ ∧ b < w.heap.size ∧ ∀ j (h : j < us.length), w.cell? ⟨b, o + j * 2, none⟩ = some (.int .i64 us[j].1) ∧ ∃ x, w.cell? ⟨b, o + j * 2 + 1, none⟩ = some x ∧ Seg w x us[j].2 := by
  obtain ⟨a', c', h1, h2, h3, h4⟩ := h
  simp only [Value.slice.injEq] at h1
  obtain ⟨rfl, -, rfl⟩ := h1
  rcases h4 with h4 | h4
  · subst h4; simp at hl
  · exact h4

set_option maxHeartbeats 1000000 in
theorem clone_gen (v : Value) (l : List UInt8) (w : World) (hl : l.length ≤ 140737488355000) (hv : Seg w v l) :
    Calls Tryz.prog 89 #[v] w fun e w' => ∃ v', e = .returned v' ∧ w'.ownsRow w.heap.size 5 1 v' l.length (ucells l) ∧ Below w.heap.size w w' := by
  have hv0 := hv
  obtain ⟨a, cap, rfl, ⟨h1, h2⟩, h3⟩ := hv
  cases a with
  | some ad => exact clone_any ad cap l w hl hv0
  | none =>
    obtain ⟨h4, h5⟩ := h1 rfl
    have hnil : l = [] := List.eq_nil_of_length_eq_zero h4
    subst hnil
    subst h5
    have qN : ∀ W : World, (binOp .eql 53 (.slice none 0 0) (.slice none 0 0)).run Tryz.prog W = .ok (.bool true) W := fun W => Lib.run_eql_slice_nil W _ _ none _ _ 0 0 Tryz.underlying53
    clear hv0 h1 h2 h3 h4
    simp only [List.length_nil] at *
    go_enter Tryz.func89, Tryz.ntmps89
    go_wp2
    go_ret
    exact ⟨_, rfl, World.ownsRow_nil _ _ _ _, Below.refl _ _⟩

/-- What has been given, by row and member. -/
abbrev Tab := Int → Int → Option (List UInt8)
def tabSet (G : Tab) (r m : Int) (d : List UInt8) : Tab := fun r' m' => if r' = r ∧ m' = m then some d else G r' m'

/-- Where Split's maps stand. -/
structure SplitAt (W : World) (B gm n : Nat) (R : Int → Bool) (G : Tab) (inn : Int → Nat) (dv : Int → Int → Value) : Prop where
  outer : W.vmap Tryz.prog 3 .i64 gm n (fun r => if R r = true then some (.map (some (inn r))) else none)
  inner : ∀ r, R r = true → W.vmap Tryz.prog 3 .i64 (inn r) n (fun m => (G r m).map fun _ => patVal m r (dv r m))
  iap : ∀ r r', R r = true → R r' = true → r ≠ r' → inn r ≠ inn r'
  ig : ∀ r, R r = true → inn r ≠ gm
  dat : ∀ r m d, G r m = some d → W.ownsRow B 5 1 (dv r m) d.length (ucells d)
  dap : ∀ r m d r' m' d', G r m = some d → G r' m' = some d' → ¬ (r = r' ∧ m = m') → ∀ g, (dv r m).ownBlock = some g → (dv r' m').ownBlock ≠ some g
  sub : ∀ r m d, G r m = some d → R r = true
  low : B ≤ gm
  lows : ∀ r, R r = true → B ≤ inn r

theorem vmap_ne_row {W : World} {P : Program} {k : TypeId} {κ : IntKind} {b n : Nat} {f : Int → Option Value} (h : W.vmap P k κ b n f) {B : Nat} {t : TypeId} {sz : Nat} {v : Value} {m : Nat} {xs : List Value} (hr : W.ownsRow B t sz v m xs) : v.ownBlock ≠ some b := by
  intro hv
  obtain ⟨D, ⟨es, clock, h1, _⟩, _⟩ := h
  rcases hr.2 with ⟨rfl, _⟩ | ⟨g, cap, cur, rfl, _, hg, _⟩
  · cases hv
  · simp only [Value.ownBlock, Option.some.injEq] at hv
    subst hv
    rw [h1] at hg
    cases hg

theorem SplitAt.mod {S : Nat → Prop} {W W' : World} {B gm n : Nat} {R : Int → Bool} {G : Tab} {inn : Int → Nat} {dv : Int → Int → Value} (h : SplitAt W B gm n R G inn dv) (hc : Chg S W W') (h1 : ¬ S gm) (h2 : ∀ r, R r = true → ¬ S (inn r)) (h3 : ∀ r m d, G r m = some d → ∀ g, (dv r m).ownBlock = some g → ¬ S g) : SplitAt W' B gm n R G inn dv :=
  ⟨h.outer.mod hc h1, fun r hr => (h.inner r hr).mod hc (h2 r hr), h.iap, h.ig, fun r m d hd => ownsRow_mod (h.dat r m d hd) hc (h3 r m d hd), h.dap, h.sub, h.low, h.lows⟩
theorem SplitAt.below {W W' : World} {B gm n : Nat} {R : Int → Bool} {G : Tab} {inn : Int → Nat} {dv : Int → Int → Value} (h : SplitAt W B gm n R G inn dv) (hb : Below W.heap.size W W') : SplitAt W' B gm n R G inn dv :=
  h.mod (Chg.ofBelow hb (fun _ => False)) (fun h => h) (fun _ _ h => h) (fun _ _ _ _ _ _ h => h)

theorem SplitAt.mono {W : World} {B gm n : Nat} {R : Int → Bool} {G : Tab} {inn : Int → Nat} {dv : Int → Int → Value} (h : SplitAt W B gm n R G inn dv) {n' : Nat} (hn : n ≤ n') : SplitAt W B gm n' R G inn dv :=
  ⟨h.outer.mono hn, fun r hr => (h.inner r hr).mono hn, h.iap, h.ig, h.dat, h.dap, h.sub, h.low, h.lows⟩

theorem vmap_ne_at {W : World} {P : Program} {k : TypeId} {κ : IntKind} {b n g : Nat} {f : Int → Option Value} {cs : Array Value} {t : TypeId} (h : W.vmap P k κ b n f) (ha : At W g cs t) : ¬ g = b := fun e => by
  subst e
  obtain ⟨D, ⟨es, clock, h1, _⟩, _⟩ := h
  unfold At at ha
  rw [h1] at ha
  cases ha

theorem SplitAt.start (W : World) : SplitAt (W.alloc (.map #[] 0)) W.heap.size W.heap.size 0 (fun _ => false) (fun _ _ => none) (fun _ => 0) (fun _ _ => undef) := by
  refine ⟨?_, fun r hr => (by cases hr), fun r r' hr => (by cases hr), fun r hr => (by cases hr), fun r m d hd => (by cases hd), fun r m d r' m' d' hd => (by cases hd), fun r m d hd => (by cases hd), Nat.le_refl _, fun r hr => (by cases hr)⟩
  have := World.vmap_made W Tryz.prog 3 .i64
  simpa using this

/-- A row's own map has been laid. -/
theorem SplitAt.newRow {W W2 : World} {B gm n : Nat} {R : Int → Bool} {G : Tab} {inn : Int → Nat} {dv : Int → Int → Value} (h : SplitAt W B gm n R G inn dv) (hB : B ≤ W.heap.size) {r : Int} (hR : R r = false)
    (hv : W2.vmap Tryz.prog 3 .i64 gm (n + 1) (fun i => if i = r then some (.map (some W.heap.size)) else if R i = true then some (.map (some (inn i))) else none)) (hc : Chg (fun x => x = gm) (W.alloc (.map #[] 0)) W2) :
    SplitAt W2 B gm (n + 1) (fun i => if i = r then true else R i) G (fun i => if i = r then W.heap.size else inn i) dv := by
  have hA := h.below ((Below.refl W.heap.size W).alloc (Nat.le_refl _) (.map #[] 0))
  have hGr : ∀ m, G r m = none := fun m => by
    cases hg : G r m with
    | none => rfl
    | some d => have := h.sub r m d hg; rw [hR] at this; cases this
  have hlt : ∀ i, R i = true → inn i < W.heap.size := fun i hi => (h.inner i hi).lt
  have hgl := h.outer.lt
  refine ⟨?_, fun i hi => ?_, fun i j hi hj hij => ?_, fun i hi => ?_, fun i m d hd => ?_, h.dap, fun i m d hd => ?_, h.low, fun i hi => ?_⟩
  · have e : (fun i => if (if i = r then true else R i) = true then some (Value.map (some (if i = r then W.heap.size else inn i))) else none) = (fun i => if i = r then some (.map (some W.heap.size)) else if R i = true then some (.map (some (inn i))) else none) := by
      funext i
      by_cases hi : i = r
      · simp [hi]
      · simp [hi]
    rw [e]
    exact hv
  · by_cases hir : i = r
    · subst hir
      rw [if_pos rfl]
      have e : (fun m => (G i m).map fun _ => patVal m i (dv i m)) = fun _ => none := by
        funext m
        rw [hGr m]
        rfl
      rw [e]
      exact ((World.vmap_made W Tryz.prog 3 .i64).mod hc (by omega)).mono (Nat.zero_le _)
    · rw [if_neg hir] at hi ⊢
      exact ((hA.inner i hi).mod hc (h.ig i hi)).mono (Nat.le_succ _)
  · by_cases hir : i = r
    · subst hir
      rw [if_pos rfl, if_neg (Ne.symm hij)]
      rw [if_neg (Ne.symm hij)] at hj
      have := hlt j hj
      omega
    · rw [if_neg hir] at hi ⊢
      by_cases hjr : j = r
      · rw [if_pos hjr]
        have := hlt i hi
        omega
      · rw [if_neg hjr] at hj ⊢
        exact h.iap i j hi hj hij
  · by_cases hir : i = r
    · rw [if_pos hir]; omega
    · rw [if_neg hir] at hi ⊢
      exact h.ig i hi
  · exact ownsRow_mod (hA.dat i m d hd) hc (fun g hg e => vmap_ne_row hA.outer (hA.dat i m d hd) (e ▸ hg))
  · by_cases hir : i = r
    · rw [if_pos hir]
    · rw [if_neg hir]; exact h.sub i m d hd
  · by_cases hir : i = r
    · rw [if_pos hir]; exact hB
    · rw [if_neg hir] at hi ⊢
      exact h.lows i hi

/-- A block has been laid into its row's map; its bytes u were made behind W. -/
theorem SplitAt.setPat {W W1 W2 : World} {B gm n : Nat} {R : Int → Bool} {G : Tab} {inn : Int → Nat} {dv : Int → Int → Value} (h : SplitAt W B gm n R G inn dv) (hB : B ≤ W.heap.size) {r m : Int} {d : List UInt8} {u : Value} (hR : R r = true)
    (hb : Below W.heap.size W W1) (hu : W1.ownsRow W.heap.size 5 1 u d.length (ucells d))
    (hv : W2.vmap Tryz.prog 3 .i64 (inn r) (n + 1) (fun i => if i = m then some (patVal m r u) else (G r i).map fun _ => patVal i r (dv r i))) (hc : Chg (fun x => x = inn r) W1 W2) :
    SplitAt W2 B gm (n + 1) R (tabSet G r m d) inn (fun r' m' => if r' = r ∧ m' = m then u else dv r' m') := by
  have hA := h.below hb
  have hold : ∀ r' m' d', G r' m' = some d' → ∀ g, (dv r' m').ownBlock = some g → g < W.heap.size := fun r' m' d' hd g hg => ((h.dat r' m' d' hd).lt g hg).2
  refine ⟨(hA.outer.mod hc (fun e => h.ig r hR e.symm)).mono (Nat.le_succ _), fun i hi => ?_, h.iap, h.ig, fun i j e he => ?_, fun i j e i' j' e' he he' hne g hg => ?_, fun i j e he => ?_, h.low, h.lows⟩
  · by_cases hir : i = r
    · subst hir
      have e : (fun j => (tabSet G i m d i j).map fun _ => patVal j i (if i = i ∧ j = m then u else dv i j)) = (fun j => if j = m then some (patVal m i u) else (G i j).map fun _ => patVal j i (dv i j)) := by
        funext j
        unfold tabSet
        by_cases hj : j = m
        · simp [hj]
        · simp [hj]
      rw [e]
      exact hv
    · have e : (fun j => (tabSet G r m d i j).map fun _ => patVal j i (if i = r ∧ j = m then u else dv i j)) = (fun j => (G i j).map fun _ => patVal j i (dv i j)) := by
        funext j
        unfold tabSet
        simp [hir]
      rw [e]
      exact ((hA.inner i hi).mod hc (fun e => h.iap i r hi hR hir e)).mono (Nat.le_succ _)
  · show W2.ownsRow B _ 1 (if i = r ∧ j = m then u else dv i j) _ _
    unfold tabSet at he
    by_cases hij : i = r ∧ j = m
    · rw [if_pos hij] at he ⊢
      simp only [Option.some.injEq] at he
      subst he
      exact ownsRow_mod (rebase_row hu hB) hc (fun g hg e => vmap_ne_row (hA.inner r hR) hu (e ▸ hg))
    · rw [if_neg hij] at he ⊢
      exact ownsRow_mod (hA.dat i j e he) hc (fun g hg e' => vmap_ne_row (hA.inner r hR) (hA.dat i j e he) (e' ▸ hg))
  · have hg' : (if i = r ∧ j = m then u else dv i j).ownBlock = some g := hg
    show (if i' = r ∧ j' = m then u else dv i' j').ownBlock ≠ some g
    unfold tabSet at he he'
    by_cases hij : i = r ∧ j = m
    · rw [if_pos hij] at hg'
      by_cases hij' : i' = r ∧ j' = m
      · exact absurd ⟨hij.1.trans hij'.1.symm, hij.2.trans hij'.2.symm⟩ hne
      · rw [if_neg hij'] at he' ⊢
        intro e2
        have h1 := (hu.lt g hg').1
        have h2 := hold i' j' e' he' g e2
        omega
    · rw [if_neg hij] at he hg'
      by_cases hij' : i' = r ∧ j' = m
      · rw [if_pos hij']
        intro e2
        have h1 := (hu.lt g e2).1
        have h2 := hold i j e he g hg'
        omega
      · rw [if_neg hij'] at he' ⊢
        exact h.dap i j e i' j' e' he he' hne g hg'
  · unfold tabSet at he
    by_cases hij : i = r ∧ j = m
    · rw [hij.1]; exact hR
    · rw [if_neg hij] at he
      exact h.sub i j e he

end Go.Proofs.YtpegbgomnpinfaaGreat
