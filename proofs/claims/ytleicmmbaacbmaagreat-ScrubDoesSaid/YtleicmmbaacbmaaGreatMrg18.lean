/- Several texts in one: RfS, Calm3. -/
import Derived.Test.YtleicmmbaacbmaaGreatRfR
import Derived.Test.YtleicmmbaacbmaaGreatCalm2
/- Where the scrub law's 'does' stands. -/
set_option linter.unusedVariables false
namespace Go.Proofs.YtleicmmbaacbmaaGreat
open Go.RowKit

/-- Both bays have come from s to s': the same stands. -/
theorem SAt.step {W0 w w2 : World} {b c K : Nat} {s s' : BaySt} {T T' : Nat → Nat} {R R' : Nat → Prop} {bs is : List Value} {vb vi : Value} (h : SAt W0 w b c K s T R bs is vb vi) (hb : BayAt w2 T' b s') (hr : RBayAt w2 R' c s') (hT : ∀ q, q < w.heap.size → T' q = T q)
    (hR : ∀ q, R' q → R q ∨ w.heap.size ≤ q) (htr : ∀ q, R' q → T' q = 0) (hc : Chg (fun q => T q ≠ 0 ∨ R q) w w2) : SAt W0 w2 b c K s' T' R' bs is vb vi := by
  have hs0 := h.old.size
  refine ⟨?_, hb, hr, h.bk.off hc (fun q hq e => ?_), fun q hq => ?_, fun q hq => ?_, h.k0, htr, fun q hq => ?_⟩
  · refine Chg.own h.old hc (fun q hq => ?_)
    rcases hq with hq | hq
    · exact Classical.byContradiction fun e => hq (h.t0 q (by omega))
    · exact h.r0 q hq
  · rcases e with e | e
    · exact e (h.foot q hq).1
    · exact (h.foot q hq).2 e
  · rw [hT q (by omega)]; exact h.t0 q hq
  · rcases hR q hq with e | e
    · exact h.r0 q e
    · omega
  · have hlt := foot_lt h.bk q hq
    refine ⟨by rw [hT q hlt]; exact (h.foot q hq).1, fun e => ?_⟩
    rcases hR q e with e' | e'
    · exact (h.foot q hq).2 e'
    · omega

/-- The program's bay has come to s1, the document's to s2; the call's own four boxes. -/
structure DAt (w : World) (b c : Nat) (s1 s2 : BaySt) (T T' : Nat → Nat) (R R' : Nat → Prop) (G O : Array Value) (t1 t2 u1 u2 : Int) (wx : World) : Prop where
  bay : BayAt wx T' b s1
  ref : RBayAt wx R' c s2
  hT : ∀ q, q < w.heap.size → T' q = T q
  hR : ∀ q, R' q → R q ∨ w.heap.size + 4 ≤ q
  tr : ∀ q, R' q → T' q = 0
  rlt : ∀ q, R q → q < w.heap.size
  tb : ∀ q, w.heap.size ≤ q → q < w.heap.size + 4 → T' q = 0
  g : At wx w.heap.size G 23
  o : At wx (w.heap.size + 1) O 55
  t : At wx (w.heap.size + 2) #[.int .i64 t1, .int .u16 t2] 72
  u : At wx (w.heap.size + 3) #[.int .i64 u1, .int .u16 u2] 72
  chg : Chg (fun q => T q ≠ 0 ∨ R q) w wx
  size : w.heap.size + 4 ≤ wx.heap.size

theorem DAt.notR {w wx : World} {b c : Nat} {s1 s2 : BaySt} {T T' : Nat → Nat} {R R' : Nat → Prop} {G O : Array Value} {t1 t2 u1 u2 : Int} (h : DAt w b c s1 s2 T T' R R' G O t1 t2 u1 u2 wx) {q : Nat} (h1 : w.heap.size ≤ q) (h2 : q < w.heap.size + 4) : ¬ R' q := fun e => by
  rcases h.hR q e with e | e
  · have := h.rlt q e; omega
  · omega

/-- .. an operation of the program's bay. -/
theorem DAt.prog {w wx w1 : World} {b c : Nat} {s1 s2 s' : BaySt} {T T' T2 : Nat → Nat} {R R' : Nat → Prop} {G O : Array Value} {t1 t2 u1 u2 : Int} (h : DAt w b c s1 s2 T T' R R' G O t1 t2 u1 u2 wx) (hb : BayAt w1 T2 b s') (hT : ∀ q, q < wx.heap.size → T2 q = T' q) (hc : Chg (fun q => T' q ≠ 0) wx w1) :
    DAt w b c s' s2 T T2 R R' G O t1 t2 u1 u2 w1 := by
  have hs := h.size
  have hn : ∀ q, w.heap.size ≤ q → q < w.heap.size + 4 → ¬ T' q ≠ 0 := fun q a b e => e (h.tb q a b)
  exact ⟨hb, h.ref.keep hc (fun q hq e => e (h.tr q hq)), fun q hq => (hT q (by omega)).trans (h.hT q hq), h.hR, fun q hq => (hT q (h.ref.lt q hq)).trans (h.tr q hq), h.rlt, fun q a b => (hT q (by omega)).trans (h.tb q a b),
    h.g.mod hc (hn _ (by omega) (by omega)), h.o.mod hc (hn _ (by omega) (by omega)), h.t.mod hc (hn _ (by omega) (by omega)), h.u.mod hc (hn _ (by omega) (by omega)), chg_and h.chg hc (fun q hq e => .inl (by rw [← h.hT q hq]; exact e)), Nat.le_trans hs hc.size⟩
theorem DAt.prog' {w wx w1 : World} {b c : Nat} {s1 s2 s' : BaySt} {T T' : Nat → Nat} {R R' : Nat → Prop} {G O : Array Value} {t1 t2 u1 u2 : Int} (h : DAt w b c s1 s2 T T' R R' G O t1 t2 u1 u2 wx) (hp : BayPost wx T' b s' w1) :
    ∃ T2, DAt w b c s' s2 T T2 R R' G O t1 t2 u1 u2 w1 := by
  obtain ⟨T2, p1, p2, p3⟩ := hp
  exact ⟨T2, h.prog p1 p2 p3⟩
/-- .. an operation of the document's bay. -/
theorem DAt.doc {w wx w2 : World} {b c : Nat} {s1 s2 s' : BaySt} {T T' : Nat → Nat} {R R' : Nat → Prop} {G O : Array Value} {t1 t2 u1 u2 : Int} (h : DAt w b c s1 s2 T T' R R' G O t1 t2 u1 u2 wx) (hp : RBPost wx R' c s' w2) :
    ∃ R2, DAt w b c s1 s' T T' R R2 G O t1 t2 u1 u2 w2 ∧ (∀ q, R2 q → R' q ∨ wx.heap.size ≤ q) ∧ Chg R' wx w2 := by
  obtain ⟨R2, p1, p2, p3⟩ := hp
  have hs := h.size
  have hv := h.bay.virgin
  refine ⟨R2, ⟨h.bay.keep p3 (fun q hq e => hq (h.tr q e)), p1, h.hT, fun q hq => ?_, fun q hq => ?_, h.rlt, h.tb, h.g.mod p3 (h.notR (by omega) (by omega)), h.o.mod p3 (h.notR (by omega) (by omega)), h.t.mod p3 (h.notR (by omega) (by omega)), h.u.mod p3 (h.notR (by omega) (by omega)), chg_and h.chg p3 (fun q hq e => .inr ((h.hR q e).resolve_right (by omega))), Nat.le_trans hs p3.size⟩, p2, p3⟩
  · rcases p2 q hq with e | e
    · exact h.hR q e
    · exact .inr (by omega)
  · rcases p2 q hq with e | e
    · exact h.tr q e
    · exact hv q e
/-- .. a store into one of the boxes for trouble. -/
theorem DAt.putT {w wx : World} {b c : Nat} {s1 s2 : BaySt} {T T' : Nat → Nat} {R R' : Nat → Prop} {G O : Array Value} {t1 t2 u1 u2 : Int} (h : DAt w b c s1 s2 T T' R R' G O t1 t2 u1 u2 wx) (x y : Int) :
    DAt w b c s1 s2 T T' R R' G O x y u1 u2 ((wx.setCell ⟨w.heap.size + 2, 0, none⟩ (.int .i64 x)).setCell ⟨w.heap.size + 2, 1, none⟩ (.int .u16 y)) ∧ Chg (fun q => q = w.heap.size + 2) wx ((wx.setCell ⟨w.heap.size + 2, 0, none⟩ (.int .i64 x)).setCell ⟨w.heap.size + 2, 1, none⟩ (.int .u16 y)) := by
  obtain ⟨-, -, hc⟩ := trouble_set h.t (.int .i64 x) (.int .u16 y)
  refine ⟨⟨h.bay.keep hc (fun q hq e => by subst e; exact hq (h.tb _ (by omega) (by omega))), h.ref.keep hc (fun q hq e => by subst e; exact h.notR (by omega) (by omega) hq), h.hT, h.hR, h.tr, h.rlt, h.tb, h.g.mod hc (by omega), h.o.mod hc (by omega), (h.t.set 0 (.int .i64 x)).set 1 (.int .u16 y), h.u.mod hc (by omega), chg_and h.chg hc (fun q hq e => by omega), Nat.le_trans h.size hc.size⟩, hc⟩
theorem DAt.putU {w wx : World} {b c : Nat} {s1 s2 : BaySt} {T T' : Nat → Nat} {R R' : Nat → Prop} {G O : Array Value} {t1 t2 u1 u2 : Int} (h : DAt w b c s1 s2 T T' R R' G O t1 t2 u1 u2 wx) (x y : Int) :
    DAt w b c s1 s2 T T' R R' G O t1 t2 x y ((wx.setCell ⟨w.heap.size + 3, 0, none⟩ (.int .i64 x)).setCell ⟨w.heap.size + 3, 1, none⟩ (.int .u16 y)) ∧ Chg (fun q => q = w.heap.size + 3) wx ((wx.setCell ⟨w.heap.size + 3, 0, none⟩ (.int .i64 x)).setCell ⟨w.heap.size + 3, 1, none⟩ (.int .u16 y)) := by
  obtain ⟨-, -, hc⟩ := trouble_set h.u (.int .i64 x) (.int .u16 y)
  refine ⟨⟨h.bay.keep hc (fun q hq e => by subst e; exact hq (h.tb _ (by omega) (by omega))), h.ref.keep hc (fun q hq e => by subst e; exact h.notR (by omega) (by omega) hq), h.hT, h.hR, h.tr, h.rlt, h.tb, h.g.mod hc (by omega), h.o.mod hc (by omega), h.t.mod hc (by omega), (h.u.set 0 (.int .i64 x)).set 1 (.int .u16 y), chg_and h.chg hc (fun q hq e => by omega), Nat.le_trans h.size hc.size⟩, hc⟩
theorem DAt.drew {w wx : World} {b c : Nat} {s1 s2 : BaySt} {T T' : Nat → Nat} {R R' : Nat → Prop} {G O : Array Value} {t1 t2 u1 u2 : Int} (h : DAt w b c s1 s2 T T' R R' G O t1 t2 u1 u2 wx) : DAt w b c s1 s2 T T' R R' G O t1 t2 u1 u2 wx.drew := by
  have hc : Chg (fun _ => False) wx wx.drew := (Chg.refl _ _).drew
  exact ⟨h.bay.keep hc (fun _ _ e => e), h.ref.keep hc (fun _ _ e => e), h.hT, h.hR, h.tr, h.rlt, h.tb, h.g.mod hc (fun e => e), h.o.mod hc (fun e => e), h.t.mod hc (fun e => e), h.u.mod hc (fun e => e), h.chg.trans (hc.mono fun _ e => e.elim), Nat.le_trans h.size hc.size⟩

theorem DAt.sat {W0 w wx : World} {b c K : Nat} {s s' : BaySt} {T T' : Nat → Nat} {R R' : Nat → Prop} {G O : Array Value} {t1 t2 u1 u2 : Int} {bs is : List Value} {vb vi : Value} (h : DAt w b c s' s' T T' R R' G O t1 t2 u1 u2 wx) (h0 : SAt W0 w b c K s T R bs is vb vi) : SAt W0 wx b c K s' T' R' bs is vb vi :=
  h0.step h.bay h.ref h.hT (fun q hq => (h.hR q hq).imp id (fun e => by omega)) h.tr h.chg

abbrev ObjO (k m n : Int) (v : Value) : Obj := .cells #[.int .i64 k, .int .i64 m, .int .i64 n, v] 55

/-- At the beginning. -/
theorem dat_start {W0 w : World} {b c K : Nat} {s : BaySt} {T : Nat → Nat} {R : Nat → Prop} {bs is : List Value} {vb vi : Value} (h : SAt W0 w b c K s T R bs is vb vi) (mg cg sg k m n : Int) (v : Value) :
    DAt w b c s s T T R R #[.int .i64 mg, .int .i64 cg, .int .i64 sg] #[.int .i64 k, .int .i64 m, .int .i64 n, v] 0 0 0 0 ((((w.alloc (ObjG mg cg sg)).alloc (ObjO k m n v)).alloc (ObjT 0 0)).alloc (ObjT 0 0)) := by
  have e1 : (w.alloc (ObjG mg cg sg)).heap.size = w.heap.size + 1 := size_alloc _ _
  have e2 : ((w.alloc (ObjG mg cg sg)).alloc (ObjO k m n v)).heap.size = w.heap.size + 2 := by rw [size_alloc, e1]
  have e3 : (((w.alloc (ObjG mg cg sg)).alloc (ObjO k m n v)).alloc (ObjT 0 0)).heap.size = w.heap.size + 3 := by rw [size_alloc, e2]
  have e4 : ((((w.alloc (ObjG mg cg sg)).alloc (ObjO k m n v)).alloc (ObjT 0 0)).alloc (ObjT 0 0)).heap.size = w.heap.size + 4 := by rw [size_alloc, e3]
  have hc : Chg (fun _ => False) w ((((w.alloc (ObjG mg cg sg)).alloc (ObjO k m n v)).alloc (ObjT 0 0)).alloc (ObjT 0 0)) := ((((Chg.refl _ _).alloc _).alloc _).alloc _).alloc _
  have a1 : At ((w.alloc (ObjG mg cg sg)).alloc (ObjO k m n v)) (w.heap.size + 1) #[.int .i64 k, .int .i64 m, .int .i64 n, v] 55 := by rw [← e1]; exact At.new _ _ _
  have a2 : At (((w.alloc (ObjG mg cg sg)).alloc (ObjO k m n v)).alloc (ObjT 0 0)) (w.heap.size + 2) #[.int .i64 0, .int .u16 0] 72 := by rw [← e2]; exact At.new _ _ _
  have a3 : At ((((w.alloc (ObjG mg cg sg)).alloc (ObjO k m n v)).alloc (ObjT 0 0)).alloc (ObjT 0 0)) (w.heap.size + 3) #[.int .i64 0, .int .u16 0] 72 := by rw [← e3]; exact At.new _ _ _
  exact ⟨h.bay.keep hc (fun _ _ e => e), h.ref.keep hc (fun _ _ e => e), fun _ _ => rfl, fun q hq => .inl hq, h.tr, h.ref.lt, fun q hq _ => h.bay.virgin q hq, (((At.new _ _ _).alloc _).alloc _).alloc _, (a1.alloc _).alloc _, a2.alloc _, a3, hc.mono (fun _ e => e.elim), by rw [e4]; omega⟩

end Go.Proofs.YtleicmmbaacbmaaGreat

/- Sums of rows, plain: what one sector that turned, and a parity written anew, come to. -/
set_option linter.unusedVariables false
namespace Go.Proofs.YtleicmmbaacbmaaGreat
open Go.RowKit

theorem xorTo_congr {f g : Nat → Sec} {but : Int} : ∀ k : Nat, (∀ j : Nat, j < k → (j : Int) ≠ but → f j = g j) → xorTo f but k = xorTo g but k
  | 0, _ => rfl
  | k + 1, h => by
    have ih := xorTo_congr (f := f) (g := g) (but := but) k (fun j hj => h j (by omega))
    unfold xorTo
    by_cases hb : (k : Int) = but
    · rw [if_pos hb, if_pos hb, ih]
    · rw [if_neg hb, if_neg hb, ih, h k (by omega) hb]

theorem xorTo_far (f : Nat → Sec) (but : Int) : ∀ k : Nat, (but < 0 ∨ (k : Int) ≤ but) → xorTo f but k = xorTo f (-1) k
  | 0, _ => rfl
  | k + 1, h => by
    have ih := xorTo_far f but k (by omega)
    unfold xorTo
    rw [if_neg (by omega), if_neg (by omega), ih]

/-- One member more. -/
theorem xorTo_out (f : Nat → Sec) (p : Nat) (i : Nat) : ∀ k : Nat, p < k → xorTo f (-1) k i = xorTo f p k i ^^^ (f p).getD i 0
  | 0, h => by omega
  | k + 1, h => by
    show (if (k : Int) = -1 then _ else fun i => xorTo f (-1) k i ^^^ (f k).getD i 0) i = (if (k : Int) = p then xorTo f p k else fun i => xorTo f p k i ^^^ (f k).getD i 0) i ^^^ _
    rw [if_neg (by omega)]
    by_cases hp : k = p
    · subst hp
      rw [if_pos rfl, xorTo_far f k k (.inr (by omega))]
    · have ih := xorTo_out f p i k (by omega)
      rw [if_neg (by omega)]
      show xorTo f (-1) k i ^^^ _ = (xorTo f p k i ^^^ _) ^^^ _
      rw [ih, UInt8.xor_assoc, UInt8.xor_assoc, UInt8.xor_comm ((f p).getD i 0)]

theorem zsec_at (i : Nat) : zsec.getD i 0 = 0 := by
  unfold zsec
  rw [List.getD_eq_getElem?_getD, List.getElem?_replicate]
  split <;> rfl

theorem xorTo_zero (f : Nat → Sec) (but : Int) (i : Nat) : ∀ k : Nat, (∀ j : Nat, j < k → (j : Int) ≠ but → f j = zsec) → xorTo f but k i = 0
  | 0, _ => rfl
  | k + 1, h => by
    have ih := xorTo_zero f but i k (fun j hj => h j (by omega))
    unfold xorTo
    by_cases hb : (k : Int) = but
    · rw [if_pos hb, ih]
    · rw [if_neg hb]
      show xorTo f but k i ^^^ (f k).getD i 0 = 0
      rw [ih, h k (by omega) hb, zsec_at]
      rfl

theorem uneven_congr {s s' : BaySt} {M : Nat} : ∀ R, (∀ j r, j < M → r < R → s.sec j (1 + r) = s'.sec j (1 + r)) → uneven s M R = uneven s' M R
  | 0, _ => rfl
  | r + 1, h => by
    have ih := uneven_congr (s := s) (s' := s') (M := M) r (fun j q hj hq => h j q hj (by omega))
    unfold uneven
    rw [ih, xorTo_congr (f := fun m => s.sec m (1 + r)) (g := fun m => s'.sec m (1 + r)) M (fun j hj _ => h j r hj (by omega))]

theorem uneven_lt (s : BaySt) (M : Nat) : ∀ R, ∀ x ∈ uneven s M R, x < R
  | 0, x, h => by cases h
  | r + 1, x, h => by
    unfold uneven at h
    split at h
    · have := uneven_lt s M r x h; omega
    · rcases List.mem_append.1 h with h | h
      · have := uneven_lt s M r x h; omega
      · simp at h; omega

theorem uneven_length (s : BaySt) (M : Nat) : ∀ R, (uneven s M R).length ≤ R
  | 0 => by show 0 ≤ 0; omega
  | r + 1 => by
    have ih := uneven_length s M r
    unfold uneven
    split
    · omega
    · simp; omega

/-- A row that is even behind, all others as ahead. -/
theorem uneven_mend {s s' : BaySt} {M k : Nat} (h : allZero (xorTo (fun m => s'.sec m (1 + k)) (-1) M) 128) : ∀ R, (∀ j r, j < M → r < R → r ≠ k → s'.sec j (1 + r) = s.sec j (1 + r)) → uneven s' M R = (uneven s M R).filter (fun x => decide (x ≠ k))
  | 0, _ => rfl
  | r + 1, hr => by
    have ih := uneven_mend (s := s) h r (fun j q hj hq => hr j q hj (by omega))
    unfold uneven
    by_cases hk : r = k
    · subst hk
      rw [if_pos h, ih]
      split
      · rfl
      · rw [List.filter_append]
        simp
    · rw [xorTo_congr (f := fun m => s'.sec m (1 + r)) (g := fun m => s.sec m (1 + r)) M (fun j hj _ => hr j r hj (by omega) hk), ih]
      split
      · rfl
      · rw [List.filter_append]
        simp [hk]

theorem allZero_nil (s : BaySt) (M : Nat) : ∀ R, (∀ r, r < R → allZero (xorTo (fun m => s.sec m (1 + r)) (-1) M) 128) → uneven s M R = []
  | 0, _ => rfl
  | r + 1, h => by
    unfold uneven
    rw [if_pos (h r (by omega)), allZero_nil s M r (fun q hq => h q (by omega))]

/-- One row alone is uneven. -/
theorem uneven_one (s : BaySt) (M k : Nat) : ∀ R, k < R → (∀ r, r < R → r ≠ k → allZero (xorTo (fun m => s.sec m (1 + r)) (-1) M) 128) → ¬ allZero (xorTo (fun m => s.sec m (1 + k)) (-1) M) 128 → uneven s M R = [k]
  | 0, h, _, _ => by omega
  | r + 1, h, h1, h2 => by
    unfold uneven
    by_cases hk : r = k
    · subst hk
      rw [if_neg h2, allZero_nil s M r (fun q hq => h1 q (by omega) (by omega))]
      rfl
    · rw [if_pos (h1 r (by omega) hk), uneven_one s M k r (by omega) (fun q hq => h1 q (by omega)) h2]

theorem sumL_zero {f : Nat → UInt8} {n : Nat} (h : ∀ i, i < n → f i = 0) : sumL f n = List.replicate n 0 := by
  apply List.ext_getElem?
  intro i
  simp only [sumL, List.getElem?_map, List.getElem?_range, List.getElem?_replicate]
  by_cases hi : i < n
  · simp [hi, h i hi]
  · simp [hi]
theorem sumL_at3 (f : Nat → UInt8) (n i : Nat) (h : i < n) : (sumL f n).getD i 0 = f i := by
  rw [List.getD_eq_getElem?_getD]
  simp [sumL, h]
theorem sumL_eq {f : Nat → UInt8} {l : List UInt8} {n : Nat} (hl : l.length = n) (h : ∀ i, i < n → f i = l.getD i 0) : sumL f n = l := by
  apply List.ext_getElem?
  intro i
  simp only [sumL, List.getElem?_map, List.getElem?_range]
  by_cases hi : i < n
  · rw [show (List.range n)[i]? = some i by simp [hi]]
    have := h i hi
    rw [List.getD_eq_getElem?_getD, List.getElem?_eq_getElem (by omega)] at this
    rw [List.getElem?_eq_getElem (by omega)]
    simpa using this
  · have e : l[i]? = none := List.getElem?_eq_none (by omega)
    rw [e]
    simp
    omega

theorem xor_zero_eq {a b : UInt8} (h : a ^^^ b = 0) : a = b := by
  have h2 : (a ^^^ b) ^^^ b = 0 ^^^ b := by rw [h]
  rw [UInt8.xor_assoc, UInt8.xor_self, UInt8.xor_zero, UInt8.zero_xor] at h2
  exact h2

/-- All members of an even row: each is the sum of the others. -/
theorem lost_even {f : Nat → Sec} {M m : Nat} (hm : m < M) (hl : (f m).length = 128) (h : allZero (xorTo f (-1) M) 128) : sumL (xorTo f m M) 128 = f m := by
  refine sumL_eq hl fun i hi => xor_zero_eq ?_
  rw [← xorTo_out f m i M hm]
  exact h i hi

/-- One sector alone is not noughts. -/
theorem xorTo_one {f : Nat → Sec} {m : Nat} {x : Sec} (hm : f m = x) (but : Int) (i : Nat) : ∀ k : Nat, (∀ j : Nat, j < k → j ≠ m → f j = zsec) → xorTo f but k i = if m < k ∧ (m : Int) ≠ but then x.getD i 0 else 0
  | 0, _ => by rw [if_neg (by omega)]; rfl
  | k + 1, h => by
    have ih := xorTo_one hm but i k (fun j hj => h j (by omega))
    unfold xorTo
    by_cases hb : (k : Int) = but
    · rw [if_pos hb, ih]
      by_cases h1 : m < k ∧ (m : Int) ≠ but
      · rw [if_pos h1, if_pos ⟨by omega, h1.2⟩]
      · rw [if_neg h1, if_neg (by omega)]
    · rw [if_neg hb]
      show xorTo f but k i ^^^ (f k).getD i 0 = _
      rw [ih]
      by_cases hk : k = m
      · subst hk
        rw [if_neg (by omega), if_pos ⟨by omega, hb⟩, hm, UInt8.zero_xor]
      · rw [h k (by omega) hk, zsec_at, UInt8.xor_zero]
        by_cases h1 : m < k ∧ (m : Int) ≠ but
        · rw [if_pos h1, if_pos ⟨by omega, h1.2⟩]
        · rw [if_neg h1, if_neg (by omega)]

/-- A row whose parity is the sum of the others is even. -/
theorem mended_even {f g : Nat → Sec} {M p : Nat} (hp : p < M) (hg : g p = sumL (xorTo f p M) 128) (h : ∀ j, j < M → j ≠ p → g j = f j) : allZero (xorTo g (-1) M) 128 := by
  intro i hi
  rw [xorTo_out g p i M hp, hg, sumL_at3 _ _ _ hi, xorTo_congr (f := g) (g := f) (but := (p : Int)) M (fun j hj hne => h j hj (by omega)), UInt8.xor_self]

end Go.Proofs.YtleicmmbaacbmaaGreat
