/- The document's: a patch among a row's. -/
import Derived.Test.YtkcfmkhakghniaaGreatPlwP
import Derived.Test.YtkcfmkhakghniaaGreatPlwF
set_option linter.unusedVariables false
namespace Go.Proofs.YtkcfmkhakghniaaGreat
open Go.RowKit

/-- One patch further: what came out, and whether the new one is among it. -/
def intoStep (p : Pat) (s : List Pat × Bool) (q : Pat) : List Pat × Bool :=
  ((if (!s.2 && decide (p.m ≤ q.m)) = true then s.1 ++ [p] else s.1) ++ (if q.m = p.m then [] else [q]), s.2 || decide (p.m ≤ q.m))
def intoTo (ps : List Pat) (p : Pat) (k : Nat) : List Pat × Bool := (ps.take k).foldl (intoStep p) ([], false)
def intoL (ps : List Pat) (p : Pat) : List Pat := if (intoTo ps p ps.length).2 = true then (intoTo ps p ps.length).1 else (intoTo ps p ps.length).1 ++ [p]
theorem intoTo_zero (ps : List Pat) (p : Pat) : intoTo ps p 0 = ([], false) := by simp [intoTo]
theorem intoTo_succ (ps : List Pat) (p : Pat) (k : Nat) (h : k < ps.length) : intoTo ps p (k + 1) = intoStep p (intoTo ps p k) (ps[k]'h) := by
  unfold intoTo
  rw [List.take_succ_eq_append_getElem h, List.foldl_append]
  rfl

abbrev PatsUp (ps : List Pat) : Prop := ps.Pairwise fun a b => a.m < b.m

structure IntoIs (ps : List Pat) (p : Pat) (k : Nat) (s : List Pat × Bool) : Prop where
  up : PatsUp s.1
  mem : ∀ q, q ∈ s.1 ↔ (q = p ∧ s.2 = true) ∨ (q ∈ ps.take k ∧ q.m ≠ p.m)
  don : s.2 = true ↔ ∃ q ∈ ps.take k, p.m ≤ q.m

theorem into_is (ps : List Pat) (p : Pat) (hu : PatsUp ps) : ∀ k, k ≤ ps.length → IntoIs ps p k (intoTo ps p k)
  | 0, _ => by
    rw [intoTo_zero]
    exact ⟨List.Pairwise.nil, fun q => by simp, by simp⟩
  | k + 1, hk => by
    have ih := into_is ps p hu k (by omega)
    have hk' : k < ps.length := by omega
    rw [intoTo_succ ps p k hk']
    generalize intoTo ps p k = st at ih ⊢
    obtain ⟨out, dn⟩ := st
    obtain ⟨h1, h2, h3⟩ := ih
    try simp only at h1 h2 h3
    have hq : ∀ x ∈ ps.take k, x.m < (ps[k]'hk').m := fun x hx => by
      obtain ⟨j, hj, rfl⟩ := List.getElem_of_mem hx
      rw [List.length_take] at hj
      rw [List.getElem_take]
      exact List.pairwise_iff_getElem.1 hu j k (by omega) hk' (by omega)
    have htk : ps.take (k + 1) = ps.take k ++ [ps[k]'hk'] := List.take_succ_eq_append_getElem hk'
    generalize ps[k]'hk' = q at *
    unfold intoStep
    simp only
    have hdon : (dn || decide (p.m ≤ q.m)) = true ↔ ∃ x ∈ ps.take (k + 1), p.m ≤ x.m := by
      rw [htk, Bool.or_eq_true, decide_eq_true_eq, h3]
      constructor
      · rintro (⟨x, hx, hy⟩ | h)
        · exact ⟨x, List.mem_append_left _ hx, hy⟩
        · exact ⟨q, by simp, h⟩
      · rintro ⟨x, hx, hy⟩
        rcases List.mem_append.1 hx with hx | hx
        · exact .inl ⟨x, hx, hy⟩
        · obtain rfl : x = q := by simpa using hx
          exact .inr hy
    cases hd : dn
    · rw [hd] at h2 h3 hdon
      have hlow : ∀ x ∈ ps.take k, x.m < p.m := fun x hx => Classical.byContradiction fun e => by
        have := h3.2 ⟨x, hx, by omega⟩
        cases this
      have hout : ∀ x ∈ out, x.m < p.m ∧ x.m < q.m := fun x hx => by
        rcases (h2 x).1 hx with ⟨-, h⟩ | ⟨h, -⟩
        · cases h
        · exact ⟨hlow x h, hq x h⟩
      by_cases hpq : p.m ≤ q.m
      · have e1 : (!false && decide (p.m ≤ q.m)) = true := by simp [hpq]
        rw [if_pos e1]
        have e2 : (false || decide (p.m ≤ q.m)) = true := by simp [hpq]
        by_cases heq : q.m = p.m
        · rw [if_pos heq, List.append_nil]
          refine ⟨?_, fun x => ?_, hdon⟩
          · show List.Pairwise _ (_ ++ _)
            rw [List.pairwise_append]
            exact ⟨h1, List.pairwise_singleton _ _, fun a ha b hb => by obtain rfl : b = p := by simpa using hb
                                                                        exact (hout a ha).1⟩
          · rw [htk, List.mem_append, List.mem_append, List.mem_singleton, List.mem_singleton, h2]
            constructor
            · rintro ((⟨-, h⟩ | ⟨h, h'⟩) | h)
              · cases h
              · exact .inr ⟨.inl h, h'⟩
              · exact .inl ⟨h, e2⟩
            · rintro (⟨h, -⟩ | ⟨h | h, h'⟩)
              · exact .inr h
              · exact .inl (.inr ⟨h, h'⟩)
              · subst h; exact absurd heq h'
        · rw [if_neg heq]
          refine ⟨?_, fun x => ?_, hdon⟩
          · show List.Pairwise _ (_ ++ _)
            rw [List.pairwise_append, List.pairwise_append]
            refine ⟨⟨h1, List.pairwise_singleton _ _, fun a ha b hb => by obtain rfl : b = p := by simpa using hb
                                                                          exact (hout a ha).1⟩, List.pairwise_singleton _ _, fun a ha b hb => ?_⟩
            obtain rfl : b = q := by simpa using hb
            rcases List.mem_append.1 ha with ha | ha
            · exact (hout a ha).2
            · obtain rfl : a = p := by simpa using ha
              omega
          · rw [htk, List.mem_append, List.mem_append, List.mem_append, List.mem_singleton, List.mem_singleton, h2]
            constructor
            · rintro (((⟨-, h⟩ | ⟨h, h'⟩) | h) | h)
              · cases h
              · exact .inr ⟨.inl h, h'⟩
              · exact .inl ⟨h, e2⟩
              · exact .inr ⟨.inr h, by rw [h]; exact heq⟩
            · rintro (⟨h, -⟩ | ⟨h | h, h'⟩)
              · exact .inl (.inr h)
              · exact .inl (.inl (.inr ⟨h, h'⟩))
              · exact .inr h
      · have e1 : ¬ (!false && decide (p.m ≤ q.m)) = true := by simp [hpq]
        have e2 : ¬ (false || decide (p.m ≤ q.m)) = true := by simp [hpq]
        rw [if_neg e1, if_neg (by omega)]
        refine ⟨?_, fun x => ?_, hdon⟩
        · show List.Pairwise _ (_ ++ _)
          rw [List.pairwise_append]
          exact ⟨h1, List.pairwise_singleton _ _, fun a ha b hb => by obtain rfl : b = q := by simpa using hb
                                                                      exact (hout a ha).2⟩
        · rw [htk, List.mem_append, List.mem_append, List.mem_singleton, h2]
          constructor
          · rintro ((⟨-, h⟩ | ⟨h, h'⟩) | h)
            · cases h
            · exact .inr ⟨.inl h, h'⟩
            · exact .inr ⟨.inr h, by rw [h]; omega⟩
          · rintro (⟨-, h⟩ | ⟨h | h, h'⟩)
            · exact absurd h e2
            · exact .inl (.inr ⟨h, h'⟩)
            · exact .inr h
    · rw [hd] at h2 h3 hdon
      obtain ⟨z, hz1, hz2⟩ := h3.1 rfl
      have hzq := hq z hz1
      have hout : ∀ x ∈ out, x.m < q.m := fun x hx => by
        rcases (h2 x).1 hx with ⟨h, -⟩ | ⟨h, -⟩
        · rw [h]; omega
        · exact hq x h
      have e1 : ¬ (!true && decide (p.m ≤ q.m)) = true := by simp
      rw [if_neg e1, if_neg (by omega)]
      refine ⟨?_, fun x => ?_, hdon⟩
      · show List.Pairwise _ (_ ++ _)
        rw [List.pairwise_append]
        exact ⟨h1, List.pairwise_singleton _ _, fun a ha b hb => by obtain rfl : b = q := by simpa using hb
                                                                    exact hout a ha⟩
      · rw [htk, List.mem_append, List.mem_append, List.mem_singleton, h2]
        constructor
        · rintro ((⟨h, -⟩ | ⟨h, h'⟩) | h)
          · exact .inl ⟨h, by simp⟩
          · exact .inr ⟨.inl h, h'⟩
          · exact .inr ⟨.inr h, by rw [h]; omega⟩
        · rintro (⟨h, -⟩ | ⟨h | h, h'⟩)
          · exact .inl (.inl ⟨h, rfl⟩)
          · exact .inl (.inr ⟨h, h'⟩)
          · exact .inr h

theorem intoL_is {ps : List Pat} {p : Pat} (hu : PatsUp ps) : PatsUp (intoL ps p) ∧ ∀ q, q ∈ intoL ps p ↔ q = p ∨ (q ∈ ps ∧ q.m ≠ p.m) := by
  have h := into_is ps p hu ps.length (Nat.le_refl _)
  unfold intoL
  generalize intoTo ps p ps.length = st at h ⊢
  obtain ⟨out, dn⟩ := st
  obtain ⟨h1, h2, h3⟩ := h
  simp only [List.take_length] at h1 h2 h3
  try simp only
  cases dn
  · rw [if_neg (by simp)]
    have hlow : ∀ x ∈ ps, x.m < p.m := fun x hx => Classical.byContradiction fun e => by
      have := h3.2 ⟨x, hx, by omega⟩
      cases this
    refine ⟨?_, fun q => ?_⟩
    · rw [PatsUp, List.pairwise_append]
      refine ⟨h1, List.pairwise_singleton _ _, fun a ha b hb => ?_⟩
      obtain rfl : b = p := by simpa using hb
      rcases (h2 a).1 ha with ⟨-, h⟩ | ⟨h, -⟩
      · cases h
      · exact hlow a h
    · rw [List.mem_append, List.mem_singleton, h2]
      constructor
      · rintro ((⟨-, h⟩ | h) | h)
        · cases h
        · exact .inr h
        · exact .inl h
      · rintro (h | h)
        · exact .inr h
        · exact .inl (.inr h)
  · rw [if_pos rfl]
    refine ⟨h1, fun q => ?_⟩
    rw [h2]
    constructor
    · rintro (⟨h, -⟩ | h)
      · exact .inl h
      · exact .inr h
    · rintro (h | h)
      · exact .inl ⟨h, rfl⟩
      · exact .inr h

/-- Two rising lists of the same patches are one. -/
theorem pats_ext : ∀ {l m : List Pat}, PatsUp l → PatsUp m → (∀ x, x ∈ l ↔ x ∈ m) → l = m
  | [], [], _, _, _ => rfl
  | [], b :: m, _, _, h => by have := (h b).2 List.mem_cons_self; cases this
  | a :: l, [], _, _, h => by have := (h a).1 List.mem_cons_self; cases this
  | a :: l, b :: m, h1, h2, h => by
    rw [PatsUp, List.pairwise_cons] at h1 h2
    have hab : a = b := by
      rcases List.mem_cons.1 ((h a).1 List.mem_cons_self) with e | e
      · exact e
      · rcases List.mem_cons.1 ((h b).2 List.mem_cons_self) with e' | e'
        · exact e'.symm
        · have := h2.1 a e
          have := h1.1 b e'
          omega
    subst hab
    rw [pats_ext h1.2 h2.2 fun x => ?_]
    constructor
    · intro hx
      rcases List.mem_cons.1 ((h x).1 (List.mem_cons_of_mem _ hx)) with e | e
      · subst e; have := h1.1 x hx; omega
      · exact e
    · intro hx
      rcases List.mem_cons.1 ((h x).2 (List.mem_cons_of_mem _ hx)) with e | e
      · subst e; have := h2.1 x hx; omega
      · exact e

theorem patsIn_up (M : Nat) (G : Tab) (r : Nat) : PatsUp (patsIn M G r) := by
  unfold PatsUp patsIn
  rw [List.pairwise_map]
  exact (which_pw _ _).imp fun {a b} h => by
    show ((a : Nat) : Int) < ((b : Nat) : Int)
    omega
theorem patsIn_mem {M : Nat} {G : Tab} {r : Nat} {q : Pat} : q ∈ patsIn M G r ↔ ∃ (m : Nat) (d : List UInt8), m < M ∧ G (r : Int) (m : Int) = some d ∧ q = ⟨(m : Int), (r : Int), d⟩ := by
  unfold patsIn membsIn
  rw [List.mem_map]
  constructor
  · rintro ⟨m, hm, rfl⟩
    obtain ⟨h1, h2⟩ := which_mem.1 hm
    obtain ⟨d, hd⟩ := Option.isSome_iff_exists.1 h2
    exact ⟨m, d, h1, hd, by rw [hd]; rfl⟩
  · rintro ⟨m, d, h1, h2, rfl⟩
    exact ⟨m, which_mem.2 ⟨h1, by rw [h2]; rfl⟩, by rw [h2]; rfl⟩

/-- A block more. -/
theorem patsIn_set (M : Nat) (G : Tab) (r m : Nat) (d : List UInt8) (hm : m < M) : patsIn M (tabSet G (r : Int) (m : Int) d) r = intoL (patsIn M G r) ⟨(m : Int), (r : Int), d⟩ := by
  obtain ⟨h1, h2⟩ := intoL_is (p := ⟨(m : Int), (r : Int), d⟩) (patsIn_up M G r)
  refine pats_ext (patsIn_up M _ r) h1 fun q => ?_
  rw [h2, patsIn_mem, patsIn_mem]
  constructor
  · rintro ⟨m', d', h3, h4, rfl⟩
    unfold tabSet at h4
    by_cases e : (m' : Int) = (m : Int)
    · rw [if_pos ⟨rfl, e⟩] at h4
      simp only [Option.some.injEq] at h4
      left
      rw [h4, e]
    · rw [if_neg (fun h => e h.2)] at h4
      exact .inr ⟨⟨m', d', h3, h4, rfl⟩, e⟩
  · rintro (rfl | ⟨⟨m', d', h3, h4, rfl⟩, h5⟩)
    · exact ⟨m, d, hm, by unfold tabSet; rw [if_pos ⟨rfl, rfl⟩], rfl⟩
    · exact ⟨m', d', h3, by unfold tabSet; rw [if_neg (fun h => h5 h.2)]; exact h4, rfl⟩
theorem patsIn_other (M : Nat) (G : Tab) (r m r' : Nat) (d : List UInt8) (h : r' ≠ r) : patsIn M (tabSet G (r : Int) (m : Int) d) r' = patsIn M G r' := by
  have e : ∀ x : Int, tabSet G (r : Int) (m : Int) d (r' : Int) x = G (r' : Int) x := fun x => by
    unfold tabSet
    rw [if_neg (fun h' => h (by have := h'.1; omega))]
  unfold patsIn membsIn
  simp only [e]

/-- A row of patches that the call has made; their bytes lie in what was there. -/
structure VRow (w0 w : World) (v : Value) (X : List OP) : Prop where
  row : w.ownsRow w0.heap.size 177 3 v X.length (elems (fun i => opCells (X.getD i op0)) X.length)
  dat : ∀ x ∈ X, Seg w0 x.2 x.1.d
theorem VRow.nil (w0 w : World) : VRow w0 w (.slice none 0 0) [] := ⟨World.ownsRow_nil _ _ _ _, fun x hx => by simp at hx⟩
theorem VRow.below {w0 w w' : World} {v : Value} {X : List OP} (h : VRow w0 w v X) (hb : Below w.heap.size w w') : VRow w0 w' v X := ⟨ownsRow_below h.row hb (Nat.le_refl _), h.dat⟩
theorem VRow.snoc {w0 w w' : World} {v v' : Value} {X : List OP} {x : OP} (h : VRow w0 w v X) (hx : Seg w0 x.2 x.1.d) (hrow : w'.ownsRow w0.heap.size 177 3 v' (X.length + 1) (elems (fun i => opCells (X.getD i op0)) X.length ++ opCells x)) : VRow w0 w' v' (X ++ [x]) := by
  refine ⟨?_, fun y hy => ?_⟩
  · rw [opElems_snoc, List.length_append, List.length_singleton]
    exact hrow
  · rcases List.mem_append.1 hy with hy | hy
    · exact h.dat y hy
    · obtain rfl : y = x := by simpa using hy
      exact hx
theorem VRow.pseg {w0 w : World} {v : Value} {X : List OP} (h : VRow w0 w v X) (hb : Below w0.heap.size w0 w) (hf : X.length ≤ 200000) (hl : ∀ x ∈ X, x.1.d.length ≤ 140737488355000) : PSeg w v (X.map (·.1)) := by
  obtain ⟨a, c, rfl⟩ := ownsRow_shape h.row
  refine ⟨a, c, by rw [List.length_map], by rw [List.length_map]; omega, fun p hp => ?_, ?_⟩
  · obtain ⟨x, hx, rfl⟩ := List.mem_map.1 hp
    exact hl x hx
  · by_cases hl : X.length = 0
    · left
      rw [List.eq_nil_of_length_eq_zero hl]
      rfl
    · obtain ⟨g, cap, hv, hB, hg⟩ := ownsRow_full h.row (by omega)
      simp only [Value.slice.injEq] at hv
      obtain ⟨rfl, -, rfl⟩ := hv
      refine .inr ⟨g, 0, rfl, hg, fun j hj => ?_⟩
      rw [List.length_map] at hj
      have e : X.getD j op0 = X[j] := by rw [List.getD_eq_getElem?_getD, List.getElem?_eq_getElem hj]; rfl
      have c0 := own_cell3 h.row (fun k => rfl) j 0 hj (by omega)
      have c1 := own_cell3 h.row (fun k => rfl) j 1 hj (by omega)
      have c2 := own_cell3 h.row (fun k => rfl) j 2 hj (by omega)
      rw [e] at c0 c1 c2
      rw [Nat.zero_add, List.getElem_map]
      exact ⟨by rw [show j * 3 = j * 3 + 0 by omega, c0]; rfl, by rw [c1]; rfl, _, by rw [c2]; rfl, (h.dat _ (List.getElem_mem hj)).below hb⟩

end Go.Proofs.YtkcfmkhakghniaaGreat
