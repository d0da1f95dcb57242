/- The greater of two whole numbers, in one step. -/
import Derived.Test.YtkcfmkhakghniaaBlk2
import Derived.Test.YtkcfmkhakghniaaRows
import Derived.WalkSpells
import Derived.WalkLawsBesides
import Derived.BigFrame
import Derived.OwnWalk
namespace Go

theorem wpList_max {P : Program} {ops : Array Oper} {rest : List Oper} {o : Oper} {a : Act} {Q : Exit → Act → World → Prop} {w : World} (hg : o.guard = none) (x y : Operand) (t : TypeId) (hop : o.op = Op.call { callee := Callee.builtin Builtin.max, args := #[x, y], argTypes := #[t, t] })
    (p q r : Int) (hx : a.eval x = .int .i64 p) (hy : a.eval y = .int .i64 q) (hr : r = if p < q then q else p)
    (h : wpList P ops Q rest (a.put o.dst (.int .i64 r)) w) : wpList P ops Q (o :: rest) a w := by
  refine wpList_plain hg fun K' hK' => ?_
  have hrun : (Builtin.max_ #[t, t] o.type #[.int .i64 p, .int .i64 q]).run P w = .ok (.int .i64 r) w := by
    subst hr
    by_cases hpq : p < q
    · simp [Builtin.max_, Builtin.max2, hpq]
    · simp [Builtin.max_, Builtin.max2, hpq]
  unfold Oper.wp
  simp [execOp, hop, resolve, invoke, builtin, hx, hy, hrun, Result.andThen]
  exact hK' _ _ h

open Go.RowKit
/-- 'make([]T, n)' behind a guard that holds, an element being sz cells of one and the same value. -/
theorem wpList_make_want {P : Program} {ops : Array Oper} {rest : List Oper} {o : Oper} {a : Act} {Q : Exit → Act → World → Prop} {w : World} (hg : Region.wanted o (yielded ops a.tmps) = true) (l c : Operand) (t e : TypeId) (sz bytes : Nat)
    (hop : o.op = Op.makeSlice t l c) (hT : SliceOf P t e sz bytes) (u : Value) (hz : ((P.info? e).bind (·.zero)).map (·.cells) = some (List.replicate sz u).toArray)
    (kl kc : IntKind) (L C : Int) (n : Nat) (hl : a.eval l = .int kl L) (hc : a.eval c = .int kc C) (hL : L = (n : Int)) (hC : C = (n : Int))
    (b2 : bytes * n ≤ 281474976710656) (b3 : n ≤ maxLen)
    (hK : ∀ w', At w' w.heap.size (List.replicate (n * sz) u).toArray e → Below w.heap.size w w' → wpList P ops Q rest (a.put o.dst (.slice (some ⟨w.heap.size, 0, none⟩) n n)) w') :
    wpList P ops Q (o :: rest) a w := by
  obtain ⟨h1, h0, i, z', h2, h3, h4, h5, h6⟩ := hT
  have hcells : z'.cells = (List.replicate sz u).toArray := by
    rw [h2] at hz
    simpa [h3] using hz
  obtain ⟨w', hrun, hown, hgr⟩ := run_make_full (P := P) w w.heap.size t e i z' sz h1 h2 h3 h4 kl kc n (by rw [h5]; exact b2) b3 (Nat.le_refl _)
  refine BigFrame.wpList_want hg fun K' hK' => ?_
  subst hL
  subst hC
  unfold Oper.wp
  simp [execOp, hop, hl, hc, hrun, Result.andThen]
  refine hK' _ _ (hK w' ?_ ?_)
  · obtain ⟨hlen, hh⟩ := hown
    rcases hh with ⟨hh, _⟩ | ⟨g', cap, cur, hv, hb, hg', hc', _, hs, ht⟩
    · cases hh
    · simp only [Value.slice.injEq, Option.some.injEq, Addr.mk.injEq] at hv
      obtain ⟨⟨rfl, _, _⟩, _, rfl⟩ := hv
      have e1 : cur.toList = List.replicate (n * sz) u := by
        rw [List.take_of_length_le (by simp [hs])] at ht
        rw [ht]
        apply List.ext_getElem?
        intro j
        rw [List.getElem?_replicate, hcells]
        by_cases hj : j < n * sz
        · have hm : j % sz < sz := Nat.mod_lt _ h0
          simp [madeCells, hj, hm]
        · simp [madeCells, hj]
      rw [← e1, Array.toArray_toList]
      exact hg'
  · exact (Below.refl _ _).grown hgr (Nat.le_refl _) (fun k hk => by simp at hk)

end Go
