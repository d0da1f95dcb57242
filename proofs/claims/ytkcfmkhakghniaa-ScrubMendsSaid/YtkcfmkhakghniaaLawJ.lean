/- A row is mended: where the walk stands. -/
import Derived.Test.YtkcfmkhakghniaaLawH
import Derived.Test.YtkcfmkhakghniaaLawD
import Derived.Test.YtkcfmkhakghniaaLawE
import Derived.Test.YtkcfmkhakghniaaMaxW
set_option linter.unusedVariables false
namespace Go.Proofs.Ytkcfmkhakghniaa
open Go.RowKit

/-- A bay, the argument's box; all that the bay has is the call's own. -/
structure Stand (w wr : World) (T : Nat → Nat) (b : Nat) (s : BaySt) (M C S : Nat) : Prop where
  bay : BayAt wr T b s
  box : Kept wr T w.heap.size #[.int .i64 M, .int .i64 C, .int .i64 S] 23
  low : ∀ q, T q ≠ 0 → w.heap.size ≤ q
  bel : Below w.heap.size w wr

theorem Stand.chg {w wr w' : World} {T : Nat → Nat} {b : Nat} {s s' : BaySt} {M C S : Nat} (h : Stand w wr T b s M C S) (hB : BayAt w' T b s') (hc : Chg (fun q => T q ≠ 0) wr w') : Stand w w' T b s' M C S :=
  ⟨hB, h.box.chg hc, h.low, Chg.own h.bel hc h.low⟩
theorem Stand.below {w wr w' : World} {T : Nat → Nat} {b : Nat} {s : BaySt} {M C S : Nat} (h : Stand w wr T b s M C S) (hb : Below wr.heap.size wr w') : Stand w w' T b s M C S :=
  h.chg (h.bay.below hb) (Chg.ofBelow hb _)
theorem Stand.alloc {w wr : World} {T : Nat → Nat} {b : Nat} {s : BaySt} {M C S : Nat} (h : Stand w wr T b s M C S) (o : Obj) : Stand w (wr.alloc o) T b s M C S :=
  h.chg (h.bay.more o) ((Chg.refl _ _).alloc _)
theorem Stand.post {w wr w' : World} {T T' : Nat → Nat} {b : Nat} {s s' : BaySt} {M C S : Nat} (h : Stand w wr T b s M C S) (hB : BayAt w' T' b s') (hT : ∀ q, q < wr.heap.size → T' q = T q) (hc : Chg (fun q => T q ≠ 0) wr w') : Stand w w' T' b s' M C S :=
  ⟨hB, h.box.post hT hc, fun q hq => Nat.le_of_not_lt fun hlt => hq ((hT q (Nat.lt_of_lt_of_le hlt h.bel.size)).trans (Classical.byContradiction fun e => absurd (h.low q e) (by omega))), Chg.own h.bel hc h.low⟩
theorem Stand.cells {w wr : World} {T : Nat → Nat} {b : Nat} {s : BaySt} {M C S : Nat} (h : Stand w wr T b s M C S) : wr.cell? ⟨w.heap.size, 0, none⟩ = some (.int .i64 M) ∧ wr.cell? ⟨w.heap.size, 1, none⟩ = some (.int .i64 C) ∧ wr.cell? ⟨w.heap.size, 2, none⟩ = some (.int .i64 S) :=
  ⟨h.box.at'.cell 0, h.box.at'.cell 1, h.box.at'.cell 2⟩

theorem Held.below {w w' : World} {T : Nat → Nat} {v : Value} {e : TypeId} {n : Nat} {xs : List Value} (h : Held w T v e n xs) (hb : Below w.heap.size w w') : Held w' T v e n xs := h.chg (Chg.ofBelow hb _)

/-- What is neither the bay's nor the box is changed. -/
theorem Stand.other {S' : Nat → Prop} {w wr w' : World} {T : Nat → Nat} {b : Nat} {s : BaySt} {M C S : Nat} (h : Stand w wr T b s M C S) (hc : Chg S' wr w') (h1 : ∀ q, S' q → T q = 0) (h2 : ¬ S' w.heap.size) (h3 : ∀ q, S' q → w.heap.size ≤ q) : Stand w w' T b s M C S :=
  ⟨h.bay.keep hc (fun q hq e => hq (h1 q e)), ⟨h.box.at'.mod hc h2, h.box.tag⟩, h.low, Chg.own h.bel hc h3⟩
theorem Held.other {S' : Nat → Prop} {w w' : World} {T : Nat → Nat} {v : Value} {e : TypeId} {n : Nat} {xs : List Value} (h : Held w T v e n xs) (hc : Chg S' w w') (hS : ∀ g, v.ownBlock = some g → ¬ S' g) : Held w' T v e n xs := by
  obtain ⟨⟨B, h1⟩, h2⟩ := h
  exact ⟨⟨B, ownsRow_mod h1 hc hS⟩, h2⟩

/-- The rows that were read: us; each is what f says. -/
structure Olds (w : World) (T : Nat → Nat) (v : Value) (us : List Value) (n : Nat) (f : Nat → Sec) : Prop where
  len : us.length = n
  row : Held w T v 34 n us
  each : ∀ j (h : j < us.length), Held w T us[j] 5 128 (ucells (f j))
theorem Olds.chg {w w' : World} {T : Nat → Nat} {v : Value} {us : List Value} {n : Nat} {f : Nat → Sec} (h : Olds w T v us n f) (hc : Chg (fun q => T q ≠ 0) w w') : Olds w' T v us n f := ⟨h.len, h.row.chg hc, fun j hj => (h.each j hj).chg hc⟩
theorem Olds.post {w w' : World} {T T' : Nat → Nat} {v : Value} {us : List Value} {n : Nat} {f : Nat → Sec} (h : Olds w T v us n f) (hT : ∀ q, q < w.heap.size → T' q = T q) (hc : Chg (fun q => T q ≠ 0) w w') : Olds w' T' v us n f := ⟨h.len, h.row.post hT hc, fun j hj => (h.each j hj).post hT hc⟩
theorem Olds.below {w w' : World} {T : Nat → Nat} {v : Value} {us : List Value} {n : Nat} {f : Nat → Sec} (h : Olds w T v us n f) (hb : Below w.heap.size w w') : Olds w' T v us n f := h.chg (Chg.ofBelow hb _)

theorem slice_rows : SliceOf Try.prog 51 34 1 24 := SliceOf.mk' (z := .slice none 0 0) Try.underlying51 (by decide) (by kernel_rfl) rfl

theorem ownsRow_noCell {w : World} {B : Nat} {e e' : TypeId} {v : Value} {n g : Nat} {xs : List Value} {cs : Array Value} (h : w.ownsRow B e 1 v n xs) (ha : At w g cs e') (he : e ≠ e') : v.ownBlock ≠ some g := fun hg => by
  rcases h.2 with ⟨rfl, -⟩ | ⟨g1, c1, cur1, rfl, -, hb1, -⟩
  · simp [Value.ownBlock] at hg
  · have e1 : g1 = g := by simpa [Value.ownBlock] using hg
    subst e1
    unfold At at ha
    rw [hb1] at ha
    simp only [Option.some.injEq, Obj.cells.injEq] at ha
    exact he ha.2.1

/-- One row more. -/
theorem Olds.more {w w1 w5 : World} {T : Nat → Nat} {v v' u : Value} {us : List Value} {n : Nat} {f : Nat → Sec} (h : Olds w T v us n f) (hc : Chg (fun q => T q ≠ 0) w w1) (hu : w1.ownsRow w.heap.size 5 1 u 128 (ucells (f n)))
    (hv : ∀ q, w.heap.size ≤ q → T q = 0) (hrow : w5.ownsRow 0 34 1 v' (n + 1) (us ++ [u])) (hloc : v'.ownBlock = v.ownBlock ∨ v'.ownBlock = some (w1.alloc (.cells #[u] 34)).heap.size)
    (h5 : Chg (fun q => v.ownBlock = some q) (w1.alloc (.cells #[u] 34)) w5) : Olds w5 T v' (us ++ [u]) (n + 1) f := by
  have h1 := h.chg hc
  have hal : Chg (fun _ => False) w1 (w1.alloc (.cells #[u] 34)) := (Chg.refl _ _).alloc _
  obtain ⟨⟨B, hb⟩, ht⟩ := h1.row
  have keep : ∀ (x : Value) (B' : Nat) (xs : List Value), w1.ownsRow B' 5 1 x 128 xs → w5.ownsRow B' 5 1 x 128 xs := fun x B' xs hx =>
    ownsRow_mod (ownsRow_mod hx hal (fun _ _ e => e)) h5 (fun g hg e => ownsRow_apart hb hx (by decide) e hg)
  refine ⟨by rw [List.length_append, h.len]; rfl, ⟨⟨0, hrow⟩, fun g hg => ?_⟩, fun j hj => ?_⟩
  · rcases hloc with e | e
    · exact ht g (e ▸ hg)
    · rw [e] at hg
      simp only [Option.some.injEq] at hg
      subst hg
      refine hv _ ?_
      rw [size_alloc]
      have := hc.size
      omega
  · rw [List.getElem_append]
    by_cases hjn : j < us.length
    · rw [dif_pos hjn]
      obtain ⟨⟨B', hx⟩, hxt⟩ := h1.each j hjn
      exact ⟨⟨B', keep _ _ _ hx⟩, hxt⟩
    · rw [dif_neg hjn]
      have hjn' : j = n := by
        rw [List.length_append, List.length_singleton, h.len] at hj
        rw [h.len] at hjn
        omega
      subst hjn'
      simp only [h.len, Nat.sub_self, List.getElem_cons_zero]
      exact ⟨⟨_, keep _ _ _ hu⟩, fun g hg => hv g (hu.lt g hg).1⟩

end Go.Proofs.Ytkcfmkhakghniaa
