/- What is known of rows that are there: the scrub laws' 'known' tells true. -/
import Derived.Test.YtkcfmkhakghniaaLawB
import Derived.Test.YtkcfmkhakghniaaSame
set_option linter.unusedVariables false
namespace Go.Proofs.Ytkcfmkhakghniaa
open Go.RowKit

theorem iseg_of_owns {w : World} {B : Nat} {v : Value} {l : List Nat} (h : w.ownsRow B 3 1 v l.length (kcells l)) : ISeg w v l := by
  obtain ⟨a, c, rfl⟩ := ownsRow_shape h
  refine ⟨a, c, rfl, ?_⟩
  by_cases hl : l.length = 0
  · exact .inl (List.eq_nil_of_length_eq_zero hl)
  · obtain ⟨g, cap, hv, hB, hg, hc, -⟩ := ownsRow_cell h (by omega)
    simp only [Value.slice.injEq] at hv
    obtain ⟨rfl, -, rfl⟩ := hv
    exact .inr ⟨g, 0, rfl, hg, fun j hj => by rw [Nat.zero_add, hc j hj, kcells_at l j hj]⟩

theorem seg_of_sec {w : World} {B : Nat} {v : Value} {l : List UInt8} (h : w.ownsRow B 5 1 v 128 (ucells l)) : Seg w v l := by
  have hl : l.length = 128 := by have := h.1; rw [ucells_length] at this; omega
  exact seg_of_owns (by rw [hl]; exact h)

/-- Sizes that serve. -/
theorem sizeL_ok {M R : Nat} (hR : R ≤ 4096) : ∀ x ∈ sizeL M R, 0 < x ∧ x ≤ 8192 := fun x hx => by
  unfold sizeL at hx
  rcases List.mem_append.1 hx with hx | hx
  · obtain rfl := List.eq_of_mem_replicate hx; omega
  · simp at hx; omega

/-- A new bay of a geometry. -/
def newBay (M R : Nat) : BaySt := freshBay (sizeL M R) (sizeL M R).length
def newSz (M R : Nat) : Nat → Nat := fun k => (sizeL M R).getD k 0
theorem newBay_calm {M R : Nat} (hR : R ≤ 4096) : CalmBay (newBay M R) (newSz M R) := fresh_calm _ fun x hx => (sizeL_ok hR x hx).1
theorem newBay_n (M R : Nat) : (newBay M R).n = M + 1 := sizeL_length M R
theorem newSz_at {M R : Nat} (m : Nat) (h : m < M) : newSz M R m = 1 + R := sizeL_at M R m h
theorem newBay_small (M R m : Nat) : (newBay M R).small m := fresh_small _ m
theorem newBay_cnt (M R q : Nat) : (newBay M R).cnt q = 0 := rfl
theorem newBay_sec {M R : Nat} (k z : Nat) (hk : k < M + 1) (hR : R ≤ 4096) : (newBay M R).sec k z = zsec := by
  refine fresh_sec _ k z (by rw [sizeL_length]; exact hk) ?_
  have : (sizeL M R).getD k 0 ∈ sizeL M R := by
    rw [List.getD_eq_getElem?_getD, List.getElem?_eq_getElem (by rw [sizeL_length]; exact hk)]
    exact List.getElem_mem _
  exact (sizeL_ok hR _ this).1

theorem law_newBay (M R : Nat) (v : Value) (B : Nat) (w : World) (hM : M ≤ 16) (hR : R ≤ 4096) (hv : w.ownsRow B 3 1 v (sizeL M R).length (kcells (sizeL M R))) :
    Calls Try.prog 11 #[v] w fun e w' => ∃ b T, e = .returned (.tuple #[.pointer (some ⟨b, 0, none⟩), .int .u16 0]) ∧ BayAt w' T b (newBay M R) ∧ (∀ q, q < w.heap.size → T q = 0) ∧ Below w.heap.size w w' := by
  refine (bay_new (sizeL M R) v B w hv (by rw [sizeL_length]; omega) (by rw [sizeL_length]; omega) (fun x hx => (sizeL_ok hR x hx).2)).mono fun e w' ⟨b, h1, T, h2, h3, h4, h5⟩ => ⟨b, T, h1, h2, h3, h5⟩

/-- One sector of a new bay has been written. -/
theorem one_written {M R m k : Nat} {x : Sec} (hR : R ≤ 4096) (hm : m < M) (hk : k < R) (hx : x.length = 128) :
    ∃ s', (newBay M R).write m (1 + (k : Int)) x = (0, s') ∧ CalmBay s' (newSz M R) ∧ s'.n = M + 1 ∧ s'.small 1 ∧ s'.cnt 0 = 0 ∧ s'.cnt 1 = 1 ∧ s'.cnt 2 = 0 ∧ (∀ j q, j < M + 1 → s'.sec j q = if j = m ∧ q = 1 + k then x else zsec) := by
  obtain ⟨s', e, hw, hsec, -, hc⟩ := write_calm (newBay_calm (M := M) hR) m (1 + k) x (by rw [newBay_n]; omega) (by rw [newSz_at m hm]; omega) hx
  rw [show ((1 + k : Nat) : Int) = 1 + (k : Int) by omega] at e
  exact ⟨s', e, hw.calm, hw.n.trans (newBay_n M R), hw.small 0 (newBay_small M R 0), hw.c0, hc, hw.c2, fun j q hj => by rw [hsec, newBay_sec j q hj hR]⟩

/-- Which rows are told, and what is lost, if but one sector is not noughts. -/
theorem one_uneven {s : BaySt} {M R m k i : Nat} {x : Sec} (hs : ∀ j q, j < M + 1 → s.sec j q = if j = m ∧ q = 1 + k then x else zsec) (hm : m < M) (hk : k < R) (hi : i < 128) (hx : x.getD i 0 ≠ 0) : uneven s M R = [k] := by
  refine uneven_one s M k R hk (fun r hr hrk i hi => ?_) fun hz => hx ?_
  · exact xorTo_zero _ _ i M (fun j hj _ => by rw [hs j _ (by omega), if_neg (by omega)])
  · have := hz i hi
    rw [xorTo_one (f := fun m => s.sec m (1 + k)) (m := m) (x := x) (by show s.sec m (1 + k) = x; rw [hs m _ (by omega), if_pos ⟨rfl, rfl⟩]) (-1) i M (fun j hj hjm => by show s.sec j (1 + k) = zsec; rw [hs j _ (by omega), if_neg (by omega)]), if_pos ⟨hm, by omega⟩] at this
    exact this
theorem none_uneven {s : BaySt} {M R : Nat} (hs : ∀ j q, j < M → s.sec j q = zsec) : uneven s M R = [] :=
  allZero_nil s M R (fun r hr i hi => xorTo_zero _ _ i M (fun j hj _ => hs j _ hj))

/-- A row that a walk keeps while a bay is at work. -/
structure Held (w : World) (T : Nat → Nat) (v : Value) (e : TypeId) (n : Nat) (xs : List Value) : Prop where
  own : ∃ B, w.ownsRow B e 1 v n xs
  tag : ∀ g, v.ownBlock = some g → T g = 0

theorem Held.chg {w w' : World} {T : Nat → Nat} {v : Value} {e : TypeId} {n : Nat} {xs : List Value} (h : Held w T v e n xs) (hc : Chg (fun q => T q ≠ 0) w w') : Held w' T v e n xs := by
  obtain ⟨⟨B, h1⟩, h2⟩ := h
  exact ⟨⟨B, ownsRow_mod h1 hc (fun g hg e => e (h2 g hg))⟩, h2⟩
theorem Held.alloc {w : World} {T : Nat → Nat} {v : Value} {e : TypeId} {n : Nat} {xs : List Value} (h : Held w T v e n xs) (o : Obj) : Held (w.alloc o) T v e n xs := h.chg ((Chg.refl _ _).alloc _)
theorem Held.retag {w : World} {T T' : Nat → Nat} {v : Value} {e : TypeId} {n : Nat} {xs : List Value} (h : Held w T v e n xs) (hT : ∀ q, q < w.heap.size → T' q = T q) : Held w T' v e n xs := by
  obtain ⟨⟨B, h1⟩, h2⟩ := h
  exact ⟨⟨B, h1⟩, fun g hg => by rw [hT g (h1.lt g hg).2]; exact h2 g hg⟩
theorem Held.new {w : World} {T : Nat → Nat} {v : Value} {e : TypeId} {n B : Nat} {xs : List Value} (h : w.ownsRow B e 1 v n xs) (hT : ∀ q, B ≤ q → T q = 0) : Held w T v e n xs := ⟨⟨B, h⟩, fun g hg => hT g (h.lt g hg).1⟩
/-- A block that a walk keeps. -/
structure Kept (w : World) (T : Nat → Nat) (g : Nat) (cs : Array Value) (t : TypeId) : Prop where
  at' : At w g cs t
  tag : T g = 0
theorem Kept.chg {w w' : World} {T : Nat → Nat} {g : Nat} {cs : Array Value} {t : TypeId} (h : Kept w T g cs t) (hc : Chg (fun q => T q ≠ 0) w w') : Kept w' T g cs t := ⟨h.at'.mod hc (fun e => e h.tag), h.tag⟩
theorem Kept.alloc {w : World} {T : Nat → Nat} {g : Nat} {cs : Array Value} {t : TypeId} (h : Kept w T g cs t) (o : Obj) : Kept (w.alloc o) T g cs t := h.chg ((Chg.refl _ _).alloc _)
theorem Kept.retag {w : World} {T T' : Nat → Nat} {g : Nat} {cs : Array Value} {t : TypeId} (h : Kept w T g cs t) (hT : ∀ q, q < w.heap.size → T' q = T q) : Kept w T' g cs t := ⟨h.at', by rw [hT g h.at'.lt]; exact h.tag⟩

theorem Kept.post {w w' : World} {T T' : Nat → Nat} {g : Nat} {cs : Array Value} {t : TypeId} (h : Kept w T g cs t) (hT : ∀ q, q < w.heap.size → T' q = T q) (hc : Chg (fun q => T q ≠ 0) w w') : Kept w' T' g cs t := ⟨h.at'.mod hc (fun e => e h.tag), by rw [hT g h.at'.lt]; exact h.tag⟩
theorem Held.post {w w' : World} {T T' : Nat → Nat} {v : Value} {e : TypeId} {n : Nat} {xs : List Value} (h : Held w T v e n xs) (hT : ∀ q, q < w.heap.size → T' q = T q) (hc : Chg (fun q => T q ≠ 0) w w') : Held w' T' v e n xs := by
  obtain ⟨⟨B, h1⟩, h2⟩ := h
  exact ⟨⟨B, ownsRow_mod h1 hc (fun g hg e => e (h2 g hg))⟩, fun g hg => by rw [hT g (h1.lt g hg).2]; exact h2 g hg⟩
theorem Held.cell {w : World} {T : Nat → Nat} {g c n : Nat} {e : TypeId} {xs : List Value} (h : Held w T (.slice (some ⟨g, 0, none⟩) n c) e n xs) (hn : 0 < n) (i : Nat) (hi : i < n) : w.cell? ⟨g, i, none⟩ = xs[i]? := by
  obtain ⟨⟨B, h1⟩, -⟩ := h
  obtain ⟨g', cap, hv, -, -, hc, -⟩ := ownsRow_cell h1 hn
  simp only [Value.slice.injEq, Option.some.injEq, Addr.mk.injEq] at hv
  obtain ⟨⟨rfl, -, -⟩, -, -⟩ := hv
  exact hc i hi

theorem BayAt.more {w : World} {T : Nat → Nat} {b : Nat} {s : BaySt} (h : BayAt w T b s) (o : Obj) : BayAt (w.alloc o) T b s := h.keep (S := fun _ => False) ((Chg.refl _ _).alloc _) (fun _ _ h => h)

end Go.Proofs.Ytkcfmkhakghniaa
