/- A row is mended, and the power goes: plain. -/
import Derived.Test.YtkcfmkhakghniaaLawC
set_option linter.unusedVariables false
namespace Go.Proofs.Ytkcfmkhakghniaa
open Go.RowKit

/-- A bay at work, told of its geometry. -/
structure Work (s : BaySt) (M R k1 : Nat) : Prop where
  calm : CalmBay s (newSz M R)
  n : s.n = M + 1
  small : s.small k1
  c1 : s.cnt 1 ≤ k1

theorem Work.ticks {s : BaySt} {M R k1 : Nat} (h : Work s M R k1) (c : Nat) : Work (s.ticks 0 c) M R k1 := ⟨h.calm.ticks 0 c, h.n, h.small, by rw [cnt_ticks_ne _ _ _ _ (by omega)]; exact h.c1⟩

/-- What stands behind the mending of a row and a cut. -/
structure Cutted (sA sE : BaySt) (M R p k k1 : Nat) : Prop where
  work : Work sE M R (k1 + 1)
  c0 : sE.cnt 0 = sA.cnt 0 + ((R * M + M + (M - 1) : Nat) : Int)
  sec : ∀ j q, j < M → q < 1 + R → sE.sec j q = if j = p ∧ q = 1 + k then sumL (xorTo (fun j => sA.sec j (1 + k)) p M) 128 else sA.sec j q
  un : uneven sE M R = (uneven sA M R).filter (fun x => decide (x ≠ k))
  lost : ∀ m, m < M → sumL (xorTo (fun j => sE.sec j (1 + k)) m M) 128 = sE.sec m (1 + k)
  keep : ∀ m, m < M → m ≠ p → sE.sec m (1 + k) = sA.sec m (1 + k)

theorem mends_plain {sA : BaySt} {M R p k k1 : Nat} (h : Work sA M R k1) (hd : ∀ j, j < M → sA.dry j) (hp : p < M) (hk : k < R) :
    ∃ sD, ((sA.ticks 0 (R * M)).ticks 0 M).mend M p k = (none, sD) ∧ sD.small (k1 + 1) ∧ Cutted sA (sD.cut []) M R p k k1 := by
  have hC : Work ((sA.ticks 0 (R * M)).ticks 0 M) M R k1 := (h.ticks _).ticks _
  obtain ⟨sD, e, hm⟩ := calm_mend_plain hC.calm M R p k hC.n (fun m hm => newSz_at m hm) hp hk
  have hcut := cut_calm hm.calm
  have hnD : sD.n = M + 1 := hm.n.trans hC.n
  have hsec : ∀ j q, j < M → q < 1 + R → (sD.cut []).sec j q = if j = p ∧ q = 1 + k then sumL (xorTo (fun j => sA.sec j (1 + k)) p M) 128 else sA.sec j q := fun j q hj hq => by
    have hdj : sD.dry j := hm.dry j (hd j hj)
    rw [hcut.sec j q (by omega) hdj, hm.sec j q (by show j < sA.n; rw [h.n]; omega) (by rw [newSz_at j hj]; exact hq)]
    rfl
  have heven : allZero (xorTo (fun j => (sD.cut []).sec j (1 + k)) (-1) M) 128 := by
    refine mended_even (f := fun j => sA.sec j (1 + k)) (p := p) hp ?_ (fun j hj hjp => ?_)
    · show (sD.cut []).sec p (1 + k) = _
      rw [hsec p _ hp (by omega), if_pos ⟨rfl, rfl⟩]
    · show (sD.cut []).sec j (1 + k) = sA.sec j (1 + k)
      rw [hsec j _ hj (by omega), if_neg (fun e => hjp e.1)]
  have hnE : (sD.cut []).n = M + 1 := hcut.n.trans hnD
  refine ⟨sD, e, hm.small _ hC.small, ⟨⟨hcut.calm, hnE, hcut.small _, ?_⟩, ?_, hsec, ?_, fun m hmM => ?_, fun m hmM hmp => ?_⟩⟩
  · rw [hcut.cnt, hm.c1]
    have : ((sA.ticks 0 (R * M)).ticks 0 M).cnt 1 = sA.cnt 1 := rfl
    have := h.c1
    omega
  · rw [hcut.cnt, hm.c0, cnt_ticks, cnt_ticks]
    omega
  · exact uneven_mend (s := sA) heven R (fun j r hj hr hrk => by rw [hsec j _ hj (by omega), if_neg (by omega)])
  · exact lost_even (f := fun j => (sD.cut []).sec j (1 + k)) hmM (hcut.calm.sec_length m _ (by omega)) heven
  · rw [hsec m _ hmM (by omega), if_neg (fun e => hmp e.1)]

theorem newBay_work {M R : Nat} (hR : R ≤ 4096) : Work (newBay M R) M R 0 := ⟨newBay_calm hR, newBay_n M R, newBay_small M R 0, by rw [newBay_cnt]; omega⟩
theorem Work.write {s : BaySt} {M R k1 : Nat} (h : Work s M R k1) (k z : Int) (l : List UInt8) : Work (s.write k z l).2 M R (k1 + 1) ∧ (s.write k z l).2.cnt 0 = s.cnt 0 ∧ (s.write k z l).2.cnt 2 = s.cnt 2 := by
  have hw := write_any h.calm k z l
  exact ⟨⟨hw.calm, hw.n.trans h.n, hw.small _ h.small, by have := hw.hi; have := h.c1; omega⟩, hw.c0, hw.c2⟩
theorem Work.flush {s : BaySt} {M R k1 : Nat} (h : Work s M R k1) (k : Nat) (hk : k < M) (hd : ∀ j, j < k → s.dry j) : (s.flush k).1 = 0 ∧ Work (s.flush k).2 M R k1 ∧ (s.flush k).2.cnt 0 = s.cnt 0 ∧ (s.flush k).2.cnt 2 = s.cnt 2 + 1 ∧ (∀ j, j < k + 1 → (s.flush k).2.dry j) := by
  obtain ⟨s', e, hf⟩ := flush_calm h.calm k (by rw [h.n]; omega)
  rw [e]
  refine ⟨rfl, ⟨hf.calm, hf.n.trans h.n, hf.small _ h.small, by rw [hf.c1]; exact h.c1⟩, hf.c0, hf.hi, fun j hj => ?_⟩
  by_cases hjk : j = k
  · subst hjk; exact hf.dry
  · exact hf.rest j hjk (hd j (by omega))

theorem ownsRow_apart {w : World} {B B' : Nat} {e e' : TypeId} {v u : Value} {n m : Nat} {xs ys : List Value} (h1 : w.ownsRow B e 1 v n xs) (h2 : w.ownsRow B' e' 1 u m ys) (he : e ≠ e') {g : Nat} (hg : v.ownBlock = some g) : u.ownBlock ≠ some g := fun hg2 => by
  rcases h1.2 with ⟨rfl, -⟩ | ⟨g1, c1, cur1, rfl, -, hb1, -⟩
  · simp [Value.ownBlock] at hg
  · rcases h2.2 with ⟨rfl, -⟩ | ⟨g2, c2, cur2, rfl, -, hb2, -⟩
    · simp [Value.ownBlock] at hg2
    · have e1 : g1 = g := by simpa [Value.ownBlock] using hg
      have e2 : g2 = g := by simpa [Value.ownBlock] using hg2
      subst e1
      subst e2
      rw [hb1] at hb2
      simp only [Option.some.injEq, Obj.cells.injEq] at hb2
      exact he hb2.2.1

end Go.Proofs.Ytkcfmkhakghniaa
