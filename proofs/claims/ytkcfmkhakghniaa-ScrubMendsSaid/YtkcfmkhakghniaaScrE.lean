/- Scrub: Mend, plain and its ways. -/
import Derived.Test.YtkcfmkhakghniaaScrD
import Derived.Test.YtkcfmkhakghniaaCalm2
set_option linter.unusedVariables false
namespace Go.Proofs.Ytkcfmkhakghniaa
open Go.RowKit

theorem parOf_lt {M C r : Nat} (h : 0 < M) : parOf M C r < M := by unfold parOf; omega

/-- What any operation leaves, of any bay. -/
structure Went (s s' : BaySt) (j : Nat) (up : Nat) : Prop where
  n : s'.n = s.n
  small : ∀ m, s.small m → s'.small (m + up)
  lo : s.cnt j ≤ s'.cnt j
  hi : s'.cnt j ≤ s.cnt j + 1
  rest : ∀ q, q ≠ j → s'.cnt q = s.cnt q

theorem start_went (s : BaySt) (j : Nat) (k : Int) : Went s (s.start j k).1 j 0 ∧ ∀ m, s.small m → ∀ x, (s.start j k).2 = .inr x → x.d.cache.length ≤ m := by
  unfold BaySt.start
  by_cases hk : 0 ≤ k ∧ k < (s.n : Int)
  · rw [if_neg (by simpa using hk)]
    by_cases ht : s.trip = 0
    · rw [if_pos ht]; exact ⟨⟨rfl, fun m h => h, by show s.cnt j ≤ s.cnt j; omega, by show s.cnt j ≤ _; omega, fun _ _ => rfl⟩, fun m _ x hx => (by cases hx)⟩
    · rw [if_neg ht]
      by_cases hd : s.dark = true
      · rw [if_pos hd]; exact ⟨⟨rfl, fun m h => h, by show s.cnt j ≤ s.cnt j; omega, by show s.cnt j ≤ _; omega, fun _ _ => rfl⟩, fun m _ x hx => (by cases hx)⟩
      · rw [if_neg hd]
        cases hx : s.pos (k.toNat * 3) with
        | none => exact ⟨⟨rfl, fun m h => h, by show s.cnt j ≤ (if j = j then s.cnt j + 1 else s.cnt j); rw [if_pos rfl]; omega, by show (if j = j then s.cnt j + 1 else s.cnt j) ≤ _; rw [if_pos rfl]; omega, fun q hq => if_neg hq⟩, fun m _ x hx => (by cases hx)⟩
        | some x =>
          refine ⟨⟨rfl, fun m h => small_pos h (use_small (h _ (by omega) x hx)) _ rfl rfl, by show s.cnt j ≤ (if j = j then s.cnt j + 1 else s.cnt j); rw [if_pos rfl]; omega, by show (if j = j then s.cnt j + 1 else s.cnt j) ≤ _; rw [if_pos rfl]; omega, fun q hq => if_neg hq⟩, fun m h y hy => ?_⟩
          simp only [Sum.inr.injEq] at hy
          subst hy
          exact use_small (h _ (by omega) x hx)
  · rw [if_pos (by simpa using hk)]; exact ⟨⟨rfl, fun m h => h, by show s.cnt j ≤ s.cnt j; omega, by show s.cnt j ≤ _; omega, fun _ _ => rfl⟩, fun m _ x hx => (by cases hx)⟩

theorem write_cache (d : Dsk) (z : Int) (l : List UInt8) : (d.write z l).2.cache.length ≤ d.cache.length + 1 := by
  unfold Dsk.write
  split
  · show d.cache.length ≤ _; omega
  · split
    · show d.cache.length ≤ _; omega
    · simp
theorem write_went (s : BaySt) (k z : Int) (l : List UInt8) : Went s (s.write k z l).2 1 1 := by
  obtain ⟨h1, h2⟩ := start_went s 1 k
  unfold BaySt.write
  cases h : s.start 1 k with
  | mk a b =>
    rw [h] at h1 h2
    cases b with
    | inl c => exact ⟨h1.n, fun m hm i hi x hx => Nat.le_succ_of_le (h1.small m hm i hi x hx), h1.lo, h1.hi, h1.rest⟩
    | inr x =>
      refine ⟨h1.n, fun m hm => small_pos (s := a) (i := k.toNat * 3) (fun i hi y hy => Nat.le_succ_of_le (h1.small m hm i hi y hy)) (Nat.le_trans (write_cache x.d z l) (Nat.succ_le_succ (h2 m hm x rfl))) _ rfl rfl, h1.lo, h1.hi, h1.rest⟩
theorem flush_went (s : BaySt) (k : Int) : Went s (s.flush k).2 2 0 := by
  obtain ⟨h1, h2⟩ := start_went s 2 k
  unfold BaySt.flush
  cases h : s.start 2 k with
  | mk a b =>
    rw [h] at h1 h2
    cases b with
    | inl c => exact h1
    | inr x =>
      refine ⟨h1.n, fun m hm => small_pos (s := a) (i := k.toNat * 3) (h1.small m hm) ?_ _ rfl rfl, h1.lo, h1.hi, h1.rest⟩
      show (x.d.flush).2.cache.length ≤ m
      unfold Dsk.flush
      split
      · exact h2 m hm x rfl
      · show 0 ≤ m; omega

theorem write_code_lt (s : BaySt) (k z : Int) (l : List UInt8) : (s.write k z l).1 < 65536 := by
  unfold BaySt.write
  cases h : s.start 1 k with
  | mk a b =>
    cases b with
    | inl c => exact (start_code h).2
    | inr x =>
      show (x.d.write z l).1 < 65536
      unfold Dsk.write
      split
      · exact may_lt _ _
      · split
        · show 4 < 65536; omega
        · show 0 < 65536; omega
theorem flush_code_lt (s : BaySt) (k : Int) : (s.flush k).1 < 65536 := by
  unfold BaySt.flush
  cases h : s.start 2 k with
  | mk a b =>
    cases b with
    | inl c => exact (start_code h).2
    | inr x =>
      show (x.d.flush).1 < 65536
      unfold Dsk.flush
      split
      · show 2 < 65536; omega
      · show 0 < 65536; omega

/-- What Mend answers, if there is such a row, and leaves. -/
def BaySt.mend (s : BaySt) (M p r : Nat) : Option (Nat × Nat) × BaySt :=
  if (s.hand (1 + r) p M).t ≠ none then ((s.hand (1 + r) p M).t, (s.hand (1 + r) p M).s)
  else if ((s.hand (1 + r) p M).s.write p (1 + r) (sumL (s.hand (1 + r) p M).f 128)).1 ≠ 0 then (some (p, ((s.hand (1 + r) p M).s.write p (1 + r) (sumL (s.hand (1 + r) p M).f 128)).1), ((s.hand (1 + r) p M).s.write p (1 + r) (sumL (s.hand (1 + r) p M).f 128)).2)
  else if (((s.hand (1 + r) p M).s.write p (1 + r) (sumL (s.hand (1 + r) p M).f 128)).2.flush p).1 ≠ 0 then (some (p, (((s.hand (1 + r) p M).s.write p (1 + r) (sumL (s.hand (1 + r) p M).f 128)).2.flush p).1), (((s.hand (1 + r) p M).s.write p (1 + r) (sumL (s.hand (1 + r) p M).f 128)).2.flush p).2)
  else (none, (((s.hand (1 + r) p M).s.write p (1 + r) (sumL (s.hand (1 + r) p M).f 128)).2.flush p).2)

end Go.Proofs.Ytkcfmkhakghniaa
