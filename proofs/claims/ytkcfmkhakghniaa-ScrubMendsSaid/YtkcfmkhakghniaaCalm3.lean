/- Sums of rows, plain: what one sector that turned, and a parity written anew, come to. -/
import Derived.Test.YtkcfmkhakghniaaCalm2
set_option linter.unusedVariables false
namespace Go.Proofs.Ytkcfmkhakghniaa
open Go.RowKit

theorem xorTo_congr {f g : Nat → Sec} {but : Int} : ∀ k : Nat, (∀ j : Nat, j < k → (j : Int) ≠ but → f j = g j) → xorTo f but k = xorTo g but k
  | 0, _ => rfl
  | k + 1, h => by
    have ih := xorTo_congr (f := f) (g := g) (but := but) k (fun j hj => h j (by omega))
    unfold xorTo
    by_cases hb : (k : Int) = but
    · rw [if_pos hb, if_pos hb, ih]
    · rw [if_neg hb, if_neg hb, ih, h k (by omega) hb]

theorem xorTo_far (f : Nat → Sec) (but : Int) : ∀ k : Nat, (but < 0 ∨ (k : Int) ≤ but) → xorTo f but k = xorTo f (-1) k
  | 0, _ => rfl
  | k + 1, h => by
    have ih := xorTo_far f but k (by omega)
    unfold xorTo
    rw [if_neg (by omega), if_neg (by omega), ih]

/-- One member more. -/
theorem xorTo_out (f : Nat → Sec) (p : Nat) (i : Nat) : ∀ k : Nat, p < k → xorTo f (-1) k i = xorTo f p k i ^^^ (f p).getD i 0
  | 0, h => by omega
  | k + 1, h => by
    show (if (k : Int) = -1 then _ else fun i => xorTo f (-1) k i ^^^ (f k).getD i 0) i = (if (k : Int) = p then xorTo f p k else fun i => xorTo f p k i ^^^ (f k).getD i 0) i ^^^ _
    rw [if_neg (by omega)]
    by_cases hp : k = p
    · subst hp
      rw [if_pos rfl, xorTo_far f k k (.inr (by omega))]
    · have ih := xorTo_out f p i k (by omega)
      rw [if_neg (by omega)]
      show xorTo f (-1) k i ^^^ _ = (xorTo f p k i ^^^ _) ^^^ _
      rw [ih, UInt8.xor_assoc, UInt8.xor_assoc, UInt8.xor_comm ((f p).getD i 0)]

theorem zsec_at (i : Nat) : zsec.getD i 0 = 0 := by
  unfold zsec
  rw [List.getD_eq_getElem?_getD, List.getElem?_replicate]
  split <;> rfl

theorem xorTo_zero (f : Nat → Sec) (but : Int) (i : Nat) : ∀ k : Nat, (∀ j : Nat, j < k → (j : Int) ≠ but → f j = zsec) → xorTo f but k i = 0
  | 0, _ => rfl
  | k + 1, h => by
    have ih := xorTo_zero f but i k (fun j hj => h j (by omega))
    unfold xorTo
    by_cases hb : (k : Int) = but
    · rw [if_pos hb, ih]
    · rw [if_neg hb]
      show xorTo f but k i ^^^ (f k).getD i 0 = 0
      rw [ih, h k (by omega) hb, zsec_at]
      rfl

theorem uneven_congr {s s' : BaySt} {M : Nat} : ∀ R, (∀ j r, j < M → r < R → s.sec j (1 + r) = s'.sec j (1 + r)) → uneven s M R = uneven s' M R
  | 0, _ => rfl
  | r + 1, h => by
    have ih := uneven_congr (s := s) (s' := s') (M := M) r (fun j q hj hq => h j q hj (by omega))
    unfold uneven
    rw [ih, xorTo_congr (f := fun m => s.sec m (1 + r)) (g := fun m => s'.sec m (1 + r)) M (fun j hj _ => h j r hj (by omega))]

theorem uneven_lt (s : BaySt) (M : Nat) : ∀ R, ∀ x ∈ uneven s M R, x < R
  | 0, x, h => by cases h
  | r + 1, x, h => by
    unfold uneven at h
    split at h
    · have := uneven_lt s M r x h; omega
    · rcases List.mem_append.1 h with h | h
      · have := uneven_lt s M r x h; omega
      · simp at h; omega

theorem uneven_length (s : BaySt) (M : Nat) : ∀ R, (uneven s M R).length ≤ R
  | 0 => by show 0 ≤ 0; omega
  | r + 1 => by
    have ih := uneven_length s M r
    unfold uneven
    split
    · omega
    · simp; omega

/-- A row that is even behind, all others as ahead. -/
theorem uneven_mend {s s' : BaySt} {M k : Nat} (h : allZero (xorTo (fun m => s'.sec m (1 + k)) (-1) M) 128) : ∀ R, (∀ j r, j < M → r < R → r ≠ k → s'.sec j (1 + r) = s.sec j (1 + r)) → uneven s' M R = (uneven s M R).filter (fun x => decide (x ≠ k))
  | 0, _ => rfl
  | r + 1, hr => by
    have ih := uneven_mend (s := s) h r (fun j q hj hq => hr j q hj (by omega))
    unfold uneven
    by_cases hk : r = k
    · subst hk
      rw [if_pos h, ih]
      split
      · rfl
      · rw [List.filter_append]
        simp
    · rw [xorTo_congr (f := fun m => s'.sec m (1 + r)) (g := fun m => s.sec m (1 + r)) M (fun j hj _ => hr j r hj (by omega) hk), ih]
      split
      · rfl
      · rw [List.filter_append]
        simp [hk]

theorem allZero_nil (s : BaySt) (M : Nat) : ∀ R, (∀ r, r < R → allZero (xorTo (fun m => s.sec m (1 + r)) (-1) M) 128) → uneven s M R = []
  | 0, _ => rfl
  | r + 1, h => by
    unfold uneven
    rw [if_pos (h r (by omega)), allZero_nil s M r (fun q hq => h q (by omega))]

/-- One row alone is uneven. -/
theorem uneven_one (s : BaySt) (M k : Nat) : ∀ R, k < R → (∀ r, r < R → r ≠ k → allZero (xorTo (fun m => s.sec m (1 + r)) (-1) M) 128) → ¬ allZero (xorTo (fun m => s.sec m (1 + k)) (-1) M) 128 → uneven s M R = [k]
  | 0, h, _, _ => by omega
  | r + 1, h, h1, h2 => by
    unfold uneven
    by_cases hk : r = k
    · subst hk
      rw [if_neg h2, allZero_nil s M r (fun q hq => h1 q (by omega) (by omega))]
      rfl
    · rw [if_pos (h1 r (by omega) hk), uneven_one s M k r (by omega) (fun q hq => h1 q (by omega)) h2]

theorem sumL_zero {f : Nat → UInt8} {n : Nat} (h : ∀ i, i < n → f i = 0) : sumL f n = List.replicate n 0 := by
  apply List.ext_getElem?
  intro i
  simp only [sumL, List.getElem?_map, List.getElem?_range, List.getElem?_replicate]
  by_cases hi : i < n
  · simp [hi, h i hi]
  · simp [hi]
theorem sumL_at (f : Nat → UInt8) (n i : Nat) (h : i < n) : (sumL f n).getD i 0 = f i := by
  rw [List.getD_eq_getElem?_getD]
  simp [sumL, h]
theorem sumL_eq {f : Nat → UInt8} {l : List UInt8} {n : Nat} (hl : l.length = n) (h : ∀ i, i < n → f i = l.getD i 0) : sumL f n = l := by
  apply List.ext_getElem?
  intro i
  simp only [sumL, List.getElem?_map, List.getElem?_range]
  by_cases hi : i < n
  · rw [show (List.range n)[i]? = some i by simp [hi]]
    have := h i hi
    rw [List.getD_eq_getElem?_getD, List.getElem?_eq_getElem (by omega)] at this
    rw [List.getElem?_eq_getElem (by omega)]
    simpa using this
  · have e : l[i]? = none := List.getElem?_eq_none (by omega)
    rw [e]
    simp
    omega

theorem xor_zero_eq {a b : UInt8} (h : a ^^^ b = 0) : a = b := by
  have h2 : (a ^^^ b) ^^^ b = 0 ^^^ b := by rw [h]
  rw [UInt8.xor_assoc, UInt8.xor_self, UInt8.xor_zero, UInt8.zero_xor] at h2
  exact h2

/-- All members of an even row: each is the sum of the others. -/
theorem lost_even {f : Nat → Sec} {M m : Nat} (hm : m < M) (hl : (f m).length = 128) (h : allZero (xorTo f (-1) M) 128) : sumL (xorTo f m M) 128 = f m := by
  refine sumL_eq hl fun i hi => xor_zero_eq ?_
  rw [← xorTo_out f m i M hm]
  exact h i hi

/-- One sector alone is not noughts. -/
theorem xorTo_one {f : Nat → Sec} {m : Nat} {x : Sec} (hm : f m = x) (but : Int) (i : Nat) : ∀ k : Nat, (∀ j : Nat, j < k → j ≠ m → f j = zsec) → xorTo f but k i = if m < k ∧ (m : Int) ≠ but then x.getD i 0 else 0
  | 0, _ => by rw [if_neg (by omega)]; rfl
  | k + 1, h => by
    have ih := xorTo_one hm but i k (fun j hj => h j (by omega))
    unfold xorTo
    by_cases hb : (k : Int) = but
    · rw [if_pos hb, ih]
      by_cases h1 : m < k ∧ (m : Int) ≠ but
      · rw [if_pos h1, if_pos ⟨by omega, h1.2⟩]
      · rw [if_neg h1, if_neg (by omega)]
    · rw [if_neg hb]
      show xorTo f but k i ^^^ (f k).getD i 0 = _
      rw [ih]
      by_cases hk : k = m
      · subst hk
        rw [if_neg (by omega), if_pos ⟨by omega, hb⟩, hm, UInt8.zero_xor]
      · rw [h k (by omega) hk, zsec_at, UInt8.xor_zero]
        by_cases h1 : m < k ∧ (m : Int) ≠ but
        · rw [if_pos h1, if_pos ⟨by omega, h1.2⟩]
        · rw [if_neg h1, if_neg (by omega)]

/-- A row whose parity is the sum of the others is even. -/
theorem mended_even {f g : Nat → Sec} {M p : Nat} (hp : p < M) (hg : g p = sumL (xorTo f p M) 128) (h : ∀ j, j < M → j ≠ p → g j = f j) : allZero (xorTo g (-1) M) 128 := by
  intro i hi
  rw [xorTo_out g p i M hp, hg, sumL_at _ _ _ hi, xorTo_congr (f := g) (g := f) (but := (p : Int)) M (fun j hj hne => h j hj (by omega)), UInt8.xor_self]

end Go.Proofs.Ytkcfmkhakghniaa
