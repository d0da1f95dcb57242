/- A bay of disks, plain: what reads leave; a calm bay. No program in sight. -/
import Derived.Test.YtkcfmkhakghniaaBayK
import Derived.Test.YtkcfmkhakghniaaXorB
set_option linter.unusedVariables false
namespace Go.Proofs.Ytkcfmkhakghniaa
open Go.RowKit

/-- What k reads at most leave. -/
structure Reads (s s' : BaySt) (k : Nat) : Prop where
  n : s'.n = s.n
  small : ∀ m, s.small m → s'.small m
  lo : s.cnt 0 ≤ s'.cnt 0
  hi : s'.cnt 0 ≤ s.cnt 0 + k
  c1 : s'.cnt 1 = s.cnt 1
  c2 : s'.cnt 2 = s.cnt 2

theorem Reads.refl (s : BaySt) (k : Nat) : Reads s s k := ⟨rfl, fun m h => h, by omega, by omega, rfl, rfl⟩
theorem Reads.trans {s s1 s2 : BaySt} {k j : Nat} (h1 : Reads s s1 k) (h2 : Reads s1 s2 j) : Reads s s2 (k + j) := ⟨h2.n.trans h1.n, fun m h => h2.small m (h1.small m h), by have := h1.lo; have := h2.lo; omega, by have := h1.hi; have := h2.hi; omega, h2.c1.trans h1.c1, h2.c2.trans h1.c2⟩
theorem Reads.mono {s s' : BaySt} {k j : Nat} (h : Reads s s' k) (hk : k ≤ j) : Reads s s' j := ⟨h.n, h.small, h.lo, by have := h.hi; omega, h.c1, h.c2⟩

theorem small_pos {s : BaySt} {i : Nat} {y : Dev} {m : Nat} (h : s.small m) (hy : y.d.cache.length ≤ m) (s' : BaySt) (hn : s'.n = s.n) (hp : s'.pos = fun q => if q = i then some y else s.pos q) : s'.small m := fun q hq x hx => by
  rw [hp] at hx
  rw [hn] at hq
  by_cases hqi : q = i
  · have : some y = some x := by simpa [hqi] using hx
    simp only [Option.some.injEq] at this
    subst this
    exact hy
  · exact h q hq x (by simpa [hqi] using hx)

theorem start_reads (s : BaySt) (k : Int) : Reads s (s.start 0 k).1 1 := by
  unfold BaySt.start
  by_cases hk : 0 ≤ k ∧ k < (s.n : Int)
  · rw [if_neg (by simpa using hk)]
    by_cases ht : s.trip = 0
    · rw [if_pos ht]; exact ⟨rfl, fun m h => h, by show s.cnt 0 ≤ s.cnt 0; omega, by show s.cnt 0 ≤ _; omega, rfl, rfl⟩
    · rw [if_neg ht]
      by_cases hd : s.dark = true
      · rw [if_pos hd]; exact .refl _ _
      · rw [if_neg hd]
        cases hx : s.pos (k.toNat * 3) with
        | none => exact ⟨rfl, fun m h => h, by show s.cnt 0 ≤ (if 0 = 0 then s.cnt 0 + 1 else s.cnt 0); rw [if_pos rfl]; omega, by show (if 0 = 0 then s.cnt 0 + 1 else s.cnt 0) ≤ _; rw [if_pos rfl]; omega, rfl, rfl⟩
        | some x => exact ⟨rfl, fun m h => small_pos h (use_small (h _ (by omega) x hx)) _ rfl rfl, by show s.cnt 0 ≤ (if 0 = 0 then s.cnt 0 + 1 else s.cnt 0); rw [if_pos rfl]; omega, by show (if 0 = 0 then s.cnt 0 + 1 else s.cnt 0) ≤ _; rw [if_pos rfl]; omega, rfl, rfl⟩
  · rw [if_pos (by simpa using hk)]; exact .refl _ _

theorem read_state (s : BaySt) (k z : Int) : (s.read k z).2.2 = (s.start 0 k).1 := by
  unfold BaySt.read
  cases h : s.start 0 k with
  | mk a b => cases b <;> rfl

theorem read_reads (s : BaySt) (k z : Int) : Reads s (s.read k z).2.2 1 := by rw [read_state]; exact start_reads s k

theorem start_code {s : BaySt} {j : Nat} {k : Int} {s' : BaySt} {c : Nat} (h : s.start j k = (s', .inl c)) : c ≠ 0 ∧ c < 65536 := by
  have h2 : (s.start j k).2 = .inl c := by rw [h]
  unfold BaySt.start at h2
  split at h2
  · simp only [Sum.inl.injEq] at h2; omega
  · split at h2
    · simp only [Sum.inl.injEq] at h2; omega
    · split at h2
      · simp only [Sum.inl.injEq] at h2; omega
      · split at h2
        · simp only [Sum.inl.injEq] at h2; omega
        · cases h2

theorem may_lt (d : Dsk) (z : Int) : d.may z < 65536 := by
  unfold Dsk.may
  split
  · omega
  · split <;> omega

/-- The code of a read is 0 if, and only if, there is a sector. -/
theorem read_code (s : BaySt) (k z : Int) : ((s.read k z).1 = 0 ↔ ∃ x, (s.read k z).2.1 = some x) ∧ (s.read k z).1 < 65536 := by
  unfold BaySt.read
  cases h : s.start 0 k with
  | mk a b =>
    cases b with
    | inl c =>
      have := start_code h
      exact ⟨⟨fun e => absurd e this.1, fun ⟨x, e⟩ => by cases e⟩, this.2⟩
    | inr x =>
      show ((x.d.read z).1 = 0 ↔ ∃ y, (x.d.read z).2 = some y) ∧ (x.d.read z).1 < 65536
      unfold Dsk.read
      by_cases hz : x.d.may z = 0
      · rw [if_pos hz]; exact ⟨⟨fun _ => ⟨_, rfl⟩, fun _ => rfl⟩, by show 0 < 65536; omega⟩
      · rw [if_neg hz]; exact ⟨⟨fun e => absurd e hz, fun ⟨y, e⟩ => by cases e⟩, may_lt _ _⟩

/-- The first k members handed: the member and why it stopped; the sum; the bay. -/
structure Handed where
  t : Option (Nat × Nat)
  f : Nat → UInt8
  s : BaySt

def Handed.step (h : Handed) (z but : Int) (k : Nat) : Handed :=
  if h.t ≠ none ∨ (k : Int) = but then h
  else if (h.s.read k z).1 = 0 then ⟨none, fun i => h.f i ^^^ ((h.s.read k z).2.1.getD []).getD i 0, (h.s.read k z).2.2⟩
  else ⟨some (k, (h.s.read k z).1), h.f, (h.s.read k z).2.2⟩

def BaySt.hand (s : BaySt) (z but : Int) : Nat → Handed
  | 0 => ⟨none, fun _ => 0, s⟩
  | k + 1 => (s.hand z but k).step z but k

theorem hand_stop (s : BaySt) (z but : Int) (k : Nat) (h : (s.hand z but k).t ≠ none) : ∀ j, k ≤ j → s.hand z but j = s.hand z but k
  | 0, hj => by obtain rfl : k = 0 := by omega
                rfl
  | j + 1, hj => by
    by_cases hk : k = j + 1
    · subst hk; rfl
    · have ih := hand_stop s z but k h j (by omega)
      show (s.hand z but j).step z but j = _
      unfold Handed.step
      rw [if_pos (.inl (by rw [ih]; exact h)), ih]

theorem hand_but (s : BaySt) (z but : Int) (k : Nat) (h : (k : Int) = but) : s.hand z but (k + 1) = s.hand z but k := by
  show (s.hand z but k).step z but k = _
  unfold Handed.step
  rw [if_pos (.inr h)]
theorem hand_ok (s : BaySt) (z but : Int) (k : Nat) (h0 : (s.hand z but k).t = none) (h : (k : Int) ≠ but) (x : Sec) (hx : ((s.hand z but k).s.read k z).2.1 = some x) : s.hand z but (k + 1) = ⟨none, fun i => (s.hand z but k).f i ^^^ x.getD i 0, ((s.hand z but k).s.read k z).2.2⟩ := by
  show (s.hand z but k).step z but k = _
  unfold Handed.step
  have hne : ¬ ((s.hand z but k).t ≠ none ∨ (k : Int) = but) := by simp [h0, h]
  rw [if_neg hne, if_pos ((read_code _ _ _).1.2 ⟨x, hx⟩), hx]
  rfl
theorem hand_bad (s : BaySt) (z but : Int) (k : Nat) (h0 : (s.hand z but k).t = none) (h : (k : Int) ≠ but) (hx : ((s.hand z but k).s.read k z).1 ≠ 0) : s.hand z but (k + 1) = ⟨some (k, ((s.hand z but k).s.read k z).1), (s.hand z but k).f, ((s.hand z but k).s.read k z).2.2⟩ := by
  show (s.hand z but k).step z but k = _
  unfold Handed.step
  have hne : ¬ ((s.hand z but k).t ≠ none ∨ (k : Int) = but) := by simp [h0, h]
  rw [if_neg hne, if_neg hx]

theorem hand_reads (s : BaySt) (z but : Int) : ∀ k, Reads s (s.hand z but k).s k
  | 0 => .refl _ _
  | k + 1 => by
    have ih := hand_reads s z but k
    show Reads s ((s.hand z but k).step z but k).s (k + 1)
    unfold Handed.step
    split
    · exact ih.mono (by omega)
    · split
      · exact ih.trans (read_reads _ _ _)
      · exact ih.trans (read_reads _ _ _)

theorem hand_code (s : BaySt) (z but : Int) : ∀ k t, (s.hand z but k).t = some t → t.1 < k ∧ t.2 ≠ 0 ∧ t.2 < 65536
  | 0, t, h => by cases h
  | k + 1, t, h => by
    have ih := hand_code s z but k
    change ((s.hand z but k).step z but k).t = some t at h
    unfold Handed.step at h
    split at h
    · have := ih t h; omega
    · split at h
      · cases h
      · rename_i h2
        simp only [Option.some.injEq] at h
        subst h
        exact ⟨by show k < k + 1; omega, h2, (read_code _ _ _).2⟩

/-- Rows looked at, one by one: why it stopped; those that are not even; the bay. -/
structure Looked where
  t : Option (Nat × Nat)
  l : List Nat
  s : BaySt

instance (f : Nat → UInt8) (n : Nat) : Decidable (allZero f n) := inferInstanceAs (Decidable (∀ i, i < n → f i = 0))

def Looked.step (h : Looked) (M r : Nat) : Looked :=
  if h.t ≠ none then h
  else if (h.s.hand (1 + r : Nat) (-1) M).t = none then ⟨none, if allZero (h.s.hand (1 + r : Nat) (-1) M).f 128 then h.l else h.l ++ [r], (h.s.hand (1 + r : Nat) (-1) M).s⟩
  else ⟨(h.s.hand (1 + r : Nat) (-1) M).t, h.l, (h.s.hand (1 + r : Nat) (-1) M).s⟩

def BaySt.look (s : BaySt) (M : Nat) : Nat → Looked
  | 0 => ⟨none, [], s⟩
  | r + 1 => (s.look M r).step M r

theorem look_stop (s : BaySt) (M k : Nat) (h : (s.look M k).t ≠ none) : ∀ j, k ≤ j → s.look M j = s.look M k
  | 0, hj => by obtain rfl : k = 0 := by omega
                rfl
  | j + 1, hj => by
    by_cases hk : k = j + 1
    · subst hk; rfl
    · have ih := look_stop s M k h j (by omega)
      show (s.look M j).step M j = _
      unfold Looked.step
      rw [if_pos (by rw [ih]; exact h), ih]
theorem look_ok (s : BaySt) (M r : Nat) (h0 : (s.look M r).t = none) (h : ((s.look M r).s.hand (1 + r : Nat) (-1) M).t = none) : s.look M (r + 1) = ⟨none, if allZero ((s.look M r).s.hand (1 + r : Nat) (-1) M).f 128 then (s.look M r).l else (s.look M r).l ++ [r], ((s.look M r).s.hand (1 + r : Nat) (-1) M).s⟩ := by
  show (s.look M r).step M r = _
  unfold Looked.step
  rw [if_neg (by simp [h0]), if_pos h]
theorem look_bad (s : BaySt) (M r : Nat) (h0 : (s.look M r).t = none) (h : ((s.look M r).s.hand (1 + r : Nat) (-1) M).t ≠ none) : s.look M (r + 1) = ⟨((s.look M r).s.hand (1 + r : Nat) (-1) M).t, (s.look M r).l, ((s.look M r).s.hand (1 + r : Nat) (-1) M).s⟩ := by
  show (s.look M r).step M r = _
  unfold Looked.step
  rw [if_neg (by simp [h0]), if_neg h]

theorem look_reads (s : BaySt) (M : Nat) : ∀ r, Reads s (s.look M r).s (r * M)
  | 0 => .refl _ _
  | r + 1 => by
    have ih := look_reads s M r
    show Reads s ((s.look M r).step M r).s ((r + 1) * M)
    rw [Nat.succ_mul]
    unfold Looked.step
    split
    · exact ih.mono (by omega)
    · split
      · exact ih.trans (hand_reads _ _ _ _)
      · exact ih.trans (hand_reads _ _ _ _)

theorem look_length (s : BaySt) (M : Nat) : ∀ r, (s.look M r).l.length ≤ r
  | 0 => by show 0 ≤ 0; omega
  | r + 1 => by
    have ih := look_length s M r
    show ((s.look M r).step M r).l.length ≤ r + 1
    unfold Looked.step
    split
    · omega
    · split
      · show (if _ then (s.look M r).l else (s.look M r).l ++ [r]).length ≤ r + 1
        split
        · omega
        · simp; omega
      · show (s.look M r).l.length ≤ r + 1
        omega

theorem look_code (s : BaySt) (M : Nat) : ∀ r t, (s.look M r).t = some t → t.1 < M ∧ t.2 ≠ 0 ∧ t.2 < 65536
  | 0, t, h => by cases h
  | r + 1, t, h => by
    have ih := look_code s M r
    change ((s.look M r).step M r).t = some t at h
    unfold Looked.step at h
    split at h
    · exact ih t h
    · split at h
      · cases h
      · exact hand_code _ _ _ _ t h

theorem look_lt (s : BaySt) (M : Nat) : ∀ r, ∀ x ∈ (s.look M r).l, x < r
  | 0, x, h => by cases h
  | r + 1, x, h => by
    have ih := look_lt s M r
    change x ∈ ((s.look M r).step M r).l at h
    unfold Looked.step at h
    split at h
    · have := ih x h; omega
    · split at h
      · change x ∈ (if _ then (s.look M r).l else (s.look M r).l ++ [r]) at h
        split at h
        · have := ih x h; omega
        · rcases List.mem_append.1 h with h | h
          · have := ih x h; omega
          · simp at h; omega
      · have := ih x h; omega

end Go.Proofs.Ytkcfmkhakghniaa
