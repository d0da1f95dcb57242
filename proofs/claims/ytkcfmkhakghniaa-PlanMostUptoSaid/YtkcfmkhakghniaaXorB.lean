/- Sums of rows of bytes: the value; whether it is noughts alone. -/
import Derived.Test.YtkcfmkhakghniaaXorA
set_option linter.unusedVariables false
namespace Go.Proofs.Ytkcfmkhakghniaa
open Go.RowKit

/-- The bytes of a sum. -/
def sumL (f : Nat → UInt8) (n : Nat) : List UInt8 := (List.range n).map f
theorem sumL_length (f : Nat → UInt8) (n : Nat) : (sumL f n).length = n := by simp [sumL]
theorem ufn_ucells (f : Nat → UInt8) (n : Nat) : ufn f n = (ucells (sumL f n)).toArray := by simp [ufn, ucells, sumL]

theorem SumAt.seg {W : World} {g gb n : Nat} {f : Nat → UInt8} {many : Int} (h : SumAt W g gb n f many) : Seg W (.slice (some ⟨gb, 0, none⟩) n n) (sumL f n) := by
  have hr := h.row
  have := seg_of_at (l := sumL f n) (cap := n) hr (by rw [sumL_length]; omega) (fun j hj => by
    rw [sumL_length] at hj
    rw [ufn_at f n j hj]
    simp [sumL])
  rw [sumL_length] at this
  exact this

set_option maxRecDepth 100000 in
set_option maxHeartbeats 1000000 in
theorem xor_value (g gb n : Nat) (f : Nat → UInt8) (many : Int) (w : World) (h : SumAt w g gb n f many) (hn : n ≤ 4096) :
    Calls Try.prog 48 #[.pointer (some ⟨g, 0, none⟩)] w fun e w' => ∃ v, e = .returned v ∧ w'.ownsRow w.heap.size 5 1 v n (ucells (sumL f n)) ∧ Below w.heap.size w w' := by
  have hcl : Hid (Calls Try.prog 59 #[.slice (some ⟨gb, 0, none⟩) n n] w fun e w' => ∃ v, e = .returned v ∧ w'.ownsRow w.heap.size 5 1 v n (ucells (sumL f n)) ∧ Below w.heap.size w w') := by
    have hs := h.seg
    have := clone_any ⟨gb, 0, none⟩ n (sumL f n) w (by rw [sumL_length]; omega) (by rw [sumL_length]; exact hs)
    rw [sumL_length] at this
    exact this
  have c0 : w.cell? ⟨g, 0, none⟩ = some (.slice (some ⟨gb, 0, none⟩) n n) := h.sum.cell 0
  clear h
  go_enter Try.func48, Try.ntmps48
  go_wp2_with (go_at_call 59; refine hcl.out.mono ?_; rintro e w2 ⟨v, rfl, h1, h2⟩)
  go_ret
  exact ⟨v, rfl, h1, h2⟩

theorem u8_ne0 (x : UInt8) : (((x.toNat : Nat) : Int) != 0) = !decide (x = 0) := by
  have := u8_ne x 0
  simpa using this

set_option maxHeartbeats 1000000 in
theorem nought_do (x : UInt8) (w : World) : Calls Try.prog 83 #[.int .u8 ((x.toNat : Nat) : Int)] w fun e w' => e = .returned (.bool (!decide (x = 0))) ∧ w' = w := by
  have hx := u8_ne0 x
  generalize (!decide (x = 0)) = q at *
  go_enter Try.func83, Try.ntmps83
  go_wp2
  go_ret
  exact ⟨rfl, rfl⟩

/-- Noughts alone? -/
def allZero (f : Nat → UInt8) (n : Nat) : Prop := ∀ i, i < n → f i = 0

set_option maxRecDepth 100000 in
set_option maxHeartbeats 2000000 in
theorem index_nought (gb n : Nat) (f : Nat → UInt8) (w : World) (h : At w gb (ufn f n) 5) (hn : n ≤ 4096) :
    Calls Try.prog 109 #[.slice (some ⟨gb, 0, none⟩) n n, .func (.func 83) #[] #[]] w fun e w' => w' = w ∧ ∃ z : Int, e = .returned (.int .i64 z) ∧ ((0 ≤ z ∧ ¬ allZero f n) ∨ (z = -1 ∧ allZero f n)) := by
  have H := Lib.hid h
  clear h
  go_enter Try.func109, Try.ntmps109
  go_wp2
  go_loopw [8] (fun q wr => ∃ k : Nat, k ≤ n ∧ q = .int .i64 k ∧ (∀ i, i < k → f i = 0) ∧ wr = w) (fun q _ => n - (intOf q).toNat)
  case atStart => exact ⟨0, by omega, rfl, fun i hi => by omega, rfl⟩
  case round =>
    obtain ⟨k, hk, rfl, hz, rfl⟩ := hrel
    have HZ := Lib.hid hz
    clear hz
    by_cases hkn : k < n
    · have d0 := (H.out.cell k).trans (ufn_at f n k hkn)
      have HC := Lib.hid (nought_do (f k) wr)
      have K1 : Hid (k + 1 ≤ n) := hkn
      cases hq : decide (f k = 0)
      · rw [hq] at HC
        have HN : Hid (¬ allZero f n) := fun ha => by have := of_decide_eq_false hq; exact this (ha k hkn)
        clear hq
        generalize f k = y at *
        go_wp2_with (go_at_call 83; refine HC.out.mono ?_; rintro e w2 ⟨rfl, rfl⟩)
        go_ret
        exact ⟨rfl, _, rfl, .inl ⟨by omega, HN.out⟩⟩
      · rw [hq] at HC
        have HY : Hid (∀ i, i < k + 1 → f i = 0) := fun i hi => by
          by_cases hik : i = k
          · subst hik; exact of_decide_eq_true hq
          · exact HZ.out i (by omega)
        clear hq
        generalize f k = y at *
        go_wp2_with (go_at_call 83; refine HC.out.mono ?_; rintro e w2 ⟨rfl, rfl⟩)
        exact ⟨⟨k + 1, K1.out, by go_num, HY.out, trivial⟩, by simp [intOf]; omega⟩
    · obtain rfl : k = n := by omega
      go_wp2
      go_ret
      exact ⟨rfl, _, rfl, .inr ⟨rfl, HZ.out⟩⟩

set_option maxRecDepth 100000 in
set_option maxHeartbeats 1000000 in
theorem contains_nought (gb n : Nat) (f : Nat → UInt8) (w : World) (h : At w gb (ufn f n) 5) (hn : n ≤ 4096) :
    Calls Try.prog 82 #[.slice (some ⟨gb, 0, none⟩) n n, .func (.func 83) #[] #[]] w fun e w' => w' = w ∧ ∃ r : Bool, e = .returned (.bool r) ∧ (r = true ↔ ¬ allZero f n) := by
  have hi := Lib.hid (index_nought gb n f w h hn)
  clear h
  go_enter Try.func82, Try.ntmps82
  go_wp2_with (go_at_call 109; refine hi.out.mono ?_; rintro e w2 ⟨rfl, z, rfl, hz⟩)
  go_ret
  refine ⟨rfl, _, rfl, ?_⟩
  rcases hz with ⟨h1, h2⟩ | ⟨h1, h2⟩
  · simp [h1, h2]
  · simp [h1, h2]

set_option maxRecDepth 100000 in
set_option maxHeartbeats 1000000 in
theorem xor_nought (g gb n : Nat) (f : Nat → UInt8) (many : Int) (w : World) (h : SumAt w g gb n f many) (hn : n ≤ 4096) :
    Calls Try.prog 47 #[.pointer (some ⟨g, 0, none⟩)] w fun e w' => w' = w ∧ ∃ r : Bool, e = .returned (.bool r) ∧ (r = true ↔ allZero f n) := by
  have hi := Lib.hid (contains_nought gb n f w h.row hn)
  have c0 : w.cell? ⟨g, 0, none⟩ = some (.slice (some ⟨gb, 0, none⟩) n n) := h.sum.cell 0
  clear h
  go_enter Try.func47, Try.ntmps47
  go_wp2_with (go_at_call 82; refine hi.out.mono ?_; rintro e w2 ⟨rfl, r, rfl, hr⟩)
  go_ret
  refine ⟨rfl, _, rfl, ?_⟩
  cases r <;> simp_all

end Go.Proofs.Ytkcfmkhakghniaa
