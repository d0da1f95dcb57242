/- Several texts in one: PlzAa, PlzK. -/
import Derived.Test.YtpegbgomnpinfaaGreatMrg8
import Derived.Test.YtpegbgomnpinfaaGreatPlwG
import Derived.Deep.MidRow
/- Blocks of a call's own rows, taken apart. -/
set_option linter.unusedVariables false
namespace Go.Proofs.YtpegbgomnpinfaaGreat
open Go.RowKit

theorem own_at {w : World} {B e sz g n c : Nat} {xs : List Value} (h : w.ownsRow B e sz (.slice (some ⟨g, 0, none⟩) n c) n xs) : B ≤ g ∧ n ≤ c ∧ c ≤ maxLen ∧ ∃ cur, At w g cur e ∧ cur.size = c * sz ∧ cur.toList.take (n * sz) = xs := by
  rcases h.2 with ⟨h, _⟩ | ⟨g', cap, cur, hv, hb, hg, hc, hm, hs, ht⟩
  · cases h
  · simp only [Value.slice.injEq, Option.some.injEq, Addr.mk.injEq] at hv
    obtain ⟨⟨rfl, _, _⟩, _, rfl⟩ := hv
    exact ⟨hb, hc, hm, cur, hg, hs, ht⟩

theorem at_one {w : World} {g : Nat} {cs cs' : Array Value} {t t' : TypeId} (h : At w g cs t) (h' : At w g cs' t') : cs = cs' ∧ t = t' := by
  unfold At at h h'
  rw [h] at h'
  simp only [Option.some.injEq, Obj.cells.injEq] at h'
  exact ⟨h'.1, h'.2.1⟩

end Go.Proofs.YtpegbgomnpinfaaGreat

/- Helpers for what the book asks. -/
set_option linter.unusedVariables false
namespace Go.Proofs.YtpegbgomnpinfaaGreat
open Go.RowKit

theorem take_set_one (xs : List Value) (k : Nat) (a : Value) (h : k < xs.length) : (xs.set k a).take ((k + 1) * 1) = xs.take (k * 1) ++ [a] := by
  rw [Nat.mul_one, Nat.mul_one, List.take_succ_eq_append_getElem (by rw [List.length_set]; exact h), List.getElem_set_self, List.take_set_of_le (Nat.le_refl _)]
theorem take_set_three (xs : List Value) (k : Nat) (a b c : Value) (h : k * 3 + 2 < xs.length) : (((xs.set (k * 3) a).set (k * 3 + 1) b).set (k * 3 + 2) c).take ((k + 1) * 3) = xs.take (k * 3) ++ [a, b, c] := by
  apply List.ext_getElem?
  intro i
  rw [List.getElem?_take]
  by_cases h1 : i < (k + 1) * 3
  · rw [if_pos h1]
    by_cases h2 : i < k * 3
    · rw [List.getElem?_append_left (by rw [List.length_take]; omega), List.getElem?_take, if_pos h2, List.getElem?_set_ne (by omega), List.getElem?_set_ne (by omega), List.getElem?_set_ne (by omega)]
    · rw [List.getElem?_append_right (by rw [List.length_take]; omega), List.length_take, Nat.min_eq_left (by omega)]
      by_cases h3 : i = k * 3
      · subst h3
        rw [List.getElem?_set_ne (by omega), List.getElem?_set_ne (by omega), List.getElem?_set_self (by omega)]
        simp
      · by_cases h4 : i = k * 3 + 1
        · subst h4
          rw [List.getElem?_set_ne (by omega), List.getElem?_set_self (by simp; omega), show k * 3 + 1 - k * 3 = 1 by omega]
          rfl
        · obtain rfl : i = k * 3 + 2 := by omega
          rw [List.getElem?_set_self (by simp; omega), show k * 3 + 2 - k * 3 = 2 by omega]
          rfl
  · rw [if_neg h1, List.getElem?_eq_none]
    simp only [List.length_append, List.length_take, List.length_cons, List.length_nil]
    omega

/-- What is new does not count. -/
theorem chg_old {S0 S : Nat → Prop} {w W W1 : World} (h : Chg S0 w W) (hc : Chg S W W1) (hS : ∀ k, k < w.heap.size → S k → S0 k) : Chg S0 w W1 :=
  ⟨hc.os.trans h.os, hc.tape.trans h.tape, hc.output.trans h.output, Nat.le_trans h.size hc.size, fun k hk hn => (hc.block k (Nat.lt_of_lt_of_le hk h.size) (fun hs => hn (hS k hk hs))).trans (h.block k hk hn)⟩
theorem pat_oneA (n : Int) : (#[Value.int .i64 0, .int .i64 n, .slice none 0 0].all (·.oneCell')) = true := all_oneCell_toArray (cs := [.int .i64 0, .int .i64 n, .slice none 0 0]) fun v hv => by
  simp only [List.mem_cons, List.not_mem_nil, or_false] at hv
  rcases hv with rfl | rfl | rfl <;> rfl

end Go.Proofs.YtpegbgomnpinfaaGreat
