/- Plain facts: the checksum of pieces. No program in sight. -/
import Derived.Test.YtjmnbpghfnageaaBurstMath
namespace CrcM
open Go

theorem reg_split : ∀ (b : List Nat) (n : W32), reg n b = it (it L 8) b.length n ^^^ reg 0#32 b
  | [], n => by simp [reg, it]
  | u :: b, n => by
    have h1 : byte n u = it L 8 n ^^^ byte 0#32 u := by
      unfold byte
      rw [← lin_L.it 8]; simp
    show reg (byte n u) b = it (it L 8) (b.length + 1) n ^^^ reg (byte 0#32 u) b
    rw [reg_split b (byte n u), reg_split b (byte 0#32 u), h1, (lin_L.it 8).it b.length, BitVec.xor_assoc]
    rfl

theorem more_append (a b : List Nat) (s : W32) : more (more s a) b = more s (a ++ b) := by
  unfold more
  rw [BitVec.not_not, reg_append]

theorem join_more (a b : List Nat) : join (more 0#32 a) (more 0#32 b) b.length = more 0#32 (a ++ b) := by
  rw [← more_append]
  have hF := (lin_L.it 8).it b.length
  unfold join more
  rw [BitVec.not_not, reg_split b (reg (~~~0#32) a), reg_split b (~~~0#32)]
  have hn : ∀ x : W32, ~~~x = x ^^^ ~~~0#32 := by
    intro x
    apply BitVec.eq_of_getLsbD_eq
    intro i hi
    simp only [BitVec.getLsbD_xor, BitVec.getLsbD_not, hi, BitVec.getLsbD_zero, decide_true, Bool.true_and, Bool.not_false, Bool.xor_true]
  rw [hn (reg (~~~0#32) a), hF]
  generalize it (it L 8) b.length (reg (~~~0#32) a) = p
  generalize it (it L 8) b.length (~~~0#32) = q
  generalize reg 0#32 b = r
  apply BitVec.eq_of_getLsbD_eq
  intro i hi
  simp only [BitVec.getLsbD_xor, BitVec.getLsbD_not, hi, decide_true, Bool.true_and]
  cases p.getLsbD i <;> cases q.getLsbD i <;> cases r.getLsbD i <;> rfl

def flat (ls : List (List UInt8)) (k : Nat) : List UInt8 := (ls.take k).flatten

theorem flat_succ (ls : List (List UInt8)) (k : Nat) (h : k < ls.length) : flat ls (k + 1) = flat ls k ++ ls[k] := by
  unfold flat
  rw [List.take_succ_eq_append_getElem h, List.flatten_append]; simp

def tot (ls : List (List UInt8)) (k : Nat) : Nat := ls.length + (flat ls k).length

theorem tot_succ (ls : List (List UInt8)) (k : Nat) (h : k < ls.length) : tot ls (k + 1) = tot ls k + (ls[k]).length := by
  unfold tot
  rw [flat_succ ls k h, List.length_append]; omega

theorem flat_le (ls : List (List UInt8)) (k : Nat) : (flat ls k).length ≤ (flat ls ls.length).length := by
  unfold flat
  rw [List.take_length]
  have h : ls.flatten = (ls.take k).flatten ++ (ls.drop k).flatten := by rw [← List.flatten_append, List.take_append_drop]
  rw [h, List.length_append]; omega

theorem nats_append (a b : List UInt8) : nats (a ++ b) = nats a ++ nats b := by simp [nats]
theorem nats_length (a : List UInt8) : (nats a).length = a.length := by simp [nats]

theorem more_flat (a b : List UInt8) : more (more 0#32 (nats a)) (nats b) = more 0#32 (nats (a ++ b)) := by
  rw [nats_append, more_append]

theorem join_flat (a b : List UInt8) : join (more 0#32 (nats a)) (more 0#32 (nats b)) b.length = more 0#32 (nats (a ++ b)) := by
  rw [nats_append, ← join_more, nats_length]

end CrcM
