/- Plain facts: a run of at most 32 bits that has changed is told by the checksum. No program in sight. -/
import Derived.Test.YtjmnbpghfnageaaCrcMath
import Derived.Test.YtjmnbpghfnageaaBlk
namespace CrcM
open Go

/-- one bit more -/
def step (n : W32) (d : Bool) : W32 := L (n ^^^ if d then 1#32 else 0#32)

def word : List Bool → W32
  | [] => 0#32
  | c :: cs => (if c then 1#32 else 0#32) ^^^ (word cs <<< 1)

theorem word_bit : ∀ (cs : List Bool) (i : Nat), i < 32 → (word cs).getLsbD i = cs.getD i false
  | [], i, _ => by simp [word]
  | c :: cs, 0, _ => by cases c <;> simp [word]
  | c :: cs, i + 1, h => by
    have h1 : ((if c then 1#32 else 0#32) : W32).getLsbD (i + 1) = false := by
      cases c
      · simp
      · simp [BitVec.getLsbD_one]
    simp only [word, BitVec.getLsbD_xor, h1, Bool.false_xor, BitVec.getLsbD_shiftLeft, h, decide_true, Bool.true_and]
    simp [word_bit cs i (by omega)]

theorem shl_shr (n : W32) (h : n.getLsbD 31 = false) : L (n <<< 1) = n := by
  rw [L_even _ (by simp)]
  apply BitVec.eq_of_getLsbD_eq
  intro i hi
  rw [BitVec.getLsbD_ushiftRight, BitVec.getLsbD_shiftLeft]
  by_cases h' : 1 + i < 32
  · simp [h']
  · obtain rfl : i = 31 := by omega
    simp at h ⊢
    exact h

theorem fold_step : ∀ (cs : List Bool) (n : W32), cs.length ≤ 32 → cs.foldl step n = it L cs.length (n ^^^ word cs)
  | [], n, _ => by simp [word, it]
  | c :: cs, n, h => by
    have hl : cs.length ≤ 31 := by simpa using h
    have h31 : (word cs).getLsbD 31 = false := by
      rw [word_bit cs 31 (by omega), List.getD_eq_getElem?_getD, List.getElem?_eq_none (by omega)]; rfl
    rw [List.foldl_cons, fold_step cs _ (by omega)]
    show it L cs.length _ = it L (cs.length + 1) _
    rw [it, word, ← BitVec.xor_assoc, L_xor, shl_shr _ h31]
    rfl

def bits8 (u : UInt8) : List Bool := (List.range 8).map fun j => u.toNat.testBit j

theorem bits8_length (u : UInt8) : (bits8 u).length = 8 := by simp [bits8]

theorem bits8_getD (u : UInt8) (i : Nat) : (bits8 u).getD i false = u.toNat.testBit i := by
  by_cases h : i < 8
  · simp [bits8, h]
  · have : u.toNat.testBit i = false := Nat.testBit_lt_two_pow (Nat.lt_of_lt_of_le u.toNat_lt (Nat.pow_le_pow_right (by decide) (by omega)))
    simp [bits8, h, this]

theorem word_bits8 (u : UInt8) : word (bits8 u) = BitVec.ofNat 32 u.toNat := by
  apply BitVec.eq_of_getLsbD_eq
  intro i hi
  rw [word_bit _ _ hi, bits8_getD, BitVec.getLsbD_ofNat]; simp [hi]

theorem reg_bits : ∀ (l : List UInt8) (n : W32), reg n (nats l) = (l.flatMap bits8).foldl step n
  | [], _ => rfl
  | u :: l, n => by
    show reg (byte n u.toNat) (nats l) = _
    rw [List.flatMap_cons, List.foldl_append, fold_step (bits8 u) _ (by rw [bits8_length]; omega), word_bits8, bits8_length, reg_bits l]; rfl

theorem L_inj (n : W32) (h : L n = 0#32) : n = 0#32 := by
  rw [L_bit] at h
  have hb : ∀ i, i < 31 → n.getLsbD (i + 1) = (if n.getLsbD 0 then poly else 0#32).getLsbD i := by
    intro i hi
    have h2 := congrArg (fun x : W32 => x.getLsbD i) h
    simp only [BitVec.getLsbD_xor, BitVec.getLsbD_ushiftRight, BitVec.getLsbD_zero] at h2
    rw [Nat.add_comm] at h2
    revert h2
    cases n.getLsbD (i + 1) <;> cases (if n.getLsbD 0 then poly else 0#32).getLsbD i <;> simp
  have h0 : n.getLsbD 0 = false := by
    cases hc : n.getLsbD 0
    · rfl
    · rw [hc] at h
      have h2 := congrArg (fun x : W32 => x.getLsbD 31) h
      simp only [BitVec.getLsbD_xor, BitVec.getLsbD_ushiftRight, BitVec.getLsbD_zero, if_true] at h2
      rw [BitVec.getLsbD_of_ge n (1 + 31) (by omega), show poly.getLsbD 31 = true by decide] at h2
      cases h2
  apply BitVec.eq_of_getLsbD_eq
  intro i hi
  rcases i with _ | i
  · rw [h0]; simp
  · rw [hb i (by omega), h0]; simp

theorem it_L_zero (k : Nat) : ∀ (n : W32), it L k n = 0#32 ↔ n = 0#32 := by
  induction k with
  | zero => intro n; exact Iff.rfl
  | succ k ih =>
    intro n
    rw [it, ih]
    exact ⟨L_inj n, fun h => by rw [h]; exact L_zero⟩

theorem fold_noughts (r : Nat) : ∀ n : W32, (List.replicate r false).foldl step n = it L r n := by
  induction r with
  | zero => intro n; rfl
  | succ r ih =>
    intro n
    rw [List.replicate_succ, List.foldl_cons, ih, it]
    congr 1
    simp [step]

theorem burst (f r : Nat) (cs : List Bool) (h : cs.length ≤ 32) :
    ((List.replicate f false ++ cs ++ List.replicate r false).foldl step 0#32 = 0#32) ↔ ∀ i, i < cs.length → cs.getD i false = false := by
  rw [List.foldl_append, List.foldl_append, fold_noughts, fold_noughts, fold_step _ _ h, it_L_zero, it_L_zero, (it_L_zero f 0#32).2 rfl]
  constructor
  · intro hw i hi
    rw [← word_bit cs i (by omega)]
    have : word cs = 0#32 := by simpa using hw
    rw [this]; simp
  · intro hc
    have : word cs = 0#32 := by
      apply BitVec.eq_of_getLsbD_eq
      intro i hi
      rw [word_bit cs i hi]
      by_cases h' : i < cs.length
      · rw [hc i h']; simp
      · rw [List.getD_eq_getElem?_getD, List.getElem?_eq_none (by omega)]; simp
    rw [this]; simp

/-- bit p of bytes -/
def bitAt (l : List UInt8) (p : Nat) : Bool := (l.getD (p / 8) 0).toNat.testBit (p % 8)

theorem flat_at : ∀ (l : List UInt8) (p : Nat), p < 8 * l.length → (l.flatMap bits8)[p]? = some (bitAt l p)
  | [], p, h => by simp at h
  | u :: l, p, h => by
    rw [List.flatMap_cons, List.getElem?_append, bits8_length]
    by_cases hp : p < 8
    · rw [if_pos hp]
      have h1 := bits8_getD u p
      rw [List.getD_eq_getElem?_getD, List.getElem?_eq_getElem (by rw [bits8_length]; exact hp)] at h1
      rw [List.getElem?_eq_getElem (by rw [bits8_length]; exact hp)]
      simp only [Option.getD_some] at h1
      rw [h1, bitAt, Nat.div_eq_of_lt hp, Nat.mod_eq_of_lt hp]; rfl
    · rw [if_neg hp, flat_at l (p - 8) (by simp at h; omega), bitAt, bitAt]
      rw [show p / 8 = (p - 8) / 8 + 1 by omega, show (p - 8) % 8 = p % 8 by omega]; rfl

theorem flat_length (l : List UInt8) : (l.flatMap bits8).length = 8 * l.length := by
  induction l with
  | nil => rfl
  | cons u l ih => rw [List.flatMap_cons, List.length_append, bits8_length, ih, List.length_cons]; omega

/-- a bit turned -/
def turn (l : List UInt8) (p : Nat) : List UInt8 := l.set (p / 8) (l.getD (p / 8) 0 ^^^ UInt8.ofNat (2 ^ (p % 8)))

theorem turn_length (l : List UInt8) (p : Nat) : (turn l p).length = l.length := by simp [turn]

theorem pow_bit (j : Nat) (hj : j < 8) (i : Nat) : (UInt8.ofNat (2 ^ j)).toNat.testBit i = decide (i = j) := by
  have : (UInt8.ofNat (2 ^ j)).toNat = 2 ^ j := by
    rw [UInt8.toNat_ofNat', Nat.mod_eq_of_lt (Nat.pow_lt_pow_right (by decide) hj)]
  rw [this, Nat.testBit_two_pow]
  by_cases h : i = j
  · subst h; simp
  · have : ¬ j = i := fun e => h e.symm
    simp [h, this]

theorem bitAt_turn (l : List UInt8) (p q : Nat) (hp : p < 8 * l.length) : bitAt (turn l p) q = (bitAt l q ^^ decide (q = p)) := by
  unfold bitAt turn
  rw [List.getD_eq_getElem?_getD, List.getElem?_set]
  by_cases h : p / 8 = q / 8
  · rw [if_pos h, if_pos (by omega)]
    simp only [Option.getD_some]
    rw [UInt8.toNat_xor, Nat.testBit_xor, pow_bit _ (Nat.mod_lt _ (by decide)), h]
    congr 1
    by_cases h' : q % 8 = p % 8
    · have : q = p := by omega
      simp [this]
    · have : ¬ q = p := fun e => h' (by rw [e])
      simp [h', this]
  · rw [if_neg h]
    have : ¬ q = p := fun e => h (by rw [e])
    simp [this]

/-- what the law's loop makes of the bytes, behind k rounds -/
def turned (l : List UInt8) (f : Nat) (c : W32) : Nat → List UInt8
  | 0 => l
  | k + 1 => if c.getLsbD k && decide (f + k < 8 * l.length) then turn (turned l f c k) (f + k) else turned l f c k

def anyTo (l : List UInt8) (f : Nat) (c : W32) : Nat → Bool
  | 0 => false
  | k + 1 => anyTo l f c k || (c.getLsbD k && decide (f + k < 8 * l.length))

theorem turned_length (l : List UInt8) (f : Nat) (c : W32) : ∀ k, (turned l f c k).length = l.length
  | 0 => rfl
  | k + 1 => by
    rw [turned]
    split
    · rw [turn_length, turned_length l f c k]
    · exact turned_length l f c k

theorem turned_bit (l : List UInt8) (f : Nat) (c : W32) (q : Nat) (hq : q < 8 * l.length) : ∀ k,
    bitAt (turned l f c k) q = (bitAt l q ^^ (decide (f ≤ q ∧ q < f + k) && c.getLsbD (q - f)))
  | 0 => by
    have : decide (f ≤ q ∧ q < f + 0) = false := decide_eq_false (by omega)
    rw [turned, this]; simp
  | k + 1 => by
    rw [turned]
    by_cases hb : (c.getLsbD k && decide (f + k < 8 * l.length)) = true
    · rw [if_pos hb, bitAt_turn _ _ _ (by rw [turned_length]; simp at hb; omega), turned_bit l f c q hq k]
      simp only [Bool.and_eq_true, decide_eq_true_eq] at hb
      by_cases h : q = f + k
      · subst h
        have h1 : decide (f ≤ f + k ∧ f + k < f + k) = false := decide_eq_false (by omega)
        have h2 : decide (f ≤ f + k ∧ f + k < f + (k + 1)) = true := decide_eq_true (by omega)
        rw [h1, h2, show f + k - f = k by omega, hb.1]; simp
      · have : decide (f ≤ q ∧ q < f + k) = decide (f ≤ q ∧ q < f + (k + 1)) := decide_eq_decide.2 (by omega)
        rw [this]; simp [h]
    · rw [if_neg hb, turned_bit l f c q hq k]
      by_cases h : q = f + k
      · subst h
        have h1 : decide (f ≤ f + k ∧ f + k < f + k) = false := decide_eq_false (by omega)
        have h2 : decide (f ≤ f + k ∧ f + k < f + (k + 1)) = true := decide_eq_true (by omega)
        simp only [Bool.and_eq_true, decide_eq_true_eq, not_and] at hb
        have h3 : c.getLsbD k = false := by
          cases hc : c.getLsbD k
          · rfl
          · exact absurd hq (hb hc)
        rw [h1, h2, show f + k - f = k by omega, h3]; simp
      · have : decide (f ≤ q ∧ q < f + k) = decide (f ≤ q ∧ q < f + (k + 1)) := decide_eq_decide.2 (by omega)
        rw [this]

theorem anyTo_iff (l : List UInt8) (f : Nat) (c : W32) : ∀ k, anyTo l f c k = true ↔ ∃ i, i < k ∧ c.getLsbD i = true ∧ f + i < 8 * l.length
  | 0 => by simp [anyTo]
  | k + 1 => by
    rw [anyTo, Bool.or_eq_true, anyTo_iff l f c k, Bool.and_eq_true, decide_eq_true_eq]
    constructor
    · rintro (⟨i, h1, h2⟩ | h)
      · exact ⟨i, by omega, h2⟩
      · exact ⟨k, by omega, h⟩
    · rintro ⟨i, h1, h2⟩
      by_cases h : i = k
      · subst h; exact .inr h2
      · exact .inl ⟨i, by omega, h2⟩

/-- a list of bits that differ in a burst alone -/
theorem fold_xor : ∀ (as bs : List Bool) (n m : W32), as.length = bs.length → (List.zipWith (· ^^ ·) as bs).foldl step (n ^^^ m) = as.foldl step n ^^^ bs.foldl step m
  | [], [], _, _, _ => rfl
  | a :: as, b :: bs, n, m, h => by
    rw [List.zipWith_cons_cons, List.foldl_cons, List.foldl_cons, List.foldl_cons, ← fold_xor as bs _ _ (by simpa using h)]
    congr 1
    simp only [step]
    rw [← L_xor, xor4]
    congr 2
    cases a <;> cases b <;> simp
  | [], _ :: _, _, _, h => by simp at h
  | _ :: _, [], _, _, h => by simp at h

theorem burst_law (l : List UInt8) (f : Nat) (c : W32) (hf : f < 8 * l.length) :
    (more 0#32 (nats (turned l f c 32)) != more 0#32 (nats l)) = anyTo l f c 32 := by
  obtain ⟨m, hm, hm32, hmN⟩ : ∃ m, m ≤ 32 ∧ (m < 32 → f + m = 8 * l.length) ∧ f + m ≤ 8 * l.length := ⟨min 32 (8 * l.length - f), by omega, by omega, by omega⟩
  obtain ⟨cs, hcs⟩ : ∃ cs, cs = (List.range m).map fun i => c.getLsbD i := ⟨_, rfl⟩
  have hcl : cs.length = m := by rw [hcs]; simp
  have hx : List.zipWith (· ^^ ·) ((turned l f c 32).flatMap bits8) (l.flatMap bits8) = List.replicate f false ++ cs ++ List.replicate (8 * l.length - f - m) false := by
    apply List.ext_getElem?
    intro p
    by_cases hp : p < 8 * l.length
    · rw [List.getElem?_zipWith, flat_at _ p (by rw [turned_length]; exact hp), flat_at _ p hp, turned_bit l f c p hp 32]
      show some _ = _
      rw [List.append_assoc, List.getElem?_append, List.length_replicate]
      by_cases h1 : p < f
      · rw [if_pos h1, List.getElem?_replicate, if_pos h1, decide_eq_false (by omega)]; simp
      · rw [if_neg h1, List.getElem?_append, hcl]
        by_cases h2 : p - f < m
        · rw [if_pos h2, decide_eq_true (by omega), hcs]
          simp [h2]
          cases bitAt l p <;> cases c.getLsbD (p - f) <;> rfl
        · rw [if_neg h2, List.getElem?_replicate, if_pos (by omega), decide_eq_false (by omega)]; simp
    · rw [List.getElem?_eq_none (by rw [List.length_zipWith, flat_length, flat_length, turned_length]; omega), List.getElem?_eq_none (by simp [hcl]; omega)]
  have hfold := fold_xor ((turned l f c 32).flatMap bits8) (l.flatMap bits8) (~~~0#32) (~~~0#32) (by rw [flat_length, flat_length, turned_length])
  rw [hx, BitVec.xor_self, ← reg_bits, ← reg_bits] at hfold
  have hb := burst f (8 * l.length - f - m) cs (by omega)
  rw [hfold] at hb
  have heq : (more 0#32 (nats (turned l f c 32)) = more 0#32 (nats l)) ↔ ∀ i, i < cs.length → cs.getD i false = false := by
    rw [← hb]
    unfold more
    constructor
    · intro h
      have := congrArg (fun x : W32 => ~~~x) h
      simp only [BitVec.not_not] at this
      rw [this, BitVec.xor_self]
    · intro h
      have : reg (~~~0#32) (nats (turned l f c 32)) = reg (~~~0#32) (nats l) := by
        have := congrArg (fun x : W32 => x ^^^ reg (~~~0#32) (nats l)) h
        simpa [BitVec.xor_assoc] using this
      rw [this]
  have hany : anyTo l f c 32 = false ↔ ∀ i, i < cs.length → cs.getD i false = false := by
    rw [← Bool.not_eq_true, anyTo_iff]
    constructor
    · intro h i hi
      rw [hcl] at hi
      rw [hcs]
      cases hc : c.getLsbD i
      · simp [hi, hc]
      · exact absurd ⟨i, by omega, hc, by omega⟩ h
    · rintro h ⟨i, h1, h2, h3⟩
      have hi : i < m := by omega
      have := h i (by rw [hcl]; exact hi)
      rw [hcs] at this
      simp [hi, h2] at this
  rw [← heq] at hany
  cases ha : anyTo l f c 32
  · rw [bne_eq_false_iff_eq]; exact hany.1 ha
  · rw [bne_iff_ne]
    intro h
    rw [hany.2 h] at ha
    cases ha

end CrcM
