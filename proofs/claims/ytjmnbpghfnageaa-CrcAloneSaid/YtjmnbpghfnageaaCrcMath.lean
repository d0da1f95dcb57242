/- Plain facts on the checksum's linear step over 32 bits; no program in sight. -/
namespace CrcM

/-- a function, so many times -/
def it {α : Type} (f : α → α) : Nat → α → α
  | 0, x => x
  | k + 1, x => it f k (f x)

theorem it_add {α : Type} (f : α → α) (j k : Nat) (x : α) : it f (j + k) x = it f k (it f j x) := by
  induction j generalizing x with
  | zero => simp [it]
  | succ j ih => rw [Nat.succ_add, it, it, ih]

theorem it_succ' {α : Type} (f : α → α) (k : Nat) (x : α) : it f (k + 1) x = f (it f k x) := by
  rw [it_add]; rfl

theorem it_mul {α : Type} (f : α → α) (j k : Nat) (x : α) : it (it f j) k x = it f (j * k) x := by
  induction k generalizing x with
  | zero => simp [it]
  | succ k ih => rw [it, ih, Nat.mul_succ, Nat.add_comm, it_add]

abbrev W32 := BitVec 32

def poly : W32 := 0x82f63b78#32

/-- one bit shifted out -/
def L (n : W32) : W32 := if n &&& 1#32 = 1#32 then (n >>> 1) ^^^ poly else n >>> 1

theorem and1 (n : W32) : n &&& 1#32 = if n.getLsbD 0 then 1#32 else 0#32 := by
  apply BitVec.eq_of_getLsbD_eq
  intro i hi
  by_cases h0 : i = 0
  · subst h0; cases h : n.getLsbD 0 <;> simpa using h
  · have : (1#32).getLsbD i = false := by
      rw [BitVec.getLsbD_one]; simp [h0]
    cases h : n.getLsbD 0 <;> simp [this]

theorem L_bit (n : W32) : L n = (n >>> 1) ^^^ (if n.getLsbD 0 then poly else 0#32) := by
  unfold L
  rw [and1]
  cases h : n.getLsbD 0 <;> simp

theorem sel_xor (a b : Bool) (p : W32) : (if (a ^^ b) then p else 0#32) = (if a then p else 0#32) ^^^ (if b then p else 0#32) := by
  cases a <;> cases b <;> simp

theorem xor4 (a b c d : W32) : (a ^^^ b) ^^^ (c ^^^ d) = (a ^^^ c) ^^^ (b ^^^ d) := by
  rw [BitVec.xor_assoc, BitVec.xor_assoc, ← BitVec.xor_assoc b c d, BitVec.xor_comm b c, BitVec.xor_assoc c b d]

theorem L_xor (a b : W32) : L (a ^^^ b) = L a ^^^ L b := by
  rw [L_bit, L_bit, L_bit, BitVec.getLsbD_xor, sel_xor, BitVec.ushiftRight_xor_distrib, xor4]

theorem L_zero : L 0#32 = 0#32 := by decide

/-- a map that takes sums to sums -/
def Lin (f : W32 → W32) : Prop := ∀ a b, f (a ^^^ b) = f a ^^^ f b

theorem Lin.zero {f : W32 → W32} (h : Lin f) : f 0#32 = 0#32 := by
  have := h 0#32 0#32
  simpa using this

theorem Lin.it {f : W32 → W32} (h : Lin f) : ∀ k, Lin (it f k)
  | 0 => fun _ _ => rfl
  | k + 1 => fun a b => by
    show CrcM.it f k (f (a ^^^ b)) = CrcM.it f k (f a) ^^^ CrcM.it f k (f b)
    rw [h, Lin.it h k]

theorem Lin.comp {f g : W32 → W32} (h : Lin f) (h' : Lin g) : Lin (fun x => f (g x)) := fun a b => by
  show f (g (a ^^^ b)) = f (g a) ^^^ f (g b)
  rw [h', h]

theorem lin_L : Lin L := L_xor

theorem L_even (n : W32) (h : n.getLsbD 0 = false) : L n = n >>> 1 := by
  rw [L_bit, h]; simp

/-- four bits at once, by a table of what each half of a byte comes to -/
theorem four (n : W32) : it L 4 n = (n >>> 4) ^^^ it L 4 (n &&& 15#32) := by
  have e : n = (n &&& ~~~15#32) ^^^ (n &&& 15#32) := by
    apply BitVec.eq_of_getLsbD_eq
    intro i hi
    simp only [BitVec.getLsbD_xor, BitVec.getLsbD_and, BitVec.getLsbD_not, hi, decide_true, Bool.true_and]
    cases n.getLsbD i <;> cases (15#32).getLsbD i <;> rfl
  have h : it L 4 (n &&& ~~~15#32) = n >>> 4 := by
    have hb : ∀ j, j < 4 → (n &&& ~~~15#32).getLsbD j = false := by
      intro j hj
      simp only [BitVec.getLsbD_and, BitVec.getLsbD_not]
      have : (15#32).getLsbD j = true := by
        match j, hj with
        | 0, _ => rfl
        | 1, _ => rfl
        | 2, _ => rfl
        | 3, _ => rfl
      simp [this]
    generalize hm : n &&& ~~~15#32 = m at hb
    show L (L (L (L m))) = _
    rw [L_even m (hb 0 (by omega)), L_even (m >>> 1) (by simpa using hb 1 (by omega)), L_even (m >>> 1 >>> 1) (by simpa using hb 2 (by omega)),
      L_even (m >>> 1 >>> 1 >>> 1) (by simpa using hb 3 (by omega))]
    rw [← BitVec.shiftRight_add, ← BitVec.shiftRight_add, ← BitVec.shiftRight_add]
    subst hm
    apply BitVec.eq_of_getLsbD_eq
    intro i hi
    simp only [BitVec.getLsbD_ushiftRight, BitVec.getLsbD_and, BitVec.getLsbD_not]
    by_cases hi' : 4 + i < 32
    · have : (15#32).getLsbD (4 + i) = false := by
        rw [show (15#32) = BitVec.ofNat 32 15 from rfl, BitVec.getLsbD_ofNat]
        have : Nat.testBit 15 (4 + i) = false := Nat.testBit_lt_two_pow (by
          calc 15 < 2 ^ 4 := by decide
            _ ≤ 2 ^ (4 + i) := Nat.pow_le_pow_right (by decide) (by omega))
        simp [this]
      show (n.getLsbD (4 + i) && (decide (4 + i < 32) && !(15#32).getLsbD (4 + i))) = n.getLsbD (4 + i)
      rw [this]; simp [hi']
    · have : n.getLsbD (4 + i) = false := BitVec.getLsbD_of_ge n _ (by omega)
      show (n.getLsbD (4 + i) && _) = n.getLsbD (4 + i)
      rw [this]; rfl
  conv => lhs; rw [e]
  rw [lin_L.it 4, h]

/-- a byte more -/
def byte (n : W32) (b : Nat) : W32 := it L 8 (n ^^^ BitVec.ofNat 32 b)

/-- bytes more, of a register as it stands between -/
def reg (n : W32) (l : List Nat) : W32 := l.foldl byte n

def more (sum : W32) (l : List Nat) : W32 := ~~~ reg (~~~ sum) l

theorem eight (n : W32) : it L 8 n = it L 4 (it L 4 n) := it_add L 4 4 n

theorem reg_snoc (n : W32) (l : List Nat) (b : Nat) : reg n (l ++ [b]) = byte (reg n l) b := by
  simp [reg, List.foldl_append]

theorem reg_append (n : W32) (l m : List Nat) : reg n (l ++ m) = reg (reg n l) m := by
  simp [reg, List.foldl_append]

/-- the exclusive or of the columns at which there is a 1, the first k -/
def times (m : Nat → W32) (n : W32) : Nat → W32
  | 0 => 0#32
  | k + 1 => times m n k ^^^ (if n.getLsbD k then m k else 0#32)

/-- a number's first k bits -/
theorem low_succ (n : W32) (k : Nat) (hk : k < 32) :
    n &&& BitVec.ofNat 32 (2 ^ (k + 1) - 1) = (n &&& BitVec.ofNat 32 (2 ^ k - 1)) ^^^ (if n.getLsbD k then 1#32 <<< k else 0#32) := by
  apply BitVec.eq_of_getLsbD_eq
  intro i hi
  have h1 : ∀ j, (BitVec.ofNat 32 (2 ^ j - 1)).getLsbD i = decide (i < j) := by
    intro j
    rw [BitVec.getLsbD_ofNat, Nat.testBit_two_pow_sub_one]; simp [hi]
  have h2 : (1#32 <<< k).getLsbD i = decide (i = k) := by
    simp only [BitVec.getLsbD_shiftLeft, BitVec.getLsbD_one, hi]
    by_cases h : i = k
    · subst h; simp
    · by_cases h' : i < k
      · simp [h', h]
      · have : ¬ i - k = 0 := by omega
        simp [h, this]
  cases hn : n.getLsbD k
  · simp only [BitVec.getLsbD_xor, BitVec.getLsbD_and, h1]
    by_cases h : i = k
    · subst h; simp [hn]
    · have : decide (i < k + 1) = decide (i < k) := by
        by_cases h' : i < k
        · simp [h']; omega
        · simp [h']; omega
      simp [this]
  · simp only [BitVec.getLsbD_xor, BitVec.getLsbD_and, h1, h2, if_true]
    by_cases h : i = k
    · subst h; simp [hn]
    · have : decide (i < k + 1) = decide (i < k) := by
        by_cases h' : i < k
        · simp [h']; omega
        · simp [h']; omega
      simp [this, h]

theorem times_low {f : W32 → W32} (hf : Lin f) {m : Nat → W32} (hm : ∀ i, i < 32 → m i = f (1#32 <<< i)) (n : W32) :
    ∀ k, k ≤ 32 → times m n k = f (n &&& BitVec.ofNat 32 (2 ^ k - 1))
  | 0, _ => by simp [times, hf.zero]
  | k + 1, hk => by
    rw [times, times_low hf hm n k (by omega), low_succ n k (by omega), hf, hm k (by omega)]
    cases n.getLsbD k <;> simp [hf.zero]

theorem times_all {f : W32 → W32} (hf : Lin f) {m : Nat → W32} (hm : ∀ i, i < 32 → m i = f (1#32 <<< i)) (n : W32) : times m n 32 = f n := by
  rw [times_low hf hm n 32 (by omega)]
  congr 1
  apply BitVec.eq_of_getLsbD_eq
  intro i hi
  rw [BitVec.getLsbD_and, BitVec.getLsbD_ofNat, Nat.testBit_two_pow_sub_one]; simp [hi]

/-- A matrix's columns are what a linear map makes of the single bits. -/
def Rep (m : Nat → W32) (f : W32 → W32) : Prop := Lin f ∧ ∀ i, i < 32 → m i = f (1#32 <<< i)

theorem Rep.times {m : Nat → W32} {f : W32 → W32} (h : Rep m f) (n : W32) : times m n 32 = f n := times_all h.1 h.2 n

theorem Rep.sq {m : Nat → W32} {f : W32 → W32} (h : Rep m f) : Rep (fun i => CrcM.times m (m i) 32) (fun x => f (f x)) :=
  ⟨h.1.comp h.1, fun i hi => by
    show CrcM.times m (m i) 32 = f (f (1#32 <<< i))
    rw [h.times, h.2 i hi]⟩

theorem it_two {α : Type} (f : α → α) (k : Nat) (x : α) : it (fun x => f (f x)) k x = it f (2 * k) x := by
  have : (fun x => f (f x)) = it f 2 := rfl
  rw [this, it_mul]

theorem it_half_even {α : Type} (f : α → α) (j : Nat) (h : j % 2 = 0) (x : α) : it (fun x => f (f x)) (j / 2) x = it f j x := by
  rw [it_two]; congr 1; omega

theorem it_half_odd {α : Type} (f : α → α) (j : Nat) (h : j % 2 = 1) (x : α) : it (fun x => f (f x)) (j / 2) (f x) = it f j x := by
  rw [it_two]
  show it f (2 * (j / 2) + 1) x = it f j x
  congr 1; omega

/-- Two sums, one behind the other. -/
def join (first second : W32) (n : Nat) : W32 := it (it L 8) n first ^^^ second

end CrcM
