/- The walks of the checksum's small functions: numbers of 32 bits as bit vectors. -/
import Derived.Test.YtjmnbpghfnageaaRows
import Derived.Test.YtjmnbpghfnageaaCrcMath
import Derived.Test.YtjmnbpghfnageaaBlk
import Derived.WalkKit
import Derived.WalkSpells
import Derived.WalkLawsBesides
import Derived.Lib.Hide
namespace Go.Proofs.Ytjmnbpghfnageaa
open Go.RowKit CrcM

theorem of32 (a : BitVec 32) : BitVec.ofInt 32 (a.toNat : Int) = a := by
  rw [BitVec.ofInt_natCast]; simp

theorem wrap32u (a : BitVec 32) : IntKind.u32.wrap (a.toNat : Int) = (a.toNat : Int) := by
  rw [IntKind.wrap_u32']
  have := a.isLt
  omega

theorem bits_xor (a b : BitVec 32) : bits .xor .u32 (a.toNat : Int) (b.toNat : Int) = ((a ^^^ b).toNat : Int) := by
  have := of32 a
  have h2 := of32 b
  simp only [bits, IntKind.bits, this, h2]
  exact wrap32u _

theorem bits_xorl (a : BitVec 32) (b : Int) (hb : 0 ≤ b) (hb' : b < 4294967296) : bits .xor .u32 (a.toNat : Int) b = ((a ^^^ BitVec.ofNat 32 b.toNat).toNat : Int) := by
  have h : b = ((BitVec.ofNat 32 b.toNat).toNat : Int) := by
    rw [BitVec.toNat_ofNat]; omega
  conv => lhs; rw [h]
  exact bits_xor a _

theorem bits_and (a b : BitVec 32) : bits .and .u32 (a.toNat : Int) (b.toNat : Int) = ((a &&& b).toNat : Int) := by
  have := of32 a
  have h2 := of32 b
  simp only [bits, IntKind.bits, this, h2]
  exact wrap32u _

theorem bits_andl (a : BitVec 32) (b : Int) (hb : 0 ≤ b) (hb' : b < 4294967296) : bits .and .u32 (a.toNat : Int) b = ((a &&& BitVec.ofNat 32 b.toNat).toNat : Int) := by
  have h : b = ((BitVec.ofNat 32 b.toNat).toNat : Int) := by
    rw [BitVec.toNat_ofNat]; omega
  conv => lhs; rw [h]
  exact bits_and a _

theorem half2 (a : BitVec 32) : (a.toNat : Int) / (2 : Int) = ((a >>> 1).toNat : Int) := by
  rw [BitVec.toNat_ushiftRight, Nat.shiftRight_eq_div_pow]; rfl

theorem half16 (a : BitVec 32) : (a.toNat : Int) / (16 : Int) = ((a >>> 4).toNat : Int) := by
  rw [BitVec.toNat_ushiftRight, Nat.shiftRight_eq_div_pow]; rfl

theorem and_one_is (a : BitVec 32) : (bits .and .u32 (a.toNat : Int) 1 == 1) = decide (a &&& 1#32 = 1#32) := by
  rw [bits_andl a 1 (by decide) (by decide)]
  rw [Bool.eq_iff_iff, beq_iff_eq, decide_eq_true_iff, ← BitVec.toNat_inj]
  show ((a &&& 1#32).toNat : Int) = 1 ↔ (a &&& 1#32).toNat = 1
  omega

theorem L_one (x : BitVec 32) (h : (bits BinOp.and IntKind.u32 (x.toNat : Int) 1 == 1) = true) :
    bits BinOp.xor IntKind.u32 ((x.toNat : Int) / 2) 2197175160 = ((L x).toNat : Int) := by
  rw [and_one_is, decide_eq_true_iff] at h
  rw [half2, bits_xorl _ _ (by decide) (by decide), L, if_pos h]; rfl

theorem L_not (x : BitVec 32) (h : (bits BinOp.and IntKind.u32 (x.toNat : Int) 1 == 1) = false) :
    (x.toNat : Int) / 2 = ((L x).toNat : Int) := by
  rw [and_one_is, decide_eq_false_iff_not] at h
  rw [half2, L, if_neg h]

set_option maxHeartbeats 400000 in
theorem through_any (n : BitVec 32) (m : Nat) (hm : m ≤ 8) (w : World) 
   : Calls Try.prog 50 #[.int .u32 n.toNat, .int .i64 m] w fun e w' => e = .returned (.int .u32 (it L m n).toNat) ∧ w = w' := by
  go_enter Try.func50, Try.ntmps50
  go_wp2_with fail
  go_loop [0, 5] (fun t i => ∃ (k : Nat) , k ≤ m ∧ i = .int .i64 k ∧ t = .int .u32 (it L k n).toNat) (fun _ i => m - (intOf i).toNat)
  case atStart => exact ⟨0, Nat.zero_le _, rfl, rfl⟩
  case round =>
    obtain ⟨k, hk, rfl, rfl⟩ := hrel
    by_cases hlt : k < m
    · go_wp2
      all_goals go_round
      case rel h => exact ⟨k + 1, by omega, by go_num, int_eq (by rw [it_succ']; exact L_one _ h)⟩
      case measure => simp [intOf]; omega
      case rel h => exact ⟨k + 1, by omega, by go_num, int_eq (by rw [it_succ']; exact L_not _ h)⟩
      case measure => simp [intOf]; omega
    · go_wp2
      go_ret
      exact ⟨ret_int (by rw [show k = m from by omega]), rfl⟩

/-- a table of many numbers of 32 bits, of which the first k are laid -/
def tabTo (f : Nat → BitVec 32) (n k : Nat) : Array Value := ((List.range n).map fun i => Value.int .u32 (if i < k then ((f i).toNat : Int) else 0)).toArray

theorem tabTo_size (f : Nat → BitVec 32) (n k : Nat) : (tabTo f n k).size = n := by simp [tabTo]

theorem tabTo_at (f : Nat → BitVec 32) (n k i : Nat) (h : i < n) : (tabTo f n k)[i]? = some (.int .u32 (if i < k then ((f i).toNat : Int) else 0)) := by
  simp [tabTo, h]

theorem tabTo_set (f : Nat → BitVec 32) (n k : Nat) : (tabTo f n k).setIfInBounds k (.int .u32 ((f k).toNat : Int)) = tabTo f n (k + 1) := by
  apply Array.ext_getElem?
  intro i
  rw [Array.getElem?_setIfInBounds]
  by_cases h : i < n
  · rw [tabTo_at f n (k + 1) i h, tabTo_at f n k i h, tabTo_size]
    by_cases hk : k = i
    · subst hk; simp [h]
    · simp only [hk, if_false]
      by_cases h' : i < k
      · simp [h', show i < k + 1 by omega]
      · simp [h', show ¬ i < k + 1 by omega]
  · have h1 : (tabTo f n (k + 1))[i]? = none := by rw [Array.getElem?_eq_none]; rw [tabTo_size]; omega
    have h2 : (tabTo f n k)[i]? = none := by rw [Array.getElem?_eq_none]; rw [tabTo_size]; omega
    rw [h1, h2, tabTo_size]
    by_cases hk : k = i
    · subst hk; simp [h]
    · simp [hk]

theorem tabTo_one (f : Nat → BitVec 32) (n k : Nat) : (tabTo f n k).all (·.oneCell') = true := by
  rw [Array.all_eq_true_iff_forall_mem]
  intro v hv
  simp only [tabTo, List.mem_toArray, List.mem_map] at hv
  obtain ⟨i, _, rfl⟩ := hv
  rfl


theorem L4_at (x : BitVec 32) (a : Int) (h : a = (bits BinOp.xor IntKind.u32 ((x.toNat : Int) / 2) (IntKind.u32.wrap (2197175160 * bits BinOp.and IntKind.u32 (x.toNat : Int) 1)))) : a = ((L x).toNat : Int) := by
  subst h
  rw [L_bit, bits_andl x 1 (by decide) (by decide)]
  have e := and1 x
  rw [show BitVec.ofNat 32 (1 : Int).toNat = 1#32 from rfl, e]
  cases x.getLsbD 0
  · have : IntKind.u32.wrap (2197175160 * (((if false = true then 1#32 else 0#32) : BitVec 32).toNat : Int)) = 0 := by decide
    rw [this, half2, bits_xorl _ _ (by decide) (by decide)]; rfl
  · have : IntKind.u32.wrap (2197175160 * (((if true = true then 1#32 else 0#32) : BitVec 32).toNat : Int)) = 2197175160 := by decide
    rw [this, half2, bits_xorl _ _ (by decide) (by decide)]; rfl

set_option maxHeartbeats 400000 in
theorem half_any (w : World) 
   : Calls Try.prog 48 #[] w fun e w' => e = .returned (.agg (tabTo (fun i => it L 4 (BitVec.ofNat 32 i)) 16 16)) ∧ w' = w.alloc (.cells (tabTo (fun i => it L 4 (BitVec.ofNat 32 i)) 16 16) 96) := by
  go_enter Try.func48, Try.ntmps48
  go_wp2_with fail
  go_loopw [3] (fun i wr => ∃ (k : Nat) , k ≤ 16 ∧ i = .int .i64 k ∧ wr = w.alloc (.cells (tabTo (fun i => it L 4 (BitVec.ofNat 32 i)) 16 k) 96)) (fun i _ => 16 - (intOf i).toNat)
  case atStart => exact ⟨0, Nat.zero_le _, rfl, rfl⟩
  case round =>
    obtain ⟨k, hk, rfl, rfl⟩ := hrel
    by_cases hlt : k < 16
    · have htab := tabTo_at (fun i => it L 4 (BitVec.ofNat 32 i)) 16 k k hlt
      rw [if_neg (by omega)] at htab
      have hkk : (k : Int) = ((BitVec.ofNat 32 k).toNat : Int) := by rw [BitVec.toNat_ofNat]; omega
      have Hkk := Lib.hid hkk
      clear hkk
      go_wp2
      go_loop [2, 8] (fun t i => ∃ (j : Nat) , j ≤ 4 ∧ i = .int .i64 j ∧ t = .int .u32 (it L j (BitVec.ofNat 32 k)).toNat) (fun _ i => 4 - (intOf i).toNat)
      case atStart => exact ⟨0, by omega, rfl, int_eq Hkk.out⟩
      case round =>
        obtain ⟨j, hj, rfl, rfl⟩ := hrel
        by_cases hjl : j < 4
        · go_wp2
          go_round
          case rel => exact ⟨j + 1, by omega, by go_num, int_eq (by rw [it_succ']; exact L4_at _ _ rfl)⟩
          case measure => simp [intOf]; omega
        · obtain rfl : j = 4 := by omega
          go_wp2
          go_roundw
          case rel => exact ⟨k + 1, by omega, by go_num, by rw [← tabTo_set]⟩
          case measure => simp [intOf]; omega
    · obtain rfl : k = 16 := by omega
      have h96 : (Try.prog.info? 96).map (·.size) = some 16 := by kernel_rfl
      go_wp2_with (first | (refine wpList_load_row rfl 96 _ rfl w.heap.size rfl 96 _ (0,0) _ (heap_alloc_new _ _) Try.underlying96 rfl h96 ?_) | (refine wpList_store_agg rfl 96 _ _ rfl w.heap.size rfl _ rfl 96 _ (heap_alloc_new _ _) h96 (by rw [tabTo_size]) (tabTo_one _ _ _) ?_))
      rw [World.setRow_alloc_new]
      exact bodyPost_ret (results_cell_row (p := 0) (ty := 96) rfl _ _ w.heap.size 96 _ (0,0) _ rfl (heap_alloc_new _ _) Try.underlying96 rfl h96) rfl ⟨rfl, rfl⟩
abbrev tabH : Array Value := tabTo (fun i => it L 4 (BitVec.ofNat 32 i)) 16 16

theorem idx15 (y : BitVec 32) : bits .and .u32 (y.toNat : Int) 15 = ((y.toNat % 16 : Nat) : Int) := by
  rw [bits_andl y 15 (by decide) (by decide), BitVec.toNat_and]
  show ((y.toNat &&& 15 : Nat) : Int) = _
  rw [nat_mask4]

theorem tabH_at (y : BitVec 32) : tabH[y.toNat % 16]? = some (.int .u32 ((it L 4 (y &&& 15#32)).toNat : Int)) := by
  rw [tabTo_at _ 16 16 _ (Nat.mod_lt _ (by decide)), if_pos (Nat.mod_lt _ (by decide))]
  have : BitVec.ofNat 32 (y.toNat % 16) = y &&& 15#32 := by
    apply BitVec.eq_of_toNat_eq
    rw [BitVec.toNat_and, BitVec.toNat_ofNat]
    show y.toNat % 16 % 4294967296 = y.toNat &&& 15
    rw [nat_mask4]; omega
  rw [this]

theorem not_max (s : BitVec 32) : bits .xor .u32 IntKind.u32.max (s.toNat : Int) = ((~~~s).toNat : Int) := by
  have h : IntKind.u32.max = ((BitVec.allOnes 32).toNat : Int) := by decide
  rw [h, bits_xor, BitVec.allOnes_xor]

theorem xor_byte (n : BitVec 32) (u : UInt8) : bits .xor .u32 (n.toNat : Int) (u.toNat : Int) = ((n ^^^ BitVec.ofNat 32 u.toNat).toNat : Int) := by
  have h : ((u.toNat : Nat) : Int) = ((BitVec.ofNat 32 u.toNat).toNat : Int) := by
    rw [BitVec.toNat_ofNat]
    have := u.toNat_lt
    omega
  conv => lhs; rw [h]
  exact bits_xor _ _

theorem four_at (y : BitVec 32) : bits .xor .u32 ((y.toNat : Int) / 16) ((it L 4 (y &&& 15#32)).toNat : Int) = ((it L 4 y).toNat : Int) := by
  rw [half16, bits_xor, ← four]

set_option maxRecDepth 100000 in
set_option maxHeartbeats 1000000 in
theorem more_some (b off cap : Nat) (l : List UInt8) (sum : BitVec 32) (w : World) (hl : l.length ≤ 9223372036854775807)
   (hc : ∀ j (h : j < l.length), w.cell? ⟨b, off + j, none⟩ = some (.int .u8 ((l[j].toNat : Nat) : Int))) (hb : b < w.heap.size) :
   Calls Try.prog 29 #[.int .u32 sum.toNat, .slice (some ⟨b, off, none⟩) l.length cap] w fun e w' => e = .returned (.int .u32 ((more sum (nats l)).toNat : Int)) ∧ w' = (w.alloc (.cells tabH 96)).alloc (.cells tabH 96) := by
  have h96 : (Try.prog.info? 96).map (·.size) = some 16 := by kernel_rfl
  go_enter Try.func29, Try.ntmps29
  go_wp2_with (first | (go_at_call 48; refine (half_any _).mono ?_; rintro e w' ⟨rfl, rfl⟩) | (refine wpList_store_agg rfl 96 _ _ rfl (w.heap.size + 1) rfl _ rfl 96 _ (heap_alloc2_new _ _ _) h96 (by rw [tabTo_size]; rfl) (tabTo_one _ _ _) ?_; rw [setRow_alloc2]))
  obtain ⟨W, hW⟩ : ∃ W, W = (w.alloc (.cells tabH 96)).alloc (.cells tabH 96) := ⟨_, rfl⟩
  rw [← hW]
  have hcW : ∀ j (h : j < l.length), W.cell? ⟨b, off + j, none⟩ = some (.int .u8 ((l[j].toNat : Nat) : Int)) := by
    intro j h
    rw [hW, cell_two_old w _ _ b _ hb]
    exact hc j h
  have htW : ∀ y : BitVec 32, W.cell? ⟨w.heap.size + 1, y.toNat % 16, none⟩ = some (.int .u32 ((it L 4 (y &&& 15#32)).toNat : Int)) := by
    intro y
    rw [hW, cell_of_row _ _ _ _ _ _ (heap_alloc2_new _ _ _)]
    exact tabH_at y
  have HW := Lib.hid hW
  clear hW hc
  go_loop [6, 14] (fun n i => ∃ k : Nat, k ≤ l.length ∧ i = .int .i64 k ∧ n = .int .u32 ((reg (~~~sum) (nats (l.take k))).toNat : Int)) (fun _ i => l.length - (intOf i).toNat)
  case atStart => exact ⟨0, Nat.zero_le _, rfl, int_eq (not_max sum)⟩
  case round =>
    obtain ⟨k, hk, rfl, rfl⟩ := hrel
    by_cases hlt : k < l.length
    · have hck := hcW k hlt
      have hsn : reg (~~~sum) (nats (l.take (k + 1))) = byte (reg (~~~sum) (nats (l.take k))) l[k].toNat := by rw [nats_take l k hlt, reg_snoc]
      have Hsn := Lib.hid hsn
      clear hsn hcW
      generalize reg (~~~sum) (nats (l.take k)) = n at Hsn ⊢
      have hx := xor_byte n l[k]
      obtain ⟨y, hy⟩ : ∃ y, y = n ^^^ BitVec.ofNat 32 l[k].toNat := ⟨_, rfl⟩
      rw [← hy] at hx
      have Hy := Lib.hid hy
      clear hy
      obtain ⟨z, hz⟩ : ∃ z, z = it L 4 y := ⟨_, rfl⟩
      have hi1 := idx15 y
      have ht1 := htW y
      have hf1 := four_at y
      have hi2 := idx15 z
      have ht2 := htW z
      have hf2 := four_at z
      rw [← hz] at hf1
      have Hz := Lib.hid hz
      clear hz htW
      have hmod : ((l[k].toNat : Nat) : Int) % 4294967296 = ((l[k].toNat : Nat) : Int) := by
        have := l[k].toNat_lt
        omega
      have hm1 : y.toNat % 16 < 16 := Nat.mod_lt _ (by decide)
      have hm2 : z.toNat % 16 < 16 := Nat.mod_lt _ (by decide)
      generalize y.toNat % 16 = iy at hi1 ht1 hm1
      generalize z.toNat % 16 = iz at hi2 ht2 hm2
      generalize it L 4 (y &&& 15#32) = ty at ht1 hf1
      generalize it L 4 (z &&& 15#32) = tz at ht2 hf2
      go_wp2
      go_round
      case rel => exact ⟨k + 1, by omega, by go_num, int_eq (by rw [Hsn.out, byte, eight, ← Hy.out, ← Hz.out])⟩
      case measure => simp [intOf]; omega
    · go_wp2
      go_ret
      refine ⟨ret_int ?_, HW.out⟩
      rw [show k = l.length from by omega, List.take_length]
      exact not_max _
end Go.Proofs.Ytjmnbpghfnageaa
