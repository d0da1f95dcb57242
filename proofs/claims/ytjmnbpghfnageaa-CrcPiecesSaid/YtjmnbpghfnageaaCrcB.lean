/- The walks of the checksum, continued: sums over a slice, a matrix times a number. -/
import Derived.Test.YtjmnbpghfnageaaCrcA
namespace Go.Proofs.Ytjmnbpghfnageaa
open Go.RowKit CrcM

theorem tabHbelow (w : World) : Below w.heap.size w ((w.alloc (.cells tabH 96)).alloc (.cells tabH 96)) :=
  ((Below.refl _ _).alloc (Nat.le_refl _) _).alloc (by rw [size_alloc]; omega) _

set_option maxRecDepth 100000 in
set_option maxHeartbeats 1000000 in
theorem more_none (a : Option Addr) (cap : Nat) (sum : BitVec 32) (w : World) :
   Calls Try.prog 29 #[.int .u32 sum.toNat, .slice a 0 cap] w fun e w' => e = .returned (.int .u32 ((more sum []).toNat : Int)) ∧ Below w.heap.size w w' := by
  have h96 : (Try.prog.info? 96).map (·.size) = some 16 := by kernel_rfl
  go_enter Try.func29, Try.ntmps29
  go_wp2_with (first | (go_at_call 48; refine (half_any _).mono ?_; rintro e w' ⟨rfl, rfl⟩) | (refine wpList_store_agg rfl 96 _ _ rfl (w.heap.size + 1) rfl _ rfl 96 _ (heap_alloc2_new _ _ _) h96 (by rw [tabTo_size]; rfl) (tabTo_one _ _ _) ?_; rw [setRow_alloc2]))
  have hW := tabHbelow w
  generalize (w.alloc (.cells tabH 96)).alloc (.cells tabH 96) = W at hW ⊢
  obtain ⟨s, hs⟩ : ∃ s, s = ~~~sum := ⟨_, rfl⟩
  have Hs := Lib.hid hs
  clear hs
  go_loop [6, 14] (fun n i => i = .int .i64 0 ∧ n = .int .u32 (s.toNat : Int)) (fun _ _ => 0)
  case atStart => exact ⟨rfl, int_eq (by rw [Hs.out]; exact not_max sum)⟩
  case round =>
    obtain ⟨rfl, rfl⟩ := hrel
    go_wp2
    go_ret
    refine ⟨ret_int ?_, hW⟩
    rw [show more sum [] = ~~~s from by rw [Hs.out]; rfl]
    exact not_max s

theorem more_seg (v : Value) (l : List UInt8) (sum : BitVec 32) (w : World) (hl : l.length ≤ 9223372036854775807) (hv : Seg w v l) :
   Calls Try.prog 29 #[.int .u32 sum.toNat, v] w fun e w' => e = .returned (.int .u32 ((more sum (nats l)).toNat : Int)) ∧ Below w.heap.size w w' := by
  obtain ⟨a, cap, rfl, _, h⟩ := hv
  rcases h with rfl | ⟨b, off, rfl, hb, hc⟩
  · exact more_none a cap sum w
  · exact (more_some b off cap l sum w hl hc hb).mono fun e w' ⟨he, hw⟩ => ⟨he, by rw [hw]; exact tabHbelow w⟩

set_option maxHeartbeats 400000 in
theorem sum_seg (v : Value) (l : List UInt8) (w : World) (hl : l.length ≤ 9223372036854775807) (hv : Seg w v l) :
   Calls Try.prog 28 #[v] w fun e w' => e = .returned (.int .u32 ((more 0#32 (nats l)).toNat : Int)) ∧ Below w.heap.size w w' := by
  have h := more_seg v l 0#32 w hl hv
  go_enter Try.func28, Try.ntmps28
  go_wp2_with fail
  refine Calls.mono (R := fun e w' => e = .returned (.int .u32 ((more 0#32 (nats l)).toNat : Int)) ∧ Below w.heap.size w w') h ?_
  rintro e w' ⟨rfl, hb⟩
  clear h
  go_wp2
  go_ret
  exact ⟨rfl, hb⟩

abbrev mat (m : Nat → BitVec 32) : Array Value := tabTo m 32 32

theorem mat_at (m : Nat → BitVec 32) (k : Nat) (h : k < 32) : (mat m)[k]? = some (.int .u32 ((m k).toNat : Int)) := by
  rw [tabTo_at _ _ _ _ h, if_pos h]

/-- What is left of a number behind k shifts tells bit k. -/
theorem shr_bit (n : BitVec 32) (k : Nat) : (n >>> k) &&& 1#32 = if n.getLsbD k then 1#32 else 0#32 := by
  rw [and1, BitVec.getLsbD_ushiftRight]; rfl

theorem ne_zero_iff (x : BitVec 32) : ((x.toNat : Int) != 0) = decide (x ≠ 0#32) := by
  rw [Bool.eq_iff_iff, bne_iff_ne, decide_eq_true_iff, ne_eq, ne_eq, ← BitVec.toNat_inj]
  show ¬ (x.toNat : Int) = 0 ↔ ¬ x.toNat = 0
  omega

theorem times_step (m : Nat → BitVec 32) (n : BitVec 32) (k : Nat) (h : n.getLsbD k = true) : times m n (k + 1) = times m n k ^^^ m k := by
  rw [times, if_pos h]

theorem times_skip (m : Nat → BitVec 32) (n : BitVec 32) (k : Nat) (h : n.getLsbD k = false) : times m n (k + 1) = times m n k := by
  rw [times, h]; simp

theorem times_rest (m : Nat → BitVec 32) (n : BitVec 32) (k : Nat) (h : n >>> k = 0#32) : ∀ d, times m n (k + d) = times m n k
  | 0 => rfl
  | d + 1 => by
    rw [← Nat.add_assoc, times_skip, times_rest m n k h d]
    have := congrArg (fun x : BitVec 32 => x.getLsbD d) h
    simpa [BitVec.getLsbD_ushiftRight] using this

theorem shr_zero (n : BitVec 32) : n >>> 32 = 0#32 := by
  apply BitVec.eq_of_getLsbD_eq
  intro i hi
  rw [BitVec.getLsbD_ushiftRight, BitVec.getLsbD_of_ge n _ (by omega)]; simp

set_option maxHeartbeats 1000000 in
theorem of_any (m : Nat → BitVec 32) (n : BitVec 32) (w : World) :
   Calls Try.prog 53 #[.agg (mat m), .int .u32 n.toNat] w fun e w' => e = .returned (.int .u32 ((times m n 32).toNat : Int)) ∧ w' = w.alloc (.cells (mat m) 100) := by
  go_enter Try.func53, Try.ntmps53
  go_wp2_with fail
  obtain ⟨W, hW⟩ : ∃ W, W = w.alloc (.cells (mat m) 100) := ⟨_, rfl⟩
  rw [← hW]
  have hcW : At W w.heap.size (mat m) 100 := by rw [hW]; exact At.new _ _ _
  have HW := Lib.hid hW
  clear hW
  go_loop [1, 5, 6] (fun x o i => ∃ k : Nat, k ≤ 32 ∧ x = .int .u32 ((n >>> k).toNat : Int) ∧ o = .int .u32 ((times m n k).toNat : Int) ∧ i = .int .i64 k) (fun _ _ i => 32 - (intOf i).toNat)
  case atStart => exact ⟨0, by omega, by simp, rfl, rfl⟩
  case round =>
    obtain ⟨k, hk, rfl, rfl, rfl⟩ := hrel
    have hn := ne_zero_iff (n >>> k)
    have ha : bits .and .u32 ((n >>> k).toNat : Int) 1 = (((n >>> k) &&& 1#32).toNat : Int) := bits_andl _ 1 (by decide) (by decide)
    have hs : ((n >>> k).toNat : Int) / 2 = ((n >>> (k + 1)).toNat : Int) := by rw [half2, BitVec.shiftRight_add]
    by_cases hz : n >>> k = 0#32
    · rw [show decide (n >>> k ≠ 0#32) = false by simp [hz]] at hn
      have hr : times m n 32 = times m n k := by
        have := times_rest m n k hz (32 - k)
        rwa [show k + (32 - k) = 32 by omega] at this
      have Hr := Lib.hid hr
      clear hr ha hs hz
      generalize n >>> k = y at *
      go_wp2
      go_ret
      exact ⟨ret_int (by rw [Hr.out]), HW.out⟩
    · rw [show decide (n >>> k ≠ 0#32) = true by simp [hz]] at hn
      have hlt : k < 32 := by
        rcases Nat.lt_or_ge k 32 with h | h
        · exact h
        · obtain rfl : k = 32 := by omega
          exact absurd (shr_zero n) hz
      have hcell := (hcW.cell k).trans (mat_at m k hlt)
      rw [shr_bit] at ha
      clear hz
      cases hb : n.getLsbD k
      · rw [hb] at ha
        have ha' : bits .and .u32 ((n >>> k).toNat : Int) 1 = 0 := ha
        have Hb := Lib.hid hb
        clear ha hb
        have Hr := Lib.hid (times_skip m n k Hb.out)
        have Hs := Lib.hid hs
        clear hs
        generalize n >>> k = y at *
        go_wp2
        go_round
        case rel => exact ⟨k + 1, by omega, int_eq Hs.out, int_eq (by rw [Hr.out]), by go_num⟩
        case measure => simp [intOf]; omega
      · rw [hb] at ha
        have ha' : bits .and .u32 ((n >>> k).toNat : Int) 1 = 1 := ha
        have Hb := Lib.hid hb
        clear ha hb
        have Hr := Lib.hid (times_step m n k Hb.out)
        have Hs := Lib.hid hs
        clear hs
        generalize n >>> k = y at *
        go_wp2
        go_round
        case rel => exact ⟨k + 1, by omega, int_eq Hs.out, int_eq (by rw [Hr.out]; exact bits_xor _ _), by go_num⟩
        case measure => simp [intOf]; omega

end Go.Proofs.Ytjmnbpghfnageaa
