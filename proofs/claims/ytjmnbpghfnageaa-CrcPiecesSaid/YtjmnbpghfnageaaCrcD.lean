/- The walks of the checksum, continued: the matrix of one nought, the join. -/
import Derived.Test.YtjmnbpghfnageaaCrcC
namespace Go.Proofs.Ytjmnbpghfnageaa
open Go.RowKit CrcM

theorem info96 : (Try.prog.info? 96).map (·.size) = some 16 := by kernel_rfl

def cols (f : BitVec 32 → BitVec 32) : Nat → BitVec 32 := fun i => f (1#32 <<< i)

theorem rep_cols {f : BitVec 32 → BitVec 32} (h : Lin f) : Rep (cols f) f := ⟨h, fun _ _ => rfl⟩

def NoInv (w wr : World) (k : Nat) : Prop :=
  At wr w.heap.size (tabTo (cols (it L 8)) 32 k) 100 ∧ At wr (w.heap.size + 2) tabH 96 ∧ Below w.heap.size w wr

theorem NoInv.step {w wr : World} {k : Nat} (h : NoInv w wr k) :
    NoInv w (wr.setCell ⟨w.heap.size, k, none⟩ (.int .u32 ((cols (it L 8) k).toNat : Int))) (k + 1) := by
  obtain ⟨h1, h2, h3⟩ := h
  refine ⟨?_, h2.setOther (by simp) _, h3.setCell (by simp) _⟩
  rw [← tabTo_set]
  exact h1.set k _

theorem one_shl (k : Nat) : IntKind.u32.wrap (1 * 2 ^ k) = ((1#32 <<< k).toNat : Int) := by
  rw [IntKind.wrap_u32', BitVec.toNat_shiftLeft, Int.one_mul]
  show (2 : Int) ^ k % 4294967296 = ((1 % 2 ^ 32) <<< k % 2 ^ 32 : Nat)
  rw [Nat.shiftLeft_eq]
  simp

set_option maxRecDepth 100000 in
set_option maxHeartbeats 1000000 in
theorem nought_any (w : World) :
   Calls Try.prog 51 #[] w fun e w' => e = .returned (.agg (mat (cols (it L 8)))) ∧ Below w.heap.size w w' := by
  go_enter Try.func51, Try.ntmps51
  go_wp2_with (first | (go_at_call 48; refine (half_any _).mono ?_; rintro e w' ⟨rfl, rfl⟩) | (refine wpList_store_agg rfl 96 _ _ rfl (w.heap.size + 2) rfl _ rfl 96 _ (At.new3 _ _ _ _ _) info96 (by rw [tabTo_size]; rfl) (tabTo_one _ _ _) ?_))
  go_loopw [5] (fun i wr => ∃ k : Nat, k ≤ 32 ∧ i = .int .i64 k ∧ NoInv w wr k) (fun i _ => 32 - (intOf i).toNat)
  case atStart =>
    refine ⟨0, by omega, rfl, ?_, ?_, ?_⟩
    · exact (((At.new _ _ _).alloc _).alloc _).rowOther (by omega) _
    · exact At.row (At.new3 _ _ _ _ _) _
    · exact below_setRow ((((Below.refl _ _).alloc (Nat.le_refl _) _).alloc (by rw [size_alloc]; omega) _).alloc (by rw [size_alloc, size_alloc]; omega) _) (by omega) _
  case round =>
    obtain ⟨k, hk, rfl, hinv⟩ := hrel
    by_cases hlt : k < 32
    · have hstep := Lib.hid hinv.step
      have hc := hinv.1.cell k
      rw [tabTo_at _ _ _ _ hlt, if_neg (by omega)] at hc
      have hf := hinv.1.free k
      have htW : ∀ y : BitVec 32, wr.cell? ⟨w.heap.size + 2, y.toNat % 16, none⟩ = some (.int .u32 ((it L 4 (y &&& 15#32)).toNat : Int)) := fun y => (hinv.2.1.cell _).trans (tabH_at y)
      have hsh := one_shl k
      clear hinv
      have Hc : Hid (cols (it L 8) k = it L 4 (it L 4 (1#32 <<< k))) := by
        show it L 8 _ = _
        rw [eight]
      rw [Int.one_mul] at hsh
      generalize (1#32 <<< k : BitVec 32) = y at *
      obtain ⟨z, hz⟩ : ∃ z, z = it L 4 y := ⟨_, rfl⟩
      have hi1 := idx15 y
      have ht1 := htW y
      have hf1 := four_at y
      have hi2 := idx15 z
      have ht2 := htW z
      have hf2 := four_at z
      rw [← hz] at hf1
      have Hz := Lib.hid hz
      clear hz htW
      have hm1 : y.toNat % 16 < 16 := Nat.mod_lt _ (by decide)
      have hm2 : z.toNat % 16 < 16 := Nat.mod_lt _ (by decide)
      generalize y.toNat % 16 = iy at hi1 ht1 hm1
      generalize z.toNat % 16 = iz at hi2 ht2 hm2
      generalize it L 4 (y &&& 15#32) = ty at ht1 hf1
      generalize it L 4 (z &&& 15#32) = tz at ht2 hf2
      go_wp2
      go_roundw
      case rel => exact ⟨k + 1, by omega, by go_num, by have h := hstep.out; rw [Hc.out, ← Hz.out] at h; exact h⟩
      case measure => simp [intOf]; omega
    · obtain rfl : k = 32 := by omega
      obtain ⟨h1, h2, h3⟩ := hinv
      go_wp2_with (first | (refine wpList_load_row rfl 100 _ rfl (w.heap.size) rfl 100 _ (0,0) _ h1 Try.underlying100 rfl info100 ?_) | (refine wpList_store_agg rfl 100 _ _ rfl (w.heap.size) rfl _ rfl 100 _ h1 info100 (by rw [tabTo_size]) (tabTo_one _ _ _) ?_))
      exact bodyPost_ret (results_cell_row (p := 0) (ty := 100) rfl _ _ (w.heap.size) 100 _ (0,0) _ rfl (h1.row _) Try.underlying100 rfl info100) rfl ⟨rfl, below_setRow h3 (by omega) _⟩

theorem i64_and1 (n : Int) : bits .and .i64 n 1 = n % 2 := by
  have h1 : (BitVec.ofInt 64 1).toNat = 2 ^ 1 - 1 := by decide
  have key : (BitVec.ofInt 64 n &&& BitVec.ofInt 64 1).toNat = (n % ((2 ^ 64 : Nat) : Int)).toNat % 2 ^ 1 := by
    rw [BitVec.toNat_and, BitVec.toNat_ofInt, h1, Nat.and_two_pow_sub_one_eq_mod]
  show IntKind.i64.wrap ((BitVec.ofInt 64 n &&& BitVec.ofInt 64 1).toNat : Nat) = n % 2
  rw [key, IntKind.wrap_i64]
  omega

/-- The round of 'Join': the matrix in its block. -/
def JoInv (first : BitVec 32) (N : Nat) (w wr : World) (x : BitVec 32) (j g : Nat) : Prop :=
  w.heap.size ≤ g ∧ Below w.heap.size w wr ∧ ∃ m f, At wr g (mat m) 100 ∧ Rep m f ∧ it f j x = it (it L 8) N first

theorem JoInv.next {first : BitVec 32} {N : Nat} {w wr W2 : World} {o : Obj} {m : Nat → BitVec 32} {f : BitVec 32 → BitVec 32} {y z : BitVec 32} {i : Nat}
    (hbw : Below w.heap.size w wr) (hb2 : Below ((wr.alloc o).setRow wr.heap.size (mat m)).heap.size ((wr.alloc o).setRow wr.heap.size (mat m)) W2)
    (hA2 : At W2 wr.heap.size (mat m) 100) (hrep : Rep m f) (hit : it f i y = it (it L 8) N first) (hz : it (fun x => f (f x)) (i / 2) z = it f i y) :
    JoInv first N w (W2.setRow wr.heap.size (mat (sq m))) z (i / 2) wr.heap.size :=
  ⟨hbw.size, below_setRow ((below_setRow (hbw.alloc hbw.size o) hbw.size _).trans (hb2.mono (by rw [setRow_size, size_alloc]; have := hbw.size; omega))) hbw.size _,
    sq m, fun x => f (f x), hA2.row _, hrep.sq, hz.trans hit⟩

theorem of_below (m : Nat → BitVec 32) (n : BitVec 32) (w : World) :
   Calls Try.prog 53 #[.agg (mat m), .int .u32 n.toNat] w fun e w' => e = .returned (.int .u32 ((times m n 32).toNat : Int)) ∧ Below w.heap.size w w' :=
  (of_any m n w).mono fun _ _ ⟨he, hw⟩ => ⟨he, by rw [hw]; exact (Below.refl _ _).alloc (Nat.le_refl _) _⟩

set_option maxRecDepth 100000 in
set_option maxHeartbeats 1000000 in
theorem join_neg (first second : BitVec 32) (n : Int) (hn : n < 0) (w : World) :
   Calls Try.prog 34 #[.int .u32 first.toNat, .int .u32 second.toNat, .int .i64 n] w fun e w' => e = .returned (.tuple #[.int .u32 0, .int .u16 1]) ∧ w = w' := by
  go_enter Try.func34, Try.ntmps34
  go_wp2_with fail
  go_ret2
  exact ⟨rfl, rfl⟩

set_option maxRecDepth 100000 in
set_option maxHeartbeats 1000000 in
theorem join_any (first second : BitVec 32) (N : Nat) (hN : N ≤ 9223372036854775807) (w : World) :
   Calls Try.prog 34 #[.int .u32 first.toNat, .int .u32 second.toNat, .int .i64 N] w fun e w' => e = .returned (.tuple #[.int .u32 (join first second N).toNat, .int .u16 0]) ∧ Below w.heap.size w w' := by
  go_enter Try.func34, Try.ntmps34
  go_wp2_with (first | (go_at_call 51; refine (nought_any _).mono ?_; rintro e W ⟨rfl, hb⟩) | (refine wpList_store_agg rfl 100 _ _ rfl _ rfl _ rfl 100 _ (At.new _ _ _) info100 (by rw [tabTo_size]; rfl) (tabTo_one _ _ _) ?_))
  rename_i W hb
  go_frame
  go_loopw [0, 2, 8] (fun x j p wr => ∃ (y : BitVec 32) (i g : Nat), i ≤ 9223372036854775807 ∧ x = .int .u32 y.toNat ∧ j = .int .i64 i ∧ p = .pointer (some ⟨g, 0, none⟩) ∧ JoInv first N w wr y i g) (fun _ j _ _ => (intOf j).toNat)
  case atStart =>
    refine ⟨first, N, W.heap.size, hN, rfl, rfl, rfl, hb.size, below_setRow (hb.alloc hb.size _) hb.size _, cols (it L 8), it L 8, (At.new _ _ _).row _, rep_cols (lin_L.it 8), rfl⟩
  case round =>
    obtain ⟨y, i, g, hi, rfl, rfl, rfl, hinv⟩ := hrel
    obtain ⟨hg, hbw, m, f, h1, hrep, hit⟩ := hinv
    have hand : bits .and .i64 (i : Int) 1 = ((i % 2 : Nat) : Int) := by rw [i64_and1]; rfl
    have hgl := h1.lt
    have Hit := Lib.hid hit
    clear hit
    by_cases hpos : 0 < i
    · have hsz := hbw.size
      rcases Nat.mod_two_eq_zero_or_one i with hpar | hpar
      · rw [hpar] at hand
        have Hpar := Lib.hid hpar
        clear hpar
        go_wp2_with (first
          | (refine wpList_load_row rfl 100 _ rfl _ rfl 100 _ (0,0) _ h1 Try.underlying100 rfl info100 ?_)
          | (refine wpList_load_row rfl 100 _ rfl _ rfl 100 _ (0,0) _ ((At.new wr _ 100).row _) Try.underlying100 rfl info100 ?_)
          | (refine wpList_store_agg rfl 100 _ _ rfl wr.heap.size rfl _ rfl 100 _ (At.new _ _ _) info100 (by rw [tabTo_size]; rfl) (tabTo_one _ _ _) ?_)
          | (go_at_call 52; refine (squared_any _ _).mono ?_; rintro e W2 ⟨rfl, hb2⟩; have hA2 := At.below ((At.new wr _ 100).row _) hb2 (by rw [setRow_size, size_alloc]; omega))
          | (refine wpList_store_agg rfl 100 _ _ rfl wr.heap.size rfl _ rfl 100 _ (by assumption) info100 (by rw [tabTo_size, tabTo_size]) (tabTo_one _ _ _) ?_))
        go_roundw
        case rel => exact ⟨y, i / 2, wr.heap.size, by omega, rfl, by go_num, rfl, JoInv.next hbw hb2 hA2 hrep Hit.out (it_half_even f i Hpar.out y)⟩
        case measure => simp [intOf]; omega
      · rw [hpar] at hand
        have Hpar := Lib.hid hpar
        have Hz := Lib.hid (hrep.times y)
        clear hpar
        go_wp2_with (first
          | (refine wpList_load_row rfl 100 _ rfl _ rfl 100 _ (0,0) _ h1 Try.underlying100 rfl info100 ?_)
          | (go_at_call 53; refine (of_below m y _).mono ?_; rintro e W1 ⟨rfl, hb1⟩; have h1' := h1.below hb1 hgl; have hbw' := hbw.trans (hb1.mono hsz); clear h1 hbw hb1; have hgl' := h1'.lt; have hsz' := hbw'.size)
          | (refine wpList_load_row rfl 100 _ rfl _ rfl 100 _ (0,0) _ (by assumption) Try.underlying100 rfl (by rw [tabTo_size]; exact info100) ?_)
          | (refine wpList_load_row rfl 100 _ rfl _ rfl 100 _ (0,0) _ ((At.new _ _ 100).row _) Try.underlying100 rfl info100 ?_)
          | (refine wpList_store_agg rfl 100 _ _ rfl _ rfl _ rfl 100 _ (At.new _ _ _) info100 (by rw [tabTo_size]; rfl) (tabTo_one _ _ _) ?_)
          | (go_at_call 52; refine (squared_any _ _).mono ?_; rintro e W2 ⟨rfl, hb2⟩; have hA2 := At.below ((At.new _ _ 100).row (mat m)) hb2 (by rw [setRow_size, size_alloc]; omega))
          | (refine wpList_store_agg rfl 100 _ _ rfl _ rfl _ rfl 100 _ (by assumption) info100 (by rw [tabTo_size, tabTo_size]) (tabTo_one _ _ _) ?_))
        go_roundw
        case rel => exact ⟨times m y 32, i / 2, W1.heap.size, by omega, rfl, by go_num, rfl, JoInv.next (by assumption) hb2 hA2 hrep Hit.out (by rw [Hz.out]; exact it_half_odd f i Hpar.out y)⟩
        case measure => simp [intOf]; omega
    · obtain rfl : i = 0 := by omega
      have Hb := Lib.hid hbw
      clear hbw
      go_wp2
      go_ret2
      refine ⟨?_, Hb.out⟩
      rw [show join first second N = y ^^^ second from by rw [join, ← Hit.out]; rfl, ← bits_xor]; rfl

end Go.Proofs.Ytjmnbpghfnageaa
