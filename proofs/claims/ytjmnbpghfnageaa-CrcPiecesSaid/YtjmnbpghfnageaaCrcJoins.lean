/- The laws on the checksum's join: the walks. -/
import Derived.Test.YtjmnbpghfnageaaCrcF
import Derived.Test.YtjmnbpghfnageaaOpen
namespace Go.Proofs.Ytjmnbpghfnageaa
open Go.RowKit CrcM

theorem bv_of_wf {a : Int} (h : (Lit.int .u32 a).wf = true) : ∃ x : BitVec 32, a = (x.toNat : Int) := by
  have hb := bounds_u32 h
  refine ⟨BitVec.ofNat 32 a.toNat, ?_⟩
  rw [BitVec.toNat_ofNat]
  omega

set_option maxRecDepth 100000 in
set_option maxHeartbeats 1000000 in
theorem crcJoins_walk (w : World) (a0 : Int) (w0 : (Lit.int .u32 a0).wf = true) (a1 : Int) (w1 : (Lit.int .u32 a1).wf = true) (a2 : Int) (w2 : (Lit.int .i64 a2).wf = true) :
    Calls Try.prog 7 #[.int .u32 a0, .int .u32 a1, .int .i64 a2] w fun e w' => e = .returned (.bool true) ∧ Below w.heap.size w w' := by
  obtain ⟨x, rfl⟩ := bv_of_wf w0
  obtain ⟨y, rfl⟩ := bv_of_wf w1
  have hb := bounds_i64 w2
  clear w0 w1 w2
  by_cases hn : a2 < 0
  · go_enter Try.func7, Try.ntmps7
    go_wp2_with (first
      | (go_at_call 34; refine (join_neg x y a2 hn _).mono ?_; rintro e w' ⟨rfl, rfl⟩)
      | (go_at_call 35; refine (rjoin_neg x y a2 hn _).mono ?_; rintro e w' ⟨rfl, rfl⟩)
      | (go_at_call 33; refine (known_any _).mono ?_; rintro e w' ⟨rfl, hb3⟩))
    go_ret
    exact ⟨rfl, by assumption⟩
  · obtain ⟨n, rfl⟩ : ∃ n : Nat, a2 = (n : Int) := ⟨a2.toNat, by omega⟩
    have hn' : n ≤ 9223372036854775807 := by omega
    clear hn hb
    generalize hj : join x y n = z
    have Hj := Lib.hid hj
    clear hj
    go_enter Try.func7, Try.ntmps7
    go_wp2_with (first
      | (go_at_call 34; refine (join_any x y n hn' _).mono ?_; rintro e w' ⟨rfl, hb1⟩)
      | (go_at_call 35; refine (rjoin_any x y n hn' _).mono ?_; rintro e w' ⟨rfl, hb2⟩)
      | (go_at_call 33; refine (known_any _).mono ?_; rintro e w' ⟨rfl, hb3⟩))
    go_ret
    exact ⟨rfl, below_then (below_then (by assumption) (by assumption)) (by assumption)⟩

theorem bv_eq (x y : BitVec 32) (h : x = y) : ((x.toNat : Int) == (y.toNat : Int)) = true := by rw [h]; simp

theorem bv16 {a : Int} (h : (Lit.int .u16 a).wf = true) : ∃ n : Nat, a = (n : Int) ∧ n < 65536 := by
  have hb := bounds_u16 h
  exact ⟨a.toNat, by omega, by omega⟩

theorem join_zero (x : BitVec 32) : join x 0#32 0 = x := by simp [join, it]

theorem join_assoc (a b c : BitVec 32) (m n : Nat) : join (join a b m) c n = join a (join b c n) (m + n) := by
  unfold join
  rw [it_add, (lin_L.it 8).it n, BitVec.xor_assoc]

set_option maxRecDepth 100000 in
set_option maxHeartbeats 1000000 in
theorem crcChain_walk (w : World) (a0 : Int) (w0 : (Lit.int .u32 a0).wf = true) (a1 : Int) (w1 : (Lit.int .u32 a1).wf = true) (a2 : Int) (w2 : (Lit.int .u32 a2).wf = true)
    (a3 : Int) (w3 : (Lit.int .u16 a3).wf = true) (a4 : Int) (w4 : (Lit.int .u16 a4).wf = true) :
    Calls Try.prog 10 #[.int .u32 a0, .int .u32 a1, .int .u32 a2, .int .u16 a3, .int .u16 a4] w fun e w' => e = .returned (.bool true) ∧ Below w.heap.size w w' := by
  obtain ⟨a, rfl⟩ := bv_of_wf w0
  obtain ⟨b, rfl⟩ := bv_of_wf w1
  obtain ⟨c, rfl⟩ := bv_of_wf w2
  obtain ⟨m, rfl, hm⟩ := bv16 w3
  obtain ⟨n, rfl, hn⟩ := bv16 w4
  clear w0 w1 w2 w3 w4
  have h1 := bv_eq _ _ (join_assoc a b c m n)
  have h2 := bv_eq _ _ (join_zero a)
  have k1 := fun w => join_any a b m (by omega) w
  have k2 := fun w => join_any (join a b m) c n (by omega) w
  have k3 := fun w => join_any b c n (by omega) w
  have k4 := fun w => join_any a (join b c n) (m + n) (by omega) w
  rw [Int.natCast_add] at k4
  have k5 : ∀ w, Calls Try.prog 34 #[.int .u32 a.toNat, .int .u32 0, .int .i64 0] w fun e w' => e = .returned (.tuple #[.int .u32 (join a 0#32 0).toNat, .int .u16 0]) ∧ Below w.heap.size w w' := fun w => join_any a 0#32 0 (by omega) w
  generalize join (join a b m) c n = x at *
  generalize join a (join b c n) (m + n) = y at *
  generalize join a b m = ab at *
  generalize join b c n = bc at *
  generalize join a 0#32 0 = none at *
  have K1 := Lib.hid k1
  have K2 := Lib.hid k2
  have K3 := Lib.hid k3
  have K4 := Lib.hid k4
  have K5 := Lib.hid k5
  clear k1 k2 k3 k4 k5
  go_enter Try.func10, Try.ntmps10
  go_wp2_with (first
    | ((with_reducible refine (K1.out _).mono ?_); rintro e w' ⟨rfl, hb1⟩)
    | ((with_reducible refine (K2.out _).mono ?_); rintro e w' ⟨rfl, hb2⟩)
    | ((with_reducible refine (K3.out _).mono ?_); rintro e w' ⟨rfl, hb3⟩)
    | ((with_reducible refine (K4.out _).mono ?_); rintro e w' ⟨rfl, hb4⟩)
    | ((with_reducible refine (K5.out _).mono ?_); rintro e w' ⟨rfl, hb5⟩)
    | (go_at_call 33; refine (known_any _).mono ?_; rintro e w' ⟨rfl, hb6⟩))
  go_ret
  exact ⟨rfl, below_then (below_then (below_then (below_then (below_then (by assumption) (by assumption)) (by assumption)) (by assumption)) (by assumption)) (by assumption)⟩

end Go.Proofs.Ytjmnbpghfnageaa
