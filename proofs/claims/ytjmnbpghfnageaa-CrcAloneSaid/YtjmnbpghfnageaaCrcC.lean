/- The walks of the checksum, continued: a matrix squared, the matrix of one nought, the join. -/
import Derived.Test.YtjmnbpghfnageaaCrcB
namespace Go.Proofs.Ytjmnbpghfnageaa
open Go.RowKit CrcM

theorem info100 : (Try.prog.info? 100).map (·.size) = some 32 := by kernel_rfl

def sq (m : Nat → BitVec 32) : Nat → BitVec 32 := fun i => times m (m i) 32

/-- The round of 'squared': two blocks of the call's own. -/
def SqInv (m : Nat → BitVec 32) (w wr : World) (k : Nat) : Prop :=
  At wr w.heap.size (mat m) 100 ∧ At wr (w.heap.size + 1) (tabTo (sq m) 32 k) 100 ∧ Below w.heap.size w wr

theorem SqInv.step {m : Nat → BitVec 32} {w wr : World} {k : Nat} (h : SqInv m w wr k) (o : Obj) :
    SqInv m w ((wr.setCell ⟨w.heap.size + 1, k, none⟩ (.int .u32 ((sq m k).toNat : Int))).alloc o) (k + 1) := by
  obtain ⟨h1, h2, h3⟩ := h
  have hlt := h2.lt
  refine ⟨(h1.setOther (by simp) _).alloc o, ?_, (h3.setCell (by simp) _).alloc (by rw [size_setCell]; omega) o⟩
  rw [← tabTo_set]
  exact (h2.set k _).alloc o

set_option maxRecDepth 100000 in
set_option maxHeartbeats 1000000 in
theorem squared_any (m : Nat → BitVec 32) (w : World) :
   Calls Try.prog 52 #[.agg (mat m)] w fun e w' => e = .returned (.agg (mat (sq m))) ∧ Below w.heap.size w w' := by
  go_enter Try.func52, Try.ntmps52
  go_wp2_with (refine wpList_load_row rfl 100 _ rfl w.heap.size rfl 100 _ (0,0) _ (heap_alloc2_old _ _ _) Try.underlying100 rfl info100 ?_)
  go_loopw [6] (fun i wr => ∃ k : Nat, k ≤ 32 ∧ i = .int .i64 k ∧ SqInv m w wr k) (fun i _ => 32 - (intOf i).toNat)
  case atStart => exact ⟨0, by omega, rfl, (At.new _ _ _).alloc _, by rw [← size_alloc]; exact At.new _ _ _, ((Below.refl _ _).alloc (Nat.le_refl _) _).alloc (by rw [size_alloc]; omega) _⟩
  case round =>
    obtain ⟨k, hk, rfl, hinv⟩ := hrel
    by_cases hlt : k < 32
    · have hm := mat_at m k hlt
      have hstep := fun o => Lib.hid (hinv.step o)
      have h1 := hinv.1
      have hc := hinv.2.1.cell k
      rw [tabTo_at _ _ _ _ hlt] at hc
      have hf := hinv.2.1.free k
      have hz := hinv.2.1.lt
      have hix := fun W => run_index_agg (P := Try.prog) W 100 45 32 (mat m) .i64 k _ _ Try.underlying100 hlt Try.underlying45 rfl (by kernel_rfl) hm
      clear hinv
      go_wp2_with (first | (refine wpList_load_row rfl 100 _ rfl w.heap.size rfl 100 _ (0,0) _ h1 Try.underlying100 rfl info100 ?_) | (go_at_call 53; refine (of_any _ _ _).mono ?_; rintro e w' ⟨rfl, rfl⟩))
      go_roundw
      case rel => exact ⟨k + 1, by omega, by go_num, (hstep _).out⟩
      case measure => simp [intOf]; omega
    · obtain rfl : k = 32 := by omega
      obtain ⟨h1, h2, h3⟩ := hinv
      go_wp2_with (first | (refine wpList_load_row rfl 100 _ rfl (w.heap.size + 1) rfl 100 _ (0,0) _ h2 Try.underlying100 rfl info100 ?_) | (refine wpList_store_agg rfl 100 _ _ rfl (w.heap.size + 1) rfl _ rfl 100 _ h2 info100 (by rw [tabTo_size]) (tabTo_one _ _ _) ?_))
      exact bodyPost_ret (results_cell_row (p := 2) (ty := 100) rfl _ _ (w.heap.size + 1) 100 _ (0,0) _ rfl (h2.row _) Try.underlying100 rfl info100) rfl ⟨rfl, below_setRow h3 (by omega) _⟩

end Go.Proofs.Ytjmnbpghfnageaa
