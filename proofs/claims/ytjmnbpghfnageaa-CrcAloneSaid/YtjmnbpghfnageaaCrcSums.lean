/- The law on sums: its walk. -/
import Derived.Test.YtjmnbpghfnageaaCrcJoins
import Derived.Test.YtjmnbpghfnageaaLent
namespace Go.Proofs.Ytjmnbpghfnageaa
open Go.RowKit CrcM

set_option maxRecDepth 100000 in
set_option maxHeartbeats 1000000 in
theorem crcSums_walk (w : World) (a0 : Int) (w0 : (Lit.int .u32 a0).wf = true) (v : Value) (l : List UInt8) (hv : Seg w v l) (hl : l.length ≤ 9223372036854775807) :
    Calls Try.prog 6 #[.int .u32 a0, v] w fun e w' => e = .returned (.bool true) ∧ Below w.heap.size w w' := by
  obtain ⟨x, rfl⟩ := bv_of_wf w0
  obtain ⟨a, cap, rfl⟩ := hv.shape
  by_cases hbig : 100000 < l.length
  · clear hv
    go_enter Try.func6, Try.ntmps6
    go_wp2
    go_ret
    exact ⟨rfl, Below.refl _ _⟩
  · have k1 := Lib.hid (fun (w' : World) (hb : Below w.heap.size w w') => lent_any _ l w' (by omega) (hv.below hb))
    have k2 := Lib.hid (fun (w' : World) (u : Value) (hu : Lent w' u l) => sum_seg u l w' hl hu.seg)
    have k3 := Lib.hid (fun (w' : World) (u : Value) (hu : Lent w' u l) => more_seg u l x w' hl hu.seg)
    have k4 := Lib.hid (fun (w' : World) (u : Value) (hb : Below w.heap.size w w') (hu : Lent w' u l) => whole_any u _ l w' (by omega) hu (hv.below hb))
    have k5 := Lib.hid (fun (w' : World) (hb : Below w.heap.size w w') => rsum_seg _ l w' hl (hv.below hb))
    have k6 := Lib.hid (fun (w' : World) (hb : Below w.heap.size w w') => rmore_seg _ l x w' hl (hv.below hb))
    clear hv
    generalize more 0#32 (nats l) = s at *
    generalize more x (nats l) = t at *
    go_enter Try.func6, Try.ntmps6
    go_wp2_with (first
      | (go_at_call 27; refine (k1.out _ (Below.refl _ _)).mono ?_; rintro e w1 ⟨rfl, hat, hb1⟩; have L1 : Lent w1 (.slice (some ⟨w.heap.size, 0, none⟩) l.length (l.length + 2)) l := ⟨_, rfl, hat⟩)
      | (go_at_call 28; refine (k2.out _ _ L1).mono ?_; rintro e w2 ⟨rfl, hb2⟩; have L2 := L1.below hb2; have hc2 := below_then hb1 hb2; clear hb2)
      | ((with_reducible refine (k3.out _ _ L2).mono ?_); rintro e w3 ⟨rfl, hb3⟩; have L3 := L2.below hb3; have hc3 := below_then hc2 hb3; clear hb3 L2)
      | (go_at_call 30; refine (k4.out _ _ hc3 L3).mono ?_; rintro e w4 ⟨rfl, hb4⟩; have L4 := L3.below hb4; have hc4 := below_then hc3 hb4; clear hb4 L3)
      | (go_at_call 29; refine (k3.out _ _ L4).mono ?_; rintro e w5 ⟨rfl, hb5⟩; have hc5 := below_then hc4 hb5; clear hb5)
      | (go_at_call 31; refine (k5.out _ hc5).mono ?_; rintro e w6 ⟨rfl, rfl⟩)
      | (go_at_call 32; refine (k6.out _ hc5).mono ?_; rintro e w7 ⟨rfl, rfl⟩)
      | (go_at_call 33; refine (known_any _).mono ?_; rintro e w8 ⟨rfl, hb8⟩))
    go_ret
    exact ⟨rfl, below_then hc5 hb8⟩

end Go.Proofs.Ytjmnbpghfnageaa
