/- 'known': what the chapter's examples fix. -/
import Derived.Test.YtjmnbpghfnageaaCrcE
import Derived.Lib.SlBytesConst
namespace Go.Proofs.Ytjmnbpghfnageaa
open Go.RowKit CrcM

theorem sum_1234 (w : World) : Calls Try.prog 28 #[.slice (some ⟨w.heap.size, 0, none⟩) 4 4] (w.alloc (.cells #[.int .u8 49, .int .u8 50, .int .u8 51, .int .u8 52] 5 (4, 5))) fun e w' => e = .returned (.int .u32 4131058926) ∧ Below w.heap.size w w' :=
  (sum_seg _ ([49, 50, 51, 52] : List UInt8) _ (by decide) (Seg.new w [49, 50, 51, 52] 5 4 (by decide) (4, 5))).mono fun _ _ ⟨he, hb⟩ =>
    ⟨he.trans (ret_int (by rw [show more 0#32 (nats ([49, 50, 51, 52] : List UInt8)) = 4131058926#32 from by decide +kernel]; rfl)), ((Below.refl _ w).alloc (Nat.le_refl _) _).trans (hb.mono (by rw [size_alloc]; omega))⟩

theorem sum_56789 (w : World) : Calls Try.prog 28 #[.slice (some ⟨w.heap.size, 0, none⟩) 5 5] (w.alloc (.cells #[.int .u8 53, .int .u8 54, .int .u8 55, .int .u8 56, .int .u8 57] 5 (5, 6))) fun e w' => e = .returned (.int .u32 2209703384) ∧ Below w.heap.size w w' :=
  (sum_seg _ ([53, 54, 55, 56, 57] : List UInt8) _ (by decide) (Seg.new w [53, 54, 55, 56, 57] 5 5 (by decide) (5, 6))).mono fun _ _ ⟨he, hb⟩ =>
    ⟨he.trans (ret_int (by rw [show more 0#32 (nats ([53, 54, 55, 56, 57] : List UInt8)) = 2209703384#32 from by decide +kernel]; rfl)), ((Below.refl _ w).alloc (Nat.le_refl _) _).trans (hb.mono (by rw [size_alloc]; omega))⟩

theorem sum_all (w : World) : Calls Try.prog 28 #[.slice (some ⟨w.heap.size, 0, none⟩) 9 9] (w.alloc (.cells #[.int .u8 49, .int .u8 50, .int .u8 51, .int .u8 52, .int .u8 53, .int .u8 54, .int .u8 55, .int .u8 56, .int .u8 57] 5 (9, 10))) fun e w' => e = .returned (.int .u32 3808858755) ∧ Below w.heap.size w w' :=
  (sum_seg _ ([49, 50, 51, 52, 53, 54, 55, 56, 57] : List UInt8) _ (by decide) (Seg.new w [49, 50, 51, 52, 53, 54, 55, 56, 57] 5 9 (by decide) (9, 10))).mono fun _ _ ⟨he, hb⟩ =>
    ⟨he.trans (ret_int (by rw [show more 0#32 (nats ([49, 50, 51, 52, 53, 54, 55, 56, 57] : List UInt8)) = 3808858755#32 from by decide +kernel]; rfl)), ((Below.refl _ w).alloc (Nat.le_refl _) _).trans (hb.mono (by rw [size_alloc]; omega))⟩

theorem sum_nought (w : World) : Calls Try.prog 28 #[.slice (some ⟨w.heap.size, 0, none⟩) 1 1] (w.alloc (.cells #[.int .u8 0] 5)) fun e w' => e = .returned (.int .u32 1383945041) ∧ Below w.heap.size w w' :=
  (sum_seg _ ([0] : List UInt8) _ (by decide) (Seg.new w [0] 5 1 (by decide))).mono fun _ _ ⟨he, hb⟩ =>
    ⟨he.trans (ret_int (by rw [show more 0#32 (nats ([0] : List UInt8)) = 1383945041#32 from by decide +kernel]; rfl)), ((Below.refl _ w).alloc (Nat.le_refl _) _).trans (hb.mono (by rw [size_alloc]; omega))⟩

theorem sum_none (w : World) : Calls Try.prog 28 #[.slice none 0 0] w fun e w' => e = .returned (.int .u32 0) ∧ Below w.heap.size w w' :=
  (sum_seg _ [] w (by decide) (Seg.nil w)).mono fun _ _ ⟨he, hb⟩ => ⟨he.trans (ret_int (by decide +kernel)), hb⟩

theorem join_known (w : World) : Calls Try.prog 34 #[.int .u32 4131058926, .int .u32 2209703384, .int .i64 5] w fun e w' => e = .returned (.tuple #[.int .u32 3808858755, .int .u16 0]) ∧ Below w.heap.size w w' :=
  (join_any 4131058926#32 2209703384#32 5 (by decide) w).mono fun _ _ ⟨he, hb⟩ => ⟨he.trans (by rw [show join 4131058926#32 2209703384#32 5 = 3808858755#32 from by decide +kernel]; rfl), hb⟩

set_option maxRecDepth 100000 in
set_option maxHeartbeats 1000000 in
theorem known_any (w : World) : Calls Try.prog 33 #[] w fun e w' => e = .returned (.bool true) ∧ Below w.heap.size w w' := by
  have kc := fun (w : World) (C : Array Value) (n c : Nat) => Lib.run_convert_bytes_const (P := Try.prog) w 46 5 C n c Try.underlying46 Try.underlying5
  go_enter Try.func33, Try.ntmps33
  go_wp2_with (first
    | ((with_reducible refine (sum_1234 _).mono ?_); rintro e W1 ⟨rfl, hb1⟩)
    | ((with_reducible refine (sum_56789 _).mono ?_); rintro e W2 ⟨rfl, hb2⟩)
    | ((with_reducible refine (join_known _).mono ?_); rintro e W3 ⟨rfl, hb3⟩)
    | ((with_reducible refine (sum_all _).mono ?_); rintro e W4 ⟨rfl, hb4⟩)
    | ((with_reducible refine (sum_nought _).mono ?_); rintro e W5 ⟨rfl, hb5⟩)
    | ((with_reducible refine (sum_none _).mono ?_); rintro e W6 ⟨rfl, hb6⟩))
  go_ret
  exact ⟨rfl, below_then (below_then (below_then (below_then (below_then (by assumption) (by assumption)) (by assumption)) (by assumption)) (by assumption)) (by assumption)⟩

end Go.Proofs.Ytjmnbpghfnageaa
