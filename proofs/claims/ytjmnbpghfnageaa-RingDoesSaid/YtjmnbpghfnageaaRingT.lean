/- 'Own' of a book that holds lists of spans alone; the law RingDoes: its walk. -/
import Derived.Test.YtjmnbpghfnageaaRingS
set_option linter.unusedVariables false
namespace Go.Proofs.Ytjmnbpghfnageaa
open Go.RowKit

set_option maxRecDepth 100000 in
set_option maxHeartbeats 4000000 in
theorem own61_nil (w : World) : Calls Try.prog 61 #[.slice none 0 0] w fun e w' => e = .returned (.bool true) ∧ w = w' := by
  go_enter Try.func61, Try.ntmps61
  go_wp2
  refine wp_loop_rounds 1 ?_
  rw [rounds_succ]
  go_wp2
  refine wp_loop_rounds 1 ?_
  rw [rounds_succ]
  go_wp2
  refine wp_loop_rounds 1 ?_
  rw [rounds_succ]
  go_wp2
  go_ret
  exact ⟨rfl, rfl⟩

set_option maxRecDepth 100000 in
set_option maxHeartbeats 4000000 in
theorem own62_nil (w : World) : Calls Try.prog 62 #[.slice none 0 0] w fun e w' => e = .returned (.bool true) ∧ w = w' := by
  go_enter Try.func62, Try.ntmps62
  go_wp2
  refine wp_loop_rounds 1 ?_
  rw [rounds_succ]
  go_wp2
  refine wp_loop_rounds 1 ?_
  rw [rounds_succ]
  go_wp2
  refine wp_loop_rounds 1 ?_
  rw [rounds_succ]
  go_wp2
  go_ret
  exact ⟨rfl, rfl⟩

set_option maxRecDepth 100000 in
set_option maxHeartbeats 4000000 in
theorem own63_nil (w : World) : Calls Try.prog 63 #[.slice none 0 0] w fun e w' => e = .returned (.bool true) ∧ w = w' := by
  go_enter Try.func63, Try.ntmps63
  go_wp2
  refine wp_loop_rounds 1 ?_
  rw [rounds_succ]
  go_wp2
  refine wp_loop_rounds 1 ?_
  rw [rounds_succ]
  go_wp2
  refine wp_loop_rounds 1 ?_
  rw [rounds_succ]
  go_wp2
  go_ret
  exact ⟨rfl, rfl⟩

set_option maxRecDepth 100000 in
set_option maxHeartbeats 4000000 in
theorem own64_nil (w : World) : Calls Try.prog 64 #[.slice none 0 0] w fun e w' => e = .returned (.bool true) ∧ w = w' := by
  go_enter Try.func64, Try.ntmps64
  go_wp2
  refine wp_loop_rounds 1 ?_
  rw [rounds_succ]
  go_wp2
  refine wp_loop_rounds 1 ?_
  rw [rounds_succ]
  go_wp2
  refine wp_loop_rounds 1 ?_
  rw [rounds_succ]
  go_wp2
  go_ret
  exact ⟨rfl, rfl⟩

set_option maxRecDepth 100000 in
set_option maxHeartbeats 4000000 in
theorem own65_nil (w : World) : Calls Try.prog 65 #[.slice none 0 0] w fun e w' => e = .returned (.bool true) ∧ w = w' := by
  go_enter Try.func65, Try.ntmps65
  go_wp2
  refine wp_loop_rounds 1 ?_
  rw [rounds_succ]
  go_wp2
  refine wp_loop_rounds 1 ?_
  rw [rounds_succ]
  go_wp2
  refine wp_loop_rounds 1 ?_
  rw [rounds_succ]
  go_wp2
  go_ret
  exact ⟨rfl, rfl⟩

set_option maxRecDepth 100000 in
set_option maxHeartbeats 4000000 in
theorem own67_nil (w : World) : Calls Try.prog 67 #[.slice none 0 0] w fun e w' => e = .returned (.bool true) ∧ w = w' := by
  go_enter Try.func67, Try.ntmps67
  go_wp2
  refine wp_loop_rounds 1 ?_
  rw [rounds_succ]
  go_wp2
  refine wp_loop_rounds 1 ?_
  rw [rounds_succ]
  go_wp2
  refine wp_loop_rounds 1 ?_
  rw [rounds_succ]
  go_wp2
  go_ret
  exact ⟨rfl, rfl⟩

theorem slice73 : SliceOf Try.prog 73 39 1 24 := SliceOf.mk' (z := .slice none 0 0) Try.underlying73 (by decide) (by kernel_rfl) rfl
theorem zero39 : (Try.prog.info? 39).map (·.zero) = some (some (.slice none 0 0)) := by kernel_rfl

set_option maxRecDepth 100000 in
set_option maxHeartbeats 4000000 in
theorem own68_nil (w : World) : Calls Try.prog 68 #[.slice none 0 0] w fun e w' => e = .returned (.bool true) ∧ Below w.heap.size w w' := by
  go_enter Try.func68, Try.ntmps68
  go_wp2_with (refine wpList_make_zero rfl _ _ 73 39 24 rfl slice73 _ zero39 rfl (fun _ => .slice none 0 0) _ _ _ _ 0 rfl rfl rfl rfl (by omega) (by unfold maxLen; omega) ?_; intro w3 L3 b3)
  refine wp_loop_rounds 1 ?_
  rw [rounds_succ]
  go_wp2

  go_ret
  exact ⟨rfl, b3⟩

set_option maxRecDepth 100000 in
set_option maxHeartbeats 4000000 in
theorem own69_nil (w : World) : Calls Try.prog 69 #[.slice none 0 0] w fun e w' => e = .returned (.bool true) ∧ w = w' := by
  go_enter Try.func69, Try.ntmps69
  go_wp2
  refine wp_loop_rounds 1 ?_
  rw [rounds_succ]
  go_wp2
  refine wp_loop_rounds 1 ?_
  rw [rounds_succ]
  go_wp2
  refine wp_loop_rounds 1 ?_
  rw [rounds_succ]
  go_wp2
  go_ret
  exact ⟨rfl, rfl⟩

set_option maxRecDepth 100000 in
set_option maxHeartbeats 4000000 in
theorem own70_nil (w : World) : Calls Try.prog 70 #[.slice none 0 0] w fun e w' => e = .returned (.bool true) ∧ w = w' := by
  go_enter Try.func70, Try.ntmps70
  go_wp2
  refine wp_loop_rounds 1 ?_
  rw [rounds_succ]
  go_wp2
  refine wp_loop_rounds 1 ?_
  rw [rounds_succ]
  go_wp2
  refine wp_loop_rounds 1 ?_
  rw [rounds_succ]
  go_wp2
  go_ret
  exact ⟨rfl, rfl⟩

set_option maxRecDepth 100000 in
set_option maxHeartbeats 4000000 in
theorem own71_nil (w : World) : Calls Try.prog 71 #[.slice none 0 0] w fun e w' => e = .returned (.bool true) ∧ w = w' := by
  go_enter Try.func71, Try.ntmps71
  go_wp2
  refine wp_loop_rounds 1 ?_
  rw [rounds_succ]
  go_wp2
  refine wp_loop_rounds 1 ?_
  rw [rounds_succ]
  go_wp2
  refine wp_loop_rounds 1 ?_
  rw [rounds_succ]
  go_wp2
  go_ret
  exact ⟨rfl, rfl⟩

set_option maxRecDepth 100000 in
set_option maxHeartbeats 4000000 in
theorem own72_nil (w : World) : Calls Try.prog 72 #[.slice none 0 0] w fun e w' => e = .returned (.bool true) ∧ w = w' := by
  go_enter Try.func72, Try.ntmps72
  go_wp2
  refine wp_loop_rounds 1 ?_
  rw [rounds_succ]
  go_wp2
  refine wp_loop_rounds 1 ?_
  rw [rounds_succ]
  go_wp2
  refine wp_loop_rounds 1 ?_
  rw [rounds_succ]
  go_wp2
  go_ret
  exact ⟨rfl, rfl⟩

set_option maxRecDepth 100000 in
set_option maxHeartbeats 4000000 in
theorem own_any (W : World) (B K n : Nat) (h : Bk W B K n) (hn : n ≤ 1000000) :
    Calls Try.prog 40 #[.pointer (some ⟨K, 0, none⟩)] W fun e W' => e = .returned (.bool true) ∧ Chg (fun k => B ≤ k) W W' := by
  obtain ⟨T, vs, v, hvn, hb⟩ := h
  have hK := hb.hK
  have hbook := hb.book
  have c0 : W.cell? ⟨K, 0, none⟩ = some (.slice none 0 0) := hbook.cell 0
  have c1 : W.cell? ⟨K, 1, none⟩ = some (.slice none 0 0) := hbook.cell 1
  have c2 : W.cell? ⟨K, 2, none⟩ = some (.slice none 0 0) := hbook.cell 2
  have c3 : W.cell? ⟨K, 3, none⟩ = some (.slice none 0 0) := hbook.cell 3
  have c4 : W.cell? ⟨K, 4, none⟩ = some (.slice none 0 0) := hbook.cell 4
  have c5 : W.cell? ⟨K, 5, none⟩ = some v := hbook.cell 5
  have k5 := Lib.hid (ownspans_any W B T vs v hb.row hb.tag hb.fam (by omega) hb.hB)
  have HB := Lib.hid hbook
  clear hb hbook
  go_enter Try.func40, Try.ntmps40
  go_wp2_with (first
    | (go_at_call 66; refine k5.out.mono ?_; rintro e w1 ⟨rfl, hc⟩; have hbook := HB.out.mod hc (by omega); clear c0 c1 c2 c3 c4 c5; have d6 : w1.cell? ⟨K, 6, none⟩ = some (.slice none 0 0) := hbook.cell 6; have d7 : w1.cell? ⟨K, 7, none⟩ = some (.slice none 0 0) := hbook.cell 7; have d8 : w1.cell? ⟨K, 8, none⟩ = some (.slice none 0 0) := hbook.cell 8; have d9 : w1.cell? ⟨K, 9, none⟩ = some (.slice none 0 0) := hbook.cell 9; have d10 : w1.cell? ⟨K, 10, none⟩ = some (.slice none 0 0) := hbook.cell 10; have d11 : w1.cell? ⟨K, 11, none⟩ = some (.slice none 0 0) := hbook.cell 11)
    | (go_at_call 61; refine (own61_nil _).mono ?_; rintro e w2 ⟨rfl, rfl⟩)
    | (go_at_call 62; refine (own62_nil _).mono ?_; rintro e w2 ⟨rfl, rfl⟩)
    | (go_at_call 63; refine (own63_nil _).mono ?_; rintro e w2 ⟨rfl, rfl⟩)
    | (go_at_call 64; refine (own64_nil _).mono ?_; rintro e w2 ⟨rfl, rfl⟩)
    | (go_at_call 65; refine (own65_nil _).mono ?_; rintro e w2 ⟨rfl, rfl⟩)
    | (go_at_call 67; refine (own67_nil _).mono ?_; rintro e w2 ⟨rfl, rfl⟩)
    | (go_at_call 68; refine (own68_nil _).mono ?_; rintro e w2 ⟨rfl, b2⟩; have hb2 := hbook.below b2 hbook.lt; clear d6 d7 d8 d9 d10 d11; have d8 : w2.cell? ⟨K, 8, none⟩ = some (.slice none 0 0) := hb2.cell 8; have d9 : w2.cell? ⟨K, 9, none⟩ = some (.slice none 0 0) := hb2.cell 9; have d10 : w2.cell? ⟨K, 10, none⟩ = some (.slice none 0 0) := hb2.cell 10; have d11 : w2.cell? ⟨K, 11, none⟩ = some (.slice none 0 0) := hb2.cell 11)
    | (go_at_call 69; refine (own69_nil _).mono ?_; rintro e w2 ⟨rfl, rfl⟩)
    | (go_at_call 70; refine (own70_nil _).mono ?_; rintro e w2 ⟨rfl, rfl⟩)
    | (go_at_call 71; refine (own71_nil _).mono ?_; rintro e w2 ⟨rfl, rfl⟩)
    | (go_at_call 72; refine (own72_nil _).mono ?_; rintro e w2 ⟨rfl, rfl⟩))
  go_ret
  exact ⟨rfl, hc.trans (Chg.ofBelow b2 _)⟩

end Go.Proofs.Ytjmnbpghfnageaa
