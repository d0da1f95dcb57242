/- The walks of a digest. -/
import Derived.Test.YtjmnbpghfnageaaCrcF
import Derived.Deep.QuietTactic
import Derived.BigQuiet
import Derived.Deep.RegionHeld3
import Derived.Deep.RegionWith
namespace Go.Proofs.Ytjmnbpghfnageaa
open Go.RowKit CrcM

/-- A digest: its sum, how many bytes. -/
abbrev digest (s : BitVec 32) (n : Int) : Array Value := #[.int .u32 (s.toNat : Int), .int .i64 n]

set_option maxHeartbeats 1000000 in
theorem new_any (w : World) : Calls Try.prog 41 #[] w fun e w' => e = .returned (.pointer (some ⟨w.heap.size, 0, none⟩)) ∧ w' = w.alloc (.cells (digest 0#32 0) 124) := by
  go_enter Try.func41, Try.ntmps41
  go_wp2
  go_ret
  exact ⟨rfl, rfl⟩

set_option maxHeartbeats 1000000 in
theorem digestSum_any (g : Nat) (s : BitVec 32) (n : Int) (w : World) (h : At w g (digest s n) 124) :
    Calls Try.prog 44 #[.pointer (some ⟨g, 0, none⟩)] w fun e w' => e = .returned (.int .u32 (s.toNat : Int)) ∧ w = w' := by
  have h0 : w.cell? ⟨g, 0, none⟩ = some (.int .u32 (s.toNat : Int)) := h.cell 0
  clear h
  go_enter Try.func44, Try.ntmps44
  go_wp2
  go_ret
  exact ⟨rfl, rfl⟩

set_option maxRecDepth 100000 in
set_option maxHeartbeats 2000000 in
theorem add_any (g : Nat) (s : BitVec 32) (n : Nat) (v : Value) (l : List UInt8) (w : World) (h : At w g (digest s n) 124) (hv : Seg w v l)
    (hn : n ≤ 4611686018427387903) (hl : l.length ≤ 4611686018427387903) :
    Calls Try.prog 42 #[.pointer (some ⟨g, 0, none⟩), v] w fun e w' => e = .returned (.int .i64 (n + l.length)) ∧ At w' g (digest (more s (nats l)) (n + l.length : Nat)) 124 ∧ Chg (· = g) w w' := by
  have h0 : w.cell? ⟨g, 0, none⟩ = some (.int .u32 (s.toNat : Int)) := h.cell 0
  have h1 : w.cell? ⟨g, 1, none⟩ = some (.int .i64 n) := h.cell 1
  have f0 := h.free 0
  have f1 := h.free 1
  have hcall := Lib.hid (fun (w' : World) (hb : Below w.heap.size w w') => more_seg v l s w' (by omega) (hv.below hb))
  obtain ⟨a, cap, rfl⟩ := hv.shape
  clear hv
  generalize more s (nats l) = s' at *
  go_enter Try.func42, Try.ntmps42
  go_wp2_with fail
  go_region_with (go_at_call 29; refine (hcall.out _ (Below.refl _ _).drew).mono ?_; rintro e w1 ⟨rfl, hb1⟩; have h0' := (hb1.cell (p := ⟨g, 0, none⟩) h.lt).trans h0; have h1' := (hb1.cell (p := ⟨g, 1, none⟩) h.lt).trans h1; have f0' := (hb1.frozen (p := ⟨g, 0, none⟩) h.lt).trans f0; have f1' := (hb1.frozen (p := ⟨g, 1, none⟩) h.lt).trans f1)
  all_goals
    go_wp2
    go_ret
    have hb : Below w.heap.size w w1 := (Below.refl w.heap.size w).drew.trans hb1
    refine ⟨rfl, ?_, ?_⟩
    · have hA : At w1 g (digest s n) 124 := h.below hb h.lt
      exact ((hA.set 0 _).set 1 _)
    · exact Chg.setCell (S := fun k => k = g) (Chg.setCell (S := fun k => k = g) (Chg.ofBelow hb _) ⟨g, 0, none⟩ (.inl rfl) _) ⟨g, 1, none⟩ (.inl rfl) _

end Go.Proofs.Ytjmnbpghfnageaa
