/- A disk: a new one; what waits is settled. -/
import Derived.Test.YtleicmmbaacbmaaGreatDiskC
import Derived.Carry
set_option linter.unusedVariables false
namespace Go.Proofs.YtleicmmbaacbmaaGreat
open Go.RowKit

/-- What a new disk leaves. -/
def DiskNew (W : World) (T : Nat → Nat) (t p : Nat) (d' : Dsk) (W' : World) : Prop :=
  ∃ T', DiskAt W' T' t p d' ∧ (∀ k, k < W.heap.size ∨ W'.heap.size ≤ k → T' k = T k) ∧ (∀ k, T' k = T k ∨ T' k = t) ∧ Below W.heap.size W W' ∧ W.heap.size ≤ p

def freshDsk (n : Nat) : Dsk := ⟨List.replicate n zsec, [], false⟩

theorem new_end {w w1 : World} (T : Nat → Nat) (t n : Nat) (hn : 0 < n) (hn2 : n ≤ 8192) (a1 : At w1 w.heap.size (List.replicate (n * 128) (.int .u8 0)).toArray 152) (b1 : Below w.heap.size w w1) :
    DiskNew w T t (w1.heap.size + 1) (freshDsk n) ((w1.alloc (.map #[] 0)).alloc (.cells #[.slice (some ⟨w.heap.size, 0, none⟩) n n, .slice none 0 0, .map (some w1.heap.size), .bool false] 136)) := by
  have z1 := a1.lt
  have e2 : (w1.alloc (.map #[] 0)).heap.size = w1.heap.size + 1 := size_alloc _ _
  have e3 : ((w1.alloc (.map #[] 0)).alloc (.cells #[.slice (some ⟨w.heap.size, 0, none⟩) n n, .slice none 0 0, .map (some w1.heap.size), .bool false] 136)).heap.size = w1.heap.size + 2 := by rw [size_alloc, e2]
  have hb := ((b1.alloc (by omega) (.map #[] 0)).alloc (by rw [e2]; omega) (.cells #[.slice (some ⟨w.heap.size, 0, none⟩) n n, .slice none 0 0, .map (some w1.heap.size), .bool false] 136))
  let T' : Nat → Nat := tagAt (tagAt (tagAt T w.heap.size t) w1.heap.size t) (w1.heap.size + 1) t
  have hT' : ∀ k, T' k = if k = w1.heap.size + 1 ∨ k = w1.heap.size ∨ k = w.heap.size then t else T k := by
    intro k
    show tagAt _ _ _ _ = _
    unfold tagAt
    by_cases h1 : k = w1.heap.size + 1
    · rw [if_pos h1, if_pos (.inl h1)]
    · by_cases h2 : k = w1.heap.size
      · rw [if_neg h1, if_pos h2, if_pos (.inr (.inl h2))]
      · by_cases h3 : k = w.heap.size
        · rw [if_neg h1, if_neg h2, if_pos h3, if_pos (.inr (.inr h3))]
        · rw [if_neg h1, if_neg h2, if_neg h3, if_neg (by omega)]
  refine ⟨T', ⟨⟨w.heap.size, w1.heap.size, .slice none 0 0, fun _ => none, ?_, ?_, World.ownsRow_nil _ _ _ _, ?_, Seen.nil, by rw [hT', if_pos (by omega)], by rw [hT', if_pos (by omega)], fun g hg => by simp [Value.ownBlock] at hg⟩, by rw [hT', if_pos (by omega)], ?_, fun x hx => by simp [freshDsk] at hx, fun x hx => by simp [freshDsk] at hx, by simp [freshDsk]; exact hn2, by simp [freshDsk]; exact hn⟩, ?_, ?_, hb, by omega⟩
  · have := At.new (w1.alloc (.map #[] 0)) #[.slice (some ⟨w.heap.size, 0, none⟩) n n, .slice none 0 0, .map (some w1.heap.size), .bool false] 136
    rw [e2] at this
    simpa [freshDsk] using this
  · have := (a1.alloc (.map #[] 0)).alloc (.cells #[.slice (some ⟨w.heap.size, 0, none⟩) n n, .slice none 0 0, .map (some w1.heap.size), .bool false] 136)
    show At _ _ (secCells (List.replicate n zsec)).toArray _
    rw [secCells_replicate]
    exact this
  · exact (World.imap_made w1 Tryz.prog 3 3).mod ((Chg.refl (fun _ => False) _).alloc _) (fun h => h)
  · intro s hs
    simp only [freshDsk, List.mem_replicate] at hs
    rw [hs.2]
    rfl
  · intro k hk
    rw [hT', if_neg (by rw [e3] at hk; have := b1.size; omega)]
  · intro k
    rw [hT']
    split
    · exact .inr rfl
    · exact .inl rfl

set_option maxRecDepth 100000 in
set_option maxHeartbeats 2000000 in
theorem disk_new (T : Nat → Nat) (t n : Nat) (w : World) (hn : 0 < n) (hn2 : n ≤ 8192) :
    Calls Tryz.prog 24 #[.int .i64 n] w fun e w' => ∃ p, e = .returned (.tuple #[.pointer (some ⟨p, 0, none⟩), .int .u16 0]) ∧ DiskNew w T t p (freshDsk n) w' := by
  have hmm := @run_makeMap Tryz.prog
  go_enter Tryz.func24, Tryz.ntmps24
  go_wp2_with (refine wpList_make_same rfl _ _ 132 152 128 128 rfl slice_sectors (.int .u8 0) zero_sector _ _ _ _ n rfl rfl rfl rfl (by omega) (by unfold maxLen; omega) ?_; intro w1 a1 b1)
  go_ret2
  exact ⟨_, rfl, new_end T t n hn hn2 a1 b1⟩

end Go.Proofs.YtleicmmbaacbmaaGreat
