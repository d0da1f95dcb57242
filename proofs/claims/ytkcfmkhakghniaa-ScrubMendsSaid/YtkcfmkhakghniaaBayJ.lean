/- A bay of disks: Crash of a disk, Cut. -/
import Derived.Test.YtkcfmkhakghniaaBayI
set_option linter.unusedVariables false
namespace Go.Proofs.Ytkcfmkhakghniaa
open Go.RowKit

/-- A row of bools, in a block of tag 0. -/
def Bits (w : World) (T : Nat → Nat) (v : Value) (l : List Bool) : Prop :=
  ∃ a c, v = .slice a l.length c ∧ l.length ≤ 1000000000 ∧ (l = [] ∨ ∃ b o, a = some ⟨b, o, none⟩ ∧ b < w.heap.size ∧ T b = 0 ∧ ∀ j (h : j < l.length), w.cell? ⟨b, o + j, none⟩ = some (.bool l[j]))
def Bitss (w : World) (T : Nat → Nat) (v : Value) (ls : List (List Bool)) : Prop :=
  ∃ a c, v = .slice a ls.length c ∧ ls.length ≤ 1000000000 ∧ (ls = [] ∨ ∃ b o, a = some ⟨b, o, none⟩ ∧ b < w.heap.size ∧ T b = 0 ∧ ∀ j (h : j < ls.length), ∃ u, w.cell? ⟨b, o + j, none⟩ = some u ∧ Bits w T u ls[j])

theorem Bits.keep {S : Nat → Prop} {w w' : World} {T : Nat → Nat} {v : Value} {l : List Bool} (h : Bits w T v l) (hc : Chg S w w') (hS : ∀ k, S k → T k ≠ 0) : Bits w' T v l := by
  obtain ⟨a, c, h1, h2, h3⟩ := h
  refine ⟨a, c, h1, h2, ?_⟩
  rcases h3 with h3 | ⟨b, o, h3, h4, h5, h6⟩
  · exact .inl h3
  · exact .inr ⟨b, o, h3, Nat.lt_of_lt_of_le h4 hc.size, h5, fun j hj => (hc.cell (p := ⟨b, o + j, none⟩) h4 (fun hs => hS b hs h5)).trans (h6 j hj)⟩
theorem Bitss.keep {S : Nat → Prop} {w w' : World} {T : Nat → Nat} {v : Value} {l : List (List Bool)} (h : Bitss w T v l) (hc : Chg S w w') (hS : ∀ k, S k → T k ≠ 0) : Bitss w' T v l := by
  obtain ⟨a, c, h1, h2, h3⟩ := h
  refine ⟨a, c, h1, h2, ?_⟩
  rcases h3 with h3 | ⟨b, o, h3, h4, h5, h6⟩
  · exact .inl h3
  · refine .inr ⟨b, o, h3, Nat.lt_of_lt_of_le h4 hc.size, h5, fun j hj => ?_⟩
    obtain ⟨u, q1, q2⟩ := h6 j hj
    exact ⟨u, (hc.cell (p := ⟨b, o + j, none⟩) h4 (fun hs => hS b hs h5)).trans q1, q2.keep hc hS⟩
theorem Bits.nil (w : World) (T : Nat → Nat) : Bits w T (.slice none 0 0) [] := ⟨none, 0, rfl, by simp, .inl rfl⟩
theorem Bitss.nil (w : World) (T : Nat → Nat) : Bitss w T (.slice none 0 0) [] := ⟨none, 0, rfl, by simp, .inl rfl⟩
theorem Bits.shape {w : World} {T : Nat → Nat} {v : Value} {l : List Bool} (h : Bits w T v l) : ∃ a c, v = .slice a l.length c := by
  obtain ⟨a, c, h1, _⟩ := h
  exact ⟨a, c, h1⟩
theorem Bitss.shape {w : World} {T : Nat → Nat} {v : Value} {l : List (List Bool)} (h : Bitss w T v l) : ∃ a c, v = .slice a l.length c := by
  obtain ⟨a, c, h1, _⟩ := h
  exact ⟨a, c, h1⟩

set_option maxRecDepth 100000 in
set_option maxHeartbeats 1000000 in
theorem crash_keep (T : Nat → Nat) (kb i : Nat) (v : Value) (l : List Bool) (w : World) (hk : At w kb #[v] 74) (hb : Bits w T v l) (hi : i ≤ 1000000) :
    Calls Try.prog 87 #[.int .i64 i, .pointer (some ⟨kb, 0, none⟩)] w fun e w' => e = .returned (.bool (l.getD i false)) ∧ Below w.heap.size w w' := by
  obtain ⟨a, c, rfl, hn, h3⟩ := hb
  have c0 : w.cell? ⟨kb, 0, none⟩ = some (.slice a l.length c) := hk.cell 0
  clear hk
  by_cases h : i < l.length
  · rcases h3 with h3 | ⟨b, o, rfl, h4, h5, h6⟩
    · rw [h3] at h; simp at h
    · have c1 := h6 i h
      have e : l.getD i false = l[i] := by rw [List.getD_eq_getElem?_getD, List.getElem?_eq_getElem h]; rfl
      rw [e]
      clear h6 h5 e
      generalize l[i] = x at *
      generalize l.length = n at *
      go_enter Try.func87, Try.ntmps87
      go_wp2
      go_ret
      exact ⟨rfl, Below.refl _ _⟩
  · have e : l.getD i false = false := by rw [List.getD_eq_getElem?_getD, List.getElem?_eq_none (by omega)]; rfl
    rw [e]
    clear h3 e
    generalize l.length = n at *
    go_enter Try.func87, Try.ntmps87
    go_wp2
    go_ret
    exact ⟨rfl, Below.refl _ _⟩

def Dsk.crash (d : Dsk) (l : List Bool) : Dsk := ⟨settleTo d.last d.cache (fun i => l.getD i false) d.cache.length, [], d.failed⟩

set_option maxRecDepth 100000 in
set_option maxHeartbeats 2000000 in
theorem disk_crash (T : Nat → Nat) (t p : Nat) (d : Dsk) (v : Value) (l : List Bool) (w : World) (h : DiskAt w T t p d) (ht : 2 ≤ t) (hv : ∀ k, w.heap.size ≤ k → T k = 0) (hm : d.cache.length ≤ 1000000) (hb : Bits w T v l) :
    Calls Try.prog 56 #[.pointer (some ⟨p, 0, none⟩), v] w fun e w' => e = .returned (.tuple #[]) ∧ DiskAt w' T t p (d.crash l) ∧ Chg (fun k => T k = t) w w' := by
  have h0 : Chg (fun k => T k = t) w (w.alloc (.cells #[v] 74)) := (Chg.refl _ _).alloc _
  have hA : At (w.alloc (.cells #[v] 74)) w.heap.size #[v] 74 := At.new _ _ _
  have hd1 : DiskAt (w.alloc (.cells #[v] 74)) T t p d := h.keep (S := fun _ => False) ((Chg.refl _ _).alloc _) (fun _ _ h => h)
  have hb1 : Bits (w.alloc (.cells #[v] 74)) T v l := hb.keep h0 (fun k hk => by omega)
  have hs := Lib.hid (disk_settle_crash T t p d w.heap.size (fun i => l.getD i false) _ hd1 hm (fun i W hi hc => crash_keep T w.heap.size i v l W (hA.mod hc (by rw [hv _ (Nat.le_refl _)]; omega)) (hb1.keep hc (fun k hk => by omega)) (by omega)))
  obtain ⟨va, vc, rfl⟩ := hb.shape
  clear h hA hd1 hb1 hb
  go_enter Try.func56, Try.ntmps56
  go_wp2_with (go_at_call 84; refine hs.out.mono ?_; rintro e w1 ⟨rfl, r1, r2⟩)
  go_end0
  exact ⟨rfl, r1, h0.trans r2⟩

end Go.Proofs.Ytkcfmkhakghniaa
