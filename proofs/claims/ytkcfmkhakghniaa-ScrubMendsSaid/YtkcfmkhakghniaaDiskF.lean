/- A disk: flushed, failed, read and written where it may not be. -/
import Derived.Test.YtkcfmkhakghniaaDiskE
set_option linter.unusedVariables false
namespace Go.Proofs.Ytkcfmkhakghniaa
open Go.RowKit

theorem settleTo_none (last : List Sec) (c : List (Nat × Sec)) : ∀ i, settleTo last c (fun _ => false) i = last
  | 0 => rfl
  | i + 1 => by
    show (match c[i]? with | some x => if false then (settleTo last c (fun _ => false) i).set x.1 x.2 else settleTo last c (fun _ => false) i | none => settleTo last c (fun _ => false) i) = last
    rw [settleTo_none last c i]
    split <;> rfl

theorem settleTo_cur (last : List Sec) (c : List (Nat × Sec)) (hin : ∀ x ∈ c, x.1 < last.length) (a : Nat) (ha : a < last.length) : ∀ i, i ≤ c.length →
    (settleTo last c (fun _ => true) i).getD a zsec = (waits (c.take i) (a : Int)).getD (last.getD a zsec)
  | 0, _ => by simp [settleTo, waits_nil]
  | i + 1, hi => by
    have hi' : i < c.length := hi
    have e : settleTo last c (fun _ => true) (i + 1) = (settleTo last c (fun _ => true) i).set c[i].1 c[i].2 := by
      show (match c[i]? with | some x => if true then (settleTo last c (fun _ => true) i).set x.1 x.2 else settleTo last c (fun _ => true) i | none => settleTo last c (fun _ => true) i) = _
      rw [List.getElem?_eq_getElem hi']
      rfl
    have ih := settleTo_cur last c hin a ha i (by omega)
    have et : c.take (i + 1) = c.take i ++ [(c[i].1, c[i].2)] := by rw [List.take_add_one, List.getElem?_eq_getElem hi']; rfl
    rw [e, et, waits_snoc, List.getD_eq_getElem?_getD, List.getElem?_set]
    by_cases h : c[i].1 = a
    · rw [if_pos h, if_pos (by rw [settleTo_length]; omega), if_pos (by exact_mod_cast h)]
      rfl
    · rw [if_neg h, if_neg (by exact_mod_cast h), ← ih, List.getD_eq_getElem?_getD]

/-- A disk with nothing that waits. -/
def Dsk.settled (d : Dsk) : Dsk := ⟨settleTo d.last d.cache (fun _ => true) d.cache.length, [], d.failed⟩
theorem settled_cur {W : World} {T : Nat → Nat} {t p : Nat} {d : Dsk} (h : DiskAt W T t p d) (a : Nat) (ha : a < d.last.length) : d.settled.cur a = d.cur a := by
  have := settleTo_cur d.last d.cache h.cin a ha d.cache.length (Nat.le_refl _)
  rw [List.take_length] at this
  unfold Dsk.cur Dsk.settled
  simp only [waits_nil, Option.getD_none]
  exact this

set_option maxHeartbeats 1000000 in
theorem yes_any (i : Nat) (w : World) : Calls Try.prog 85 #[.int .i64 i] w fun e w' => e = .returned (.bool true) ∧ Below w.heap.size w w' := by
  go_enter Try.func85, Try.ntmps85
  go_wp2
  go_ret
  exact ⟨rfl, Below.refl _ _⟩

set_option maxHeartbeats 1000000 in
theorem no_any (i : Nat) (w : World) : Calls Try.prog 124 #[.int .i64 i] w fun e w' => e = .returned (.bool false) ∧ Below w.heap.size w w' := by
  go_enter Try.func124, Try.ntmps124
  go_wp2
  go_ret
  exact ⟨rfl, Below.refl _ _⟩

set_option maxRecDepth 100000 in
set_option maxHeartbeats 2000000 in
theorem disk_flush (T : Nat → Nat) (t p : Nat) (d : Dsk) (w : World) (h : DiskAt w T t p d) (hf : d.failed = false) (hm : d.cache.length ≤ 1000000) :
    Calls Try.prog 51 #[.pointer (some ⟨p, 0, none⟩)] w fun e w' => e = .returned (.int .u16 0) ∧ DiskAt w' T t p d.settled ∧ Chg (fun k => T k = t) w w' := by
  have hs := Lib.hid (disk_settle_flush T t p d (fun _ => true) w h hm (fun i W _ _ => yes_any i W))
  obtain ⟨gl, gm, cv, f, h1, _⟩ := h.at'
  have c3 : w.cell? ⟨p, 3, none⟩ = some (.bool false) := by rw [← hf]; exact h1.cell 3
  clear h h1
  go_enter Try.func51, Try.ntmps51
  go_wp2_with (go_at_call 84; refine hs.out.mono ?_; rintro e w1 ⟨rfl, r1, r2⟩)
  go_ret
  exact ⟨rfl, r1, r2⟩

set_option maxHeartbeats 1000000 in
theorem disk_flush_bad (T : Nat → Nat) (t p : Nat) (d : Dsk) (w : World) (h : DiskAt w T t p d) (hf : d.failed = true) :
    Calls Try.prog 51 #[.pointer (some ⟨p, 0, none⟩)] w fun e w' => e = .returned (.int .u16 2) ∧ w' = w := by
  obtain ⟨gl, gm, cv, f, h1, _⟩ := h.at'
  have c3 : w.cell? ⟨p, 3, none⟩ = some (.bool true) := by rw [← hf]; exact h1.cell 3
  clear h h1
  go_enter Try.func51, Try.ntmps51
  go_wp2
  go_ret
  exact ⟨rfl, rfl⟩

set_option maxRecDepth 100000 in
set_option maxHeartbeats 2000000 in
theorem disk_fail (T : Nat → Nat) (t p : Nat) (d : Dsk) (w : World) (h : DiskAt w T t p d) (hm : d.cache.length ≤ 1000000) :
    Calls Try.prog 108 #[.pointer (some ⟨p, 0, none⟩)] w fun e w' => e = .returned (.tuple #[]) ∧ DiskAt w' T t p ⟨d.last, [], true⟩ ∧ Chg (fun k => T k = t) w w' := by
  obtain ⟨gl, gm, cv, f, h1, h2, h3, h4, h5, h6, h7, h8⟩ := h.at'
  have hset : Chg (fun k => k = p) w (w.setCell ⟨p, 3, none⟩ (.bool true)) := Chg.setCell (S := fun k => k = p) (Chg.refl _ _) ⟨p, 3, none⟩ (.inl rfl) _
  have hpr : cv.ownBlock ≠ some p := at_ne_row h1 h3 (by decide)
  have hpm : gm ≠ p := fun e => by subst e; exact h4.noCells h1
  have hlp : gl ≠ p := fun e => by
    have a := h1; have b := h2
    subst e
    unfold At at a b
    rw [a] at b
    simp only [Option.some.injEq, Obj.cells.injEq] at b
    exact absurd b.2.1 (by decide)
  have hd2 : DiskAt (w.setCell ⟨p, 3, none⟩ (.bool true)) T t p ⟨d.last, d.cache, true⟩ :=
    ⟨⟨gl, gm, cv, f, h1.set 3 (.bool true), h2.mod hset hlp, ownsRow_mod h3 hset (fun g hg e => hpr (e ▸ hg)), h4.mod hset hpm, h5, h6, h7, h8⟩, h.tag, h.len, h.clen, h.cin, h.few, h.some'⟩
  have hs := Lib.hid (disk_settle_fail T t p ⟨d.last, d.cache, true⟩ (fun _ => false) _ hd2 hm (fun i W _ _ => no_any i W))
  have hall : Chg (fun k => T k = t) w (w.setCell ⟨p, 3, none⟩ (.bool true)) := hset.mono fun k hk => by subst hk; exact h.tag
  have c3 : w.cell? ⟨p, 3, none⟩ = some (.bool d.failed) := h1.cell 3
  have f3 := h1.free 3
  clear h h1 h2 h3 h4 h5 hd2 hset
  go_enter Try.func108, Try.ntmps108
  go_wp2_with (go_at_call 84; refine hs.out.mono ?_; rintro e w1 ⟨rfl, r1, r2⟩)
  go_end0
  refine ⟨rfl, ?_, hall.trans r2⟩
  rw [settleTo_none] at r1
  exact r1

set_option maxRecDepth 100000 in
set_option maxHeartbeats 2000000 in
theorem disk_read_bad (T : Nat → Nat) (t p : Nat) (z : Int) (d : Dsk) (w : World) (h : DiskAt w T t p d) (hz : d.may z ≠ 0) :
    Calls Try.prog 54 #[.pointer (some ⟨p, 0, none⟩), .int .i64 z] w fun e w' => e = .returned (.tuple #[.slice none 0 0, .int .u16 (d.may z : Nat)]) ∧ w' = w := by
  have hmay := Lib.hid (disk_may T t p d z w h)
  have hne : (((d.may z : Nat) : Int) != 0) = true := by simp; omega
  clear h
  generalize d.may z = c at *
  go_enter Try.func54, Try.ntmps54
  go_wp2_with (go_at_call 77; refine hmay.out.mono ?_; rintro e w1 ⟨rfl, rfl⟩)
  go_ret2
  exact ⟨rfl, rfl⟩

set_option maxRecDepth 100000 in
set_option maxHeartbeats 2000000 in
theorem disk_write_bad (T : Nat → Nat) (t p : Nat) (z : Int) (v : Value) (d : Dsk) (w : World) (h : DiskAt w T t p d) (hz : d.may z ≠ 0) :
    Calls Try.prog 43 #[.pointer (some ⟨p, 0, none⟩), .int .i64 z, v] w fun e w' => e = .returned (.int .u16 (d.may z : Nat)) ∧ w' = w := by
  have hmay := Lib.hid (disk_may T t p d z w h)
  have hne : (((d.may z : Nat) : Int) != 0) = true := by simp; omega
  clear h
  generalize d.may z = c at *
  go_enter Try.func43, Try.ntmps43
  go_wp2_with (go_at_call 77; refine hmay.out.mono ?_; rintro e w1 ⟨rfl, rfl⟩)
  go_ret
  exact ⟨rfl, rfl⟩

set_option maxRecDepth 100000 in
set_option maxHeartbeats 2000000 in
theorem disk_write_long (T : Nat → Nat) (t p : Nat) (z : Int) (a : Option Addr) (n c : Nat) (d : Dsk) (w : World) (h : DiskAt w T t p d) (hz : d.may z = 0) (hn : n ≠ 128) :
    Calls Try.prog 43 #[.pointer (some ⟨p, 0, none⟩), .int .i64 z, .slice a n c] w fun e w' => e = .returned (.int .u16 4) ∧ w' = w := by
  have hmay := Lib.hid (disk_may T t p d z w h)
  rw [hz] at hmay
  have hne : ((n : Int) != 128) = true := by simp; omega
  clear h hz
  go_enter Try.func43, Try.ntmps43
  go_wp2_with (go_at_call 77; refine hmay.out.mono ?_; rintro e w1 ⟨rfl, rfl⟩)
  go_ret
  exact ⟨rfl, rfl⟩

end Go.Proofs.Ytkcfmkhakghniaa
