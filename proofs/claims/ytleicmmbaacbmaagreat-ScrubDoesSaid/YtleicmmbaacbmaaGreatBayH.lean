/- A bay of disks: Read, Write, Flush, whatever the bay. -/
import Derived.Test.YtleicmmbaacbmaaGreatMrg6
set_option linter.unusedVariables false
namespace Go.Proofs.YtleicmmbaacbmaaGreat
open Go.RowKit

/-- A change behind a change; the second's blocks are, among the old ones, the first's. -/
theorem chg_and {S S' : Nat → Prop} {w w1 w2 : World} (h1 : Chg S w w1) (h2 : Chg S' w1 w2) (h : ∀ q, q < w.heap.size → S' q → S q) : Chg S w w2 :=
  ⟨h2.os.trans h1.os, h2.tape.trans h1.tape, h2.output.trans h1.output, Nat.le_trans h1.size h2.size, fun q hq hn => (h2.block q (Nat.lt_of_lt_of_le hq h1.size) (fun hs => hn (h q hq hs))).trans (h1.block q hq hn)⟩

theorem BayAt.virgin {w : World} {T : Nat → Nat} {b : Nat} {s : BaySt} (h : BayAt w T b s) : ∀ k, w.heap.size ≤ k → T k = 0 := by
  obtain ⟨gs, ptr, tg, dp, h⟩ := h
  exact h.virgin
theorem BayAt.tb {w : World} {T : Nat → Nat} {b : Nat} {s : BaySt} (h : BayAt w T b s) : T b = 1 := by
  obtain ⟨gs, ptr, tg, dp, h⟩ := h
  exact h.tb

/-- The beginning of an operation: why it is not done, or the device that does it. -/
def BaySt.start (s : BaySt) (j : Nat) (k : Int) : BaySt × (Nat ⊕ Dev) :=
  if ¬ (0 ≤ k ∧ k < (s.n : Int)) then (s, .inl 1)
  else if s.trip = 0 then ({ s with dark := true, trip := -1 }, .inl 50)
  else if s.dark = true then (s, .inl 50)
  else match s.pos (k.toNat * 3) with
    | none => ({ s with trip := (if 0 < s.trip then s.trip - 1 else s.trip), cnt := fun q => if q = j then s.cnt j + 1 else s.cnt q }, .inl 51)
    | some x => (s.begun j (k.toNat * 3) x.use, .inr x.use)

/-- A device's place has a new disk in it. -/
def BaySt.laid (s : BaySt) (i : Nat) (y : Dev) : BaySt := { s with pos := fun q => if q = i then some y else s.pos q }

def BaySt.read (s : BaySt) (k z : Int) : Nat × Option Sec × BaySt :=
  match s.start 0 k with
  | (s', .inl c) => (c, none, s')
  | (s', .inr x) => ((x.d.read z).1, (x.d.read z).2, s')
def BaySt.write (s : BaySt) (k z : Int) (l : List UInt8) : Nat × BaySt :=
  match s.start 1 k with
  | (s', .inl c) => (c, s')
  | (s', .inr x) => ((x.d.write z l).1, s'.laid (k.toNat * 3) ⟨(x.d.write z l).2, x.worn, x.left⟩)
def BaySt.flush (s : BaySt) (k : Int) : Nat × BaySt :=
  match s.start 2 k with
  | (s', .inl c) => (c, s')
  | (s', .inr x) => (x.d.flush.1, s'.laid (k.toNat * 3) ⟨x.d.flush.2, x.worn, x.left⟩)

/-- No cache is long. -/
def BaySt.small (s : BaySt) (m : Nat) : Prop := ∀ i, i < 3 * s.n → ∀ x, s.pos i = some x → x.d.cache.length ≤ m

theorem use_small {x : Dev} {m : Nat} (h : x.d.cache.length ≤ m) : x.use.d.cache.length ≤ m := by
  unfold Dev.use
  split
  · exact h
  · split
    · simp
    · exact h

/-- What a read leaves. -/
def ReadPost' (w : World) (T : Nat → Nat) (b : Nat) (r : Nat × Option Sec × BaySt) (e : Ending) (w' : World) : Prop :=
  ∃ v, e = .returned (.tuple #[v, .int .u16 (r.1 : Nat)]) ∧ BayAt w' T b r.2.2 ∧ Chg (fun k => T k ≠ 0) w w' ∧ (∀ x, r.2.1 = some x → w'.ownsRow w.heap.size 5 1 v 128 (ucells x)) ∧ (r.2.1 = none → v = .slice none 0 0)
/-- What an operation that may turn a device leaves. -/
def BayPost (w : World) (T : Nat → Nat) (b : Nat) (s' : BaySt) (w' : World) : Prop := ∃ T', BayAt w' T' b s' ∧ (∀ q, q < w.heap.size → T' q = T q) ∧ Chg (fun q => T q ≠ 0) w w'

theorem BayPost.same {w w' : World} {T : Nat → Nat} {b : Nat} {s' : BaySt} (h : BayAt w' T b s') (hc : Chg (fun q => T q ≠ 0) w w') : BayPost w T b s' w' := ⟨T, h, fun _ _ => rfl, hc⟩
theorem BayPost.trans {w w1 w2 : World} {T T1 : Nat → Nat} {b : Nat} {s2 : BaySt} (h1 : ∀ q, q < w.heap.size → T1 q = T q) (hc : Chg (fun q => T q ≠ 0) w w1) (h : BayPost w1 T1 b s2 w2) : BayPost w T b s2 w2 := by
  obtain ⟨T', k1, k2, k3⟩ := h
  exact ⟨T', k1, fun q hq => (k2 q (Nat.lt_of_lt_of_le hq hc.size)).trans (h1 q hq), chg_and hc k3 (fun q hq hs => by rw [← h1 q hq]; exact hs)⟩

set_option maxRecDepth 100000 in
set_option maxHeartbeats 4000000 in
theorem bay_read_err {w : World} {T : Nat → Nat} {b : Nat} {s s' : BaySt} (h : BayAt w T b s) (k z : Int) (c : Nat)
    (hop : ∀ W, BayAt W T b s → Calls Tryz.prog 57 #[.pointer (some ⟨b, 0, none⟩), .int .i64 k, .func (.func 107) #[] #[], .func (.func 108) #[] #[.pointer (some ⟨w.heap.size, 0, none⟩), .pointer (some ⟨w.heap.size + 1, 0, none⟩)]] W fun e W' => e = .returned (.int .u16 (c : Nat)) ∧ BayAt W' T b s' ∧ Chg (fun q => T q ≠ 0) W W') :
    Calls Tryz.prog 103 #[.pointer (some ⟨b, 0, none⟩), .int .i64 k, .int .i64 z] w fun e w' => e = .returned (.tuple #[.slice none 0 0, .int .u16 (c : Nat)]) ∧ BayAt w' T b s' ∧ Chg (fun q => T q ≠ 0) w w' := by
  have hB1 : BayAt ((w.alloc (.cells #[.int .i64 z] 3)).alloc (.cells #[.slice none 0 0] 53)) T b s := h.keep (S := fun _ => False) (((Chg.refl _ _).alloc _).alloc _) (fun _ _ h => h)
  have e1 : (w.alloc (.cells #[.int .i64 z] 3)).heap.size = w.heap.size + 1 := size_alloc _ _
  have hv1 := h.virgin (w.heap.size + 1) (by omega)
  have hD1 : At ((w.alloc (.cells #[.int .i64 z] 3)).alloc (.cells #[.slice none 0 0] 53)) (w.heap.size + 1) #[.slice none 0 0] 53 := At.new2 _ _ _ _
  have h0 : Chg (fun q => T q ≠ 0) w ((w.alloc (.cells #[.int .i64 z] 3)).alloc (.cells #[.slice none 0 0] 53)) := ((Chg.refl _ _).alloc _).alloc _
  have hop := Lib.hid (hop _ hB1)
  have HD := Lib.hid hD1
  have hvir := Lib.hid h.virgin
  clear hB1 hD1 h
  go_enter Tryz.func103, Tryz.ntmps103
  go_wp2_with (go_at_call 57; refine hop.out.mono ?_; rintro e w2 ⟨rfl, hB, k2⟩; have k1 := HD.out.mod k2 (by rw [hv1]; simp); have d0 : w2.cell? ⟨w.heap.size + 1, 0, none⟩ = some (.slice none 0 0) := k1.cell 0; have f0 := k1.free 0; have K1 := Lib.hid k1; have HB := Lib.hid hB; clear k1 hB)
  have hset : Chg (fun q => q = w.heap.size + 1) w2 (w2.setCell ⟨w.heap.size + 1, 0, none⟩ (.slice none 0 0)) := Chg.setCell (S := fun q => q = w.heap.size + 1) (Chg.refl _ _) ⟨w.heap.size + 1, 0, none⟩ (.inl rfl) _
  have hrd : (w2.setCell ⟨w.heap.size + 1, 0, none⟩ (.slice none 0 0)).cell? ⟨w.heap.size + 1, 0, none⟩ = some (.slice none 0 0) := (K1.out.set 0 (.slice none 0 0)).cell 0
  have hb := HB.out.keep hset (fun q hq e => by subst e; omega)
  have hch : Chg (fun q => T q ≠ 0) w (w2.setCell ⟨w.heap.size + 1, 0, none⟩ (.slice none 0 0)) := chg_and (h0.trans k2) hset (fun q hq e => by omega)
  (try simp only [Exit.inBlock, Exit.then])
  refine bodyPost_ret (v := .tuple #[.slice none 0 0, .int .u16 (c : Nat)]) ?_ rfl ⟨rfl, hb, hch⟩
  rw [results_cell_tmp rfl]
  go_simp

set_option maxHeartbeats 4000000 in
theorem bay_read {w : World} {T : Nat → Nat} {b : Nat} {s : BaySt} (h : BayAt w T b s) (k z : Int) (hcnt : s.cnt 0 ≤ 1000000000000) (hm : s.small 1000000) :
    Calls Tryz.prog 103 #[.pointer (some ⟨b, 0, none⟩), .int .i64 k, .int .i64 z] w (ReadPost' w T b (s.read k z)) := by
  unfold BaySt.read BaySt.start
  by_cases hk : 0 ≤ k ∧ k < (s.n : Int)
  · rw [if_neg (by simpa using hk)]
    obtain ⟨k, rfl⟩ : ∃ q : Nat, k = q := ⟨k.toNat, by omega⟩
    have hkn : k < s.n := by omega
    rw [show ((k : Int)).toNat = k by omega]
    by_cases ht : s.trip = 0
    · rw [if_pos ht]
      refine (bay_read_err (s' := { s with dark := true, trip := -1 }) h k z 50 fun W hW => ?_).mono fun e w' ⟨h1, h2, h3⟩ => ⟨_, h1, h2, h3, fun x hx => by simp at hx, fun _ => rfl⟩
      obtain ⟨gs, ptr, tg, dp, hW⟩ := hW
      refine (read_trips hW _ _ k hkn ht).mono fun e W' ⟨h1, h2, h3⟩ => ⟨h1, ⟨gs, ptr, tg, dp, h2⟩, h3.mono fun q hq => ?_⟩
      subst hq; rw [hW.tb]; simp
    · rw [if_neg ht]
      by_cases hd : s.dark = true
      · rw [if_pos hd]
        refine (bay_read_err (s' := s) h k z 50 fun W hW => ?_).mono fun e w' ⟨h1, h2, h3⟩ => ⟨_, h1, h2, h3, fun x hx => by simp at hx, fun _ => rfl⟩
        obtain ⟨gs, ptr, tg, dp, hW⟩ := hW
        refine (read_dark hW _ _ k hkn ht hd).mono fun e W' ⟨h1, h2⟩ => ⟨h1, ?_, ?_⟩
        · rw [h2]; exact ⟨gs, ptr, tg, dp, hW⟩
        · rw [h2]; exact Chg.refl _ _
      · rw [if_neg hd]
        cases hx : s.pos (k * 3) with
        | none =>
          refine (bay_read_err (s' := { s with trip := (if 0 < s.trip then s.trip - 1 else s.trip), cnt := fun q => if q = 0 then s.cnt 0 + 1 else s.cnt q }) h k z 51 fun W hW => ?_).mono fun e w' ⟨h1, h2, h3⟩ => ⟨_, h1, h2, h3, fun x hx => by simp at hx, fun _ => rfl⟩
          obtain ⟨gs, ptr, tg, dp, hW⟩ := hW
          refine (read_empty hW _ _ k hkn ht (by simpa using hd) hcnt (hW.none' (k * 3) (by omega) hx)).mono fun e W' ⟨h1, h2, h3⟩ => ⟨h1, ⟨gs, ptr, tg, dp, h2⟩, h3.mono fun q hq => ?_⟩
          subst hq; rw [hW.tb]; simp
        | some x =>
          obtain ⟨gs, ptr, tg, dp, h⟩ := h
          exact (bay_read_some h k z hkn ht (by simpa using hd) hcnt x hx (hm _ (by omega) x hx)).mono fun e w' ⟨v, h1, h2, h3, h4, h5⟩ => ⟨v, h1, ⟨gs, ptr, tg, dp, h2⟩, h3, h4, h5⟩
  · rw [if_pos (by simpa using hk)]
    refine (bay_read_err (s' := s) h k z 1 fun W hW => ?_).mono fun e w' ⟨h1, h2, h3⟩ => ⟨_, h1, h2, h3, fun x hx => by simp at hx, fun _ => rfl⟩
    obtain ⟨gs, ptr, tg, dp, hW⟩ := hW
    refine (read_no hW _ _ k hk).mono fun e W' ⟨h1, h2⟩ => ⟨h1, ?_, ?_⟩
    · rw [h2]; exact ⟨gs, ptr, tg, dp, hW⟩
    · rw [h2]; exact Chg.refl _ _

set_option maxRecDepth 100000 in
set_option maxHeartbeats 4000000 in
theorem bay_write_err {w : World} {T : Nat → Nat} {b : Nat} {s s' : BaySt} (h : BayAt w T b s) (k z : Int) (c : Nat) (v : Value) (l : List UInt8) (hv : Seg w v l)
    (hop : ∀ W, BayAt W T b s → Calls Tryz.prog 57 #[.pointer (some ⟨b, 0, none⟩), .int .i64 k, .func (.func 58) #[] #[], .func (.func 59) #[] #[.pointer (some ⟨w.heap.size, 0, none⟩), .pointer (some ⟨w.heap.size + 1, 0, none⟩)]] W fun e W' => e = .returned (.int .u16 (c : Nat)) ∧ BayAt W' T b s' ∧ Chg (fun q => T q ≠ 0) W W') :
    Calls Tryz.prog 19 #[.pointer (some ⟨b, 0, none⟩), .int .i64 k, .int .i64 z, v] w fun e w' => e = .returned (.int .u16 (c : Nat)) ∧ BayAt w' T b s' ∧ Chg (fun q => T q ≠ 0) w w' := by
  obtain ⟨va, vc, rfl⟩ := hv.shape
  have hB1 : BayAt ((w.alloc (.cells #[.int .i64 z] 3)).alloc (.cells #[.slice va l.length vc] 53)) T b s := h.keep (S := fun _ => False) (((Chg.refl _ _).alloc _).alloc _) (fun _ _ h => h)
  have e1 : (w.alloc (.cells #[.int .i64 z] 3)).heap.size = w.heap.size + 1 := size_alloc _ _
  have h0 : Chg (fun q => T q ≠ 0) w ((w.alloc (.cells #[.int .i64 z] 3)).alloc (.cells #[.slice va l.length vc] 53)) := ((Chg.refl _ _).alloc _).alloc _
  have hop := Lib.hid (hop _ hB1)
  clear hB1 h hv
  go_enter Tryz.func19, Tryz.ntmps19
  go_wp2_with (go_at_call 57; refine hop.out.mono ?_; rintro e w2 ⟨rfl, hB, k2⟩)
  go_ret
  exact ⟨rfl, hB, h0.trans k2⟩

theorem laid_begun (s : BaySt) (j i : Nat) (x y : Dev) : (s.begun j i x).laid i y = s.begun j i y := begun_again s j i x y

set_option maxHeartbeats 4000000 in
theorem bay_write_if {w : World} {T : Nat → Nat} {b : Nat} {s : BaySt} (h : BayAt w T b s) (k z : Int) (v : Value) (l : List UInt8) (hcnt : s.cnt 1 ≤ 1000000000000) (hm : s.small 1000000) (hv : Seg w v l) (hvT : l.length = 128 → ∀ a n c, v = .slice (some a) n c → T a.block = 0) :
    Calls Tryz.prog 19 #[.pointer (some ⟨b, 0, none⟩), .int .i64 k, .int .i64 z, v] w fun e w' => e = .returned (.int .u16 ((s.write k z l).1 : Nat)) ∧ BayPost w T b (s.write k z l).2 w' := by
  unfold BaySt.write BaySt.start
  by_cases hk : 0 ≤ k ∧ k < (s.n : Int)
  · rw [if_neg (by simpa using hk)]
    obtain ⟨k, rfl⟩ : ∃ q : Nat, k = q := ⟨k.toNat, by omega⟩
    have hkn : k < s.n := by omega
    rw [show ((k : Int)).toNat = k by omega]
    by_cases ht : s.trip = 0
    · rw [if_pos ht]
      refine (bay_write_err (s' := { s with dark := true, trip := -1 }) h k z 50 v l hv fun W hW => ?_).mono fun e w' ⟨h1, h2, h3⟩ => ⟨h1, .same h2 h3⟩
      obtain ⟨gs, ptr, tg, dp, hW⟩ := hW
      refine (write_trips hW _ _ k hkn ht).mono fun e W' ⟨h1, h2, h3⟩ => ⟨h1, ⟨gs, ptr, tg, dp, h2⟩, h3.mono fun q hq => ?_⟩
      subst hq; rw [hW.tb]; simp
    · rw [if_neg ht]
      by_cases hd : s.dark = true
      · rw [if_pos hd]
        refine (bay_write_err (s' := s) h k z 50 v l hv fun W hW => ?_).mono fun e w' ⟨h1, h2, h3⟩ => ⟨h1, .same h2 h3⟩
        obtain ⟨gs, ptr, tg, dp, hW⟩ := hW
        refine (write_dark hW _ _ k hkn ht hd).mono fun e W' ⟨h1, h2⟩ => ⟨h1, ?_, ?_⟩
        · rw [h2]; exact ⟨gs, ptr, tg, dp, hW⟩
        · rw [h2]; exact Chg.refl _ _
      · rw [if_neg hd]
        cases hx : s.pos (k * 3) with
        | none =>
          refine (bay_write_err (s' := { s with trip := (if 0 < s.trip then s.trip - 1 else s.trip), cnt := fun q => if q = 1 then s.cnt 1 + 1 else s.cnt q }) h k z 51 v l hv fun W hW => ?_).mono fun e w' ⟨h1, h2, h3⟩ => ⟨h1, .same h2 h3⟩
          obtain ⟨gs, ptr, tg, dp, hW⟩ := hW
          refine (write_empty hW _ _ k hkn ht (by simpa using hd) hcnt (hW.none' (k * 3) (by omega) hx)).mono fun e W' ⟨h1, h2, h3⟩ => ⟨h1, ⟨gs, ptr, tg, dp, h2⟩, h3.mono fun q hq => ?_⟩
          subst hq; rw [hW.tb]; simp
        | some x =>
          obtain ⟨gs, ptr, tg, dp, h⟩ := h
          have hs := hm _ (by omega) x hx
          refine (bay_write_some h k z v l hkn ht (by simpa using hd) hcnt x hx hs (use_small hs) hv hvT).mono fun e w' ⟨h1, T', h2, h3, h4⟩ => ⟨h1, T', ?_, h3, h4⟩
          show BayAt w' T' b ((s.begun 1 (k * 3) x.use).laid (k * 3) _)
          rw [laid_begun]
          exact ⟨gs, ptr, tg, dp, h2⟩
  · rw [if_pos (by simpa using hk)]
    refine (bay_write_err (s' := s) h k z 1 v l hv fun W hW => ?_).mono fun e w' ⟨h1, h2, h3⟩ => ⟨h1, .same h2 h3⟩
    obtain ⟨gs, ptr, tg, dp, hW⟩ := hW
    refine (write_no hW _ _ k hk).mono fun e W' ⟨h1, h2⟩ => ⟨h1, ?_, ?_⟩
    · rw [h2]; exact ⟨gs, ptr, tg, dp, hW⟩
    · rw [h2]; exact Chg.refl _ _

theorem bay_write {w : World} {T : Nat → Nat} {b : Nat} {s : BaySt} (h : BayAt w T b s) (k z : Int) (v : Value) (l : List UInt8) (hcnt : s.cnt 1 ≤ 1000000000000) (hm : s.small 1000000) (hv : Seg w v l) (hvT : ∀ a n c, v = .slice (some a) n c → T a.block = 0) :
    Calls Tryz.prog 19 #[.pointer (some ⟨b, 0, none⟩), .int .i64 k, .int .i64 z, v] w fun e w' => e = .returned (.int .u16 ((s.write k z l).1 : Nat)) ∧ BayPost w T b (s.write k z l).2 w' :=
  bay_write_if h k z v l hcnt hm hv (fun _ => hvT)

set_option maxRecDepth 100000 in
set_option maxHeartbeats 4000000 in
theorem bay_flush_err {w : World} {T : Nat → Nat} {b : Nat} {s s' : BaySt} (h : BayAt w T b s) (k : Int) (c : Nat)
    (hop : Calls Tryz.prog 57 #[.pointer (some ⟨b, 0, none⟩), .int .i64 k, .func (.func 96) #[] #[], .func (.func 97) #[] #[]] w fun e W' => e = .returned (.int .u16 (c : Nat)) ∧ BayAt W' T b s' ∧ Chg (fun q => T q ≠ 0) w W') :
    Calls Tryz.prog 67 #[.pointer (some ⟨b, 0, none⟩), .int .i64 k] w fun e w' => e = .returned (.int .u16 (c : Nat)) ∧ BayAt w' T b s' ∧ Chg (fun q => T q ≠ 0) w w' := by
  have hop := Lib.hid hop
  clear h
  go_enter Tryz.func67, Tryz.ntmps67
  go_wp2_with (go_at_call 57; refine hop.out.mono ?_; rintro e w2 ⟨rfl, hB, k2⟩)
  go_ret
  exact ⟨rfl, hB, k2⟩

set_option maxHeartbeats 4000000 in
theorem bay_flush {w : World} {T : Nat → Nat} {b : Nat} {s : BaySt} (h : BayAt w T b s) (k : Int) (hcnt : s.cnt 2 ≤ 1000000000000) (hm : s.small 1000000) :
    Calls Tryz.prog 67 #[.pointer (some ⟨b, 0, none⟩), .int .i64 k] w fun e w' => e = .returned (.int .u16 ((s.flush k).1 : Nat)) ∧ BayPost w T b (s.flush k).2 w' := by
  unfold BaySt.flush BaySt.start
  by_cases hk : 0 ≤ k ∧ k < (s.n : Int)
  · rw [if_neg (by simpa using hk)]
    obtain ⟨k, rfl⟩ : ∃ q : Nat, k = q := ⟨k.toNat, by omega⟩
    have hkn : k < s.n := by omega
    rw [show ((k : Int)).toNat = k by omega]
    have hW := h
    obtain ⟨gs, ptr, tg, dp, hW⟩ := hW
    by_cases ht : s.trip = 0
    · rw [if_pos ht]
      refine (bay_flush_err (s' := { s with dark := true, trip := -1 }) h k 50 ?_).mono fun e w' ⟨h1, h2, h3⟩ => ⟨h1, .same h2 h3⟩
      refine (flush_trips hW k hkn ht).mono fun e W' ⟨h1, h2, h3⟩ => ⟨h1, ⟨gs, ptr, tg, dp, h2⟩, h3.mono fun q hq => ?_⟩
      subst hq; rw [hW.tb]; simp
    · rw [if_neg ht]
      by_cases hd : s.dark = true
      · rw [if_pos hd]
        refine (bay_flush_err (s' := s) h k 50 ?_).mono fun e w' ⟨h1, h2, h3⟩ => ⟨h1, .same h2 h3⟩
        refine (flush_dark hW k hkn ht hd).mono fun e W' ⟨h1, h2⟩ => ⟨h1, ?_, ?_⟩
        · rw [h2]; exact ⟨gs, ptr, tg, dp, hW⟩
        · rw [h2]; exact Chg.refl _ _
      · rw [if_neg hd]
        cases hx : s.pos (k * 3) with
        | none =>
          refine (bay_flush_err (s' := { s with trip := (if 0 < s.trip then s.trip - 1 else s.trip), cnt := fun q => if q = 2 then s.cnt 2 + 1 else s.cnt q }) h k 51 ?_).mono fun e w' ⟨h1, h2, h3⟩ => ⟨h1, .same h2 h3⟩
          refine (flush_empty hW k hkn ht (by simpa using hd) hcnt (hW.none' (k * 3) (by omega) hx)).mono fun e W' ⟨h1, h2, h3⟩ => ⟨h1, ⟨gs, ptr, tg, dp, h2⟩, h3.mono fun q hq => ?_⟩
          subst hq; rw [hW.tb]; simp
        | some x =>
          have hs := hm _ (by omega) x hx
          refine (bay_flush_some hW k hkn ht (by simpa using hd) hcnt x hx hs (use_small hs)).mono fun e w' ⟨h1, T', h2, h3, h4⟩ => ⟨h1, T', ?_, h3, h4⟩
          show BayAt w' T' b ((s.begun 2 (k * 3) x.use).laid (k * 3) _)
          rw [laid_begun]
          exact ⟨gs, ptr, tg, dp, h2⟩
  · rw [if_pos (by simpa using hk)]
    refine (bay_flush_err (s' := s) h k 1 ?_).mono fun e w' ⟨h1, h2, h3⟩ => ⟨h1, .same h2 h3⟩
    obtain ⟨gs, ptr, tg, dp, hW⟩ := h
    refine (flush_no hW k hk).mono fun e W' ⟨h1, h2⟩ => ⟨h1, ?_, ?_⟩
    · rw [h2]; exact ⟨gs, ptr, tg, dp, hW⟩
    · rw [h2]; exact Chg.refl _ _

end Go.Proofs.YtleicmmbaacbmaaGreat
