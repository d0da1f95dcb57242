/- Several texts in one: XorA, XorB, Calm. -/
import Derived.Test.YtleicmmbaacbmaaGreatDiskB
import Derived.Test.YtleicmmbaacbmaaGreatBayK
/- Sums of rows of bytes: new, add, value. -/
set_option linter.unusedVariables false
namespace Go.Proofs.YtleicmmbaacbmaaGreat
open Go.RowKit

def ufn (f : Nat → UInt8) (n : Nat) : Array Value := ((List.range n).map fun i => Value.int .u8 (((f i).toNat : Nat) : Int)).toArray
theorem ufn_size (f : Nat → UInt8) (n : Nat) : (ufn f n).size = n := by simp [ufn]
theorem ufn_at (f : Nat → UInt8) (n i : Nat) (h : i < n) : (ufn f n)[i]? = some (.int .u8 (((f i).toNat : Nat) : Int)) := by simp [ufn, h]
theorem ufn_eq {f g : Nat → UInt8} {n : Nat} (h : ∀ i, i < n → f i = g i) : ufn f n = ufn g n := by
  unfold ufn
  congr 1
  exact List.map_congr_left fun i hi => by rw [h i (List.mem_range.1 hi)]
theorem ufn_set (f g : Nat → UInt8) (n k : Nat) (x : UInt8) (h : ∀ i, i < n → g i = if i = k then x else f i) : (ufn f n).setIfInBounds k (.int .u8 ((x.toNat : Nat) : Int)) = ufn g n := by
  apply Array.ext_getElem?
  intro i
  rw [Array.getElem?_setIfInBounds]
  by_cases hi : i < n
  · rw [ufn_at g n i hi, ufn_at f n i hi, ufn_size, h i hi]
    by_cases hk : k = i
    · subst hk; simp [hi]
    · simp [hk, Ne.symm hk]
  · have h1 : (ufn g n)[i]? = none := by rw [Array.getElem?_eq_none]; rw [ufn_size]; omega
    have h2 : (ufn f n)[i]? = none := by rw [Array.getElem?_eq_none]; rw [ufn_size]; omega
    rw [h1, h2, ufn_size]
    by_cases hk : k = i
    · subst hk; simp [hi]
    · simp [hk]

theorem bits_xor8 (a b : UInt8) : bits .xor .u8 ((a.toNat : Nat) : Int) ((b.toNat : Nat) : Int) = (((a ^^^ b).toNat : Nat) : Int) := by
  rw [u8_xor_nat _ _ a.toNat_lt b.toNat_lt, UInt8.toNat_xor]

/-- A sum: n bytes, f; so many rows were added. -/
structure SumAt (W : World) (g gb n : Nat) (f : Nat → UInt8) (many : Int) : Prop where
  sum : At W g #[.slice (some ⟨gb, 0, none⟩) n n, .int .i64 many] 189
  row : At W gb (ufn f n) 5

theorem SumAt.mod {S : Nat → Prop} {W W' : World} {g gb n : Nat} {f : Nat → UInt8} {many : Int} (h : SumAt W g gb n f many) (hc : Chg S W W') (h1 : ¬ S g) (h2 : ¬ S gb) : SumAt W' g gb n f many := ⟨h.sum.mod hc h1, h.row.mod hc h2⟩

theorem SumAt.ne {W : World} {g gb n : Nat} {f : Nat → UInt8} {many : Int} (h : SumAt W g gb n f many) : g ≠ gb := fun e => by
  have a := h.sum; have b := h.row
  subst e
  unfold At at a b
  rw [a] at b
  simp only [Option.some.injEq, Obj.cells.injEq] at b
  exact absurd b.2.1 (by decide)

set_option maxRecDepth 100000 in
set_option maxHeartbeats 1000000 in
theorem xor_new (n : Nat) (w : World) (hn : n ≤ 4096) :
    Calls Tryz.prog 89 #[.int .i64 n] w fun e w' => ∃ g gb, e = .returned (.tuple #[.pointer (some ⟨g, 0, none⟩), .int .u16 0]) ∧ SumAt w' g gb n (fun _ => 0) 0 ∧ w.heap.size ≤ g ∧ w.heap.size ≤ gb ∧ Below w.heap.size w w' := by
  go_enter Tryz.func89, Tryz.ntmps89
  go_wp2_with (refine wpList_make_same rfl _ _ 53 5 1 1 rfl slice_bytes (.int .u8 0) (by kernel_rfl) _ _ _ _ n rfl rfl rfl rfl (by omega) (by unfold maxLen; omega) ?_; intro w1 a1 b1)
  go_ret2
  have e : (List.replicate (n * 1) (Value.int .u8 0)).toArray = ufn (fun _ => 0) n := by
    apply Array.ext_getElem?
    intro i
    simp only [ufn, List.getElem?_toArray, Nat.mul_one, List.getElem?_replicate, List.getElem?_map, List.getElem?_range]
    by_cases hi : i < n <;> simp [hi]
  rw [e] at a1
  have hb := b1.alloc b1.size (.cells #[.slice (some ⟨w.heap.size, 0, none⟩) n n, .int .i64 0] 189)
  exact ⟨_, w.heap.size, rfl, ⟨At.new _ _ _, a1.alloc _⟩, b1.size, Nat.le_refl _, hb⟩

set_option maxRecDepth 100000 in
set_option maxHeartbeats 4000000 in
theorem xor_add (g gb n : Nat) (f : Nat → UInt8) (many : Int) (v : Value) (m : List UInt8) (w : World) (h : SumAt w g gb n f many) (hn : n ≤ 4096) (hv : Seg w v m) (hm : m.length = n) (hvb : ∀ a q c, v = .slice (some a) q c → a.block ≠ gb) (h0 : 0 ≤ many) (h1 : many ≤ 1000000000) :
    Calls Tryz.prog 91 #[.pointer (some ⟨g, 0, none⟩), v] w fun e w' => e = .returned (.int .u16 0) ∧ SumAt w' g gb n (fun i => f i ^^^ m.getD i 0) (many + 1) ∧ Chg (fun k => k = g ∨ k = gb) w w' := by
  have hne := h.ne
  obtain ⟨va, vc, rfl⟩ := hv.shape
  have c0 : w.cell? ⟨g, 0, none⟩ = some (.slice (some ⟨gb, 0, none⟩) n n) := h.sum.cell 0
  have H := Lib.hid h
  have HV := Lib.hid hv
  clear h hv
  go_enter Tryz.func91, Tryz.ntmps91
  go_wp2
  go_loopw [17] (fun q wr => ∃ k : Nat, k ≤ m.length ∧ q = .int .i64 k ∧ SumAt wr g gb n (fun i => if i < k then f i ^^^ m.getD i 0 else f i) many ∧ Chg (fun x => x = gb) w wr) (fun q _ => m.length - (intOf q).toNat)
  case atStart => exact ⟨0, by omega, rfl, ⟨H.out.sum, by rw [ufn_eq (g := f)]; exact H.out.row; intro i _; simp⟩, Chg.refl _ _⟩
  case round =>
    clear c0
    obtain ⟨k, hk, rfl, hs, hc⟩ := hrel
    by_cases hkn : k < m.length
    · obtain ⟨vb, vo, vc', hve, hvl, hcells⟩ := Seg.full HV.out (by omega)
      simp only [Value.slice.injEq] at hve
      obtain ⟨rfl, _, rfl⟩ := hve
      have hvg : vb ≠ gb := hvb _ _ _ rfl
      have d0 := (hc.cell (p := ⟨vb, vo + k, none⟩) hvl hvg).trans (hcells k hkn)
      have d1 : wr.cell? ⟨gb, k, none⟩ = some (.int .u8 (((f k).toNat : Nat) : Int)) := by rw [hs.row.cell, ufn_at _ _ _ (by omega)]; simp
      have f1 := hs.row.free k
      have e0 : wr.cell? ⟨g, 0, none⟩ = some (.slice (some ⟨gb, 0, none⟩) n n) := hs.sum.cell 0
      have HS := Lib.hid hs
      have K1 : Hid (k + 1 ≤ m.length) := hkn
      clear hs hcells
      generalize hy : m[k] = y at *
      have HY := Lib.hid hy
      clear hy
      go_wp2
      rw [bits_xor8]
      have hset : Chg (fun x => x = gb) wr (wr.setCell ⟨gb, k, none⟩ (.int .u8 (((f k ^^^ y).toNat : Nat) : Int))) := Chg.setCell (S := fun x => x = gb) (Chg.refl _ _) ⟨gb, k, none⟩ (.inl rfl) _
      refine ⟨⟨k + 1, K1.out, by go_num, ⟨HS.out.sum.mod hset hne, ?_⟩, hc.trans hset⟩, by simp [intOf]; omega⟩
      rw [← ufn_set (fun i => if i < k then f i ^^^ m.getD i 0 else f i) _ n k (f k ^^^ y) (fun i _ => ?_)]
      · exact HS.out.row.set k _
      · show (if i < k + 1 then f i ^^^ m.getD i 0 else f i) = _
        by_cases hik : i = k
        · subst hik
          rw [if_pos (by omega), if_pos rfl, List.getD_eq_getElem?_getD, List.getElem?_eq_getElem hkn]
          exact congrArg (fun z => f i ^^^ z) HY.out
        · rw [if_neg hik]
          show _ = if i < k then f i ^^^ m.getD i 0 else f i
          by_cases h2 : i < k
          · rw [if_pos (by omega), if_pos h2]
          · rw [if_neg (by omega), if_neg h2]
    · obtain rfl : k = m.length := by omega
      have e1 : wr.cell? ⟨g, 1, none⟩ = some (.int .i64 many) := hs.sum.cell 1
      have f1 := hs.sum.free 1
      have HS := Lib.hid hs
      clear hs
      go_wp2
      go_ret
      have hset : Chg (fun x => x = g) wr (wr.setCell ⟨g, 1, none⟩ (.int .i64 (many + 1))) := Chg.setCell (S := fun x => x = g) (Chg.refl _ _) ⟨g, 1, none⟩ (.inl rfl) _
      refine ⟨rfl, ⟨HS.out.sum.set 1 _, ?_⟩, (hc.mono fun x hx => .inr hx).trans (hset.mono fun x hx => .inl hx)⟩
      have := HS.out.row.mod hset (Ne.symm hne)
      rw [ufn_eq (g := fun i => f i ^^^ m.getD i 0)] at this
      · exact this
      · intro i hi
        show (if i < m.length then f i ^^^ m.getD i 0 else f i) = _
        rw [if_pos (by omega)]

end Go.Proofs.YtleicmmbaacbmaaGreat

/- Sums of rows of bytes: the value; whether it is noughts alone. -/
set_option linter.unusedVariables false
namespace Go.Proofs.YtleicmmbaacbmaaGreat
open Go.RowKit

/-- The bytes of a sum. -/
def sumL (f : Nat → UInt8) (n : Nat) : List UInt8 := (List.range n).map f
theorem sumL_length (f : Nat → UInt8) (n : Nat) : (sumL f n).length = n := by simp [sumL]
theorem ufn_ucells (f : Nat → UInt8) (n : Nat) : ufn f n = (ucells (sumL f n)).toArray := by simp [ufn, ucells, sumL]

theorem SumAt.seg {W : World} {g gb n : Nat} {f : Nat → UInt8} {many : Int} (h : SumAt W g gb n f many) : Seg W (.slice (some ⟨gb, 0, none⟩) n n) (sumL f n) := by
  have hr := h.row
  have := seg_of_at (l := sumL f n) (cap := n) hr (by rw [sumL_length]; omega) (fun j hj => by
    rw [sumL_length] at hj
    rw [ufn_at f n j hj]
    simp [sumL])
  rw [sumL_length] at this
  exact this

set_option maxRecDepth 100000 in
set_option maxHeartbeats 1000000 in
theorem xor_value (g gb n : Nat) (f : Nat → UInt8) (many : Int) (w : World) (h : SumAt w g gb n f many) (hn : n ≤ 4096) :
    Calls Tryz.prog 65 #[.pointer (some ⟨g, 0, none⟩)] w fun e w' => ∃ v, e = .returned v ∧ w'.ownsRow w.heap.size 5 1 v n (ucells (sumL f n)) ∧ Below w.heap.size w w' := by
  have hcl : Hid (Calls Tryz.prog 94 #[.slice (some ⟨gb, 0, none⟩) n n] w fun e w' => ∃ v, e = .returned v ∧ w'.ownsRow w.heap.size 5 1 v n (ucells (sumL f n)) ∧ Below w.heap.size w w') := by
    have hs := h.seg
    have := clone_any ⟨gb, 0, none⟩ n (sumL f n) w (by rw [sumL_length]; omega) (by rw [sumL_length]; exact hs)
    rw [sumL_length] at this
    exact this
  have c0 : w.cell? ⟨g, 0, none⟩ = some (.slice (some ⟨gb, 0, none⟩) n n) := h.sum.cell 0
  clear h
  go_enter Tryz.func65, Tryz.ntmps65
  go_wp2_with (go_at_call 94; refine hcl.out.mono ?_; rintro e w2 ⟨v, rfl, h1, h2⟩)
  go_ret
  exact ⟨v, rfl, h1, h2⟩

theorem u8_ne0 (x : UInt8) : (((x.toNat : Nat) : Int) != 0) = !decide (x = 0) := by
  have := u8_ne x 0
  simpa using this

set_option maxHeartbeats 1000000 in
theorem nought_do (x : UInt8) (w : World) : Calls Tryz.prog 93 #[.int .u8 ((x.toNat : Nat) : Int)] w fun e w' => e = .returned (.bool (!decide (x = 0))) ∧ w' = w := by
  have hx := u8_ne0 x
  generalize (!decide (x = 0)) = q at *
  go_enter Tryz.func93, Tryz.ntmps93
  go_wp2
  go_ret
  exact ⟨rfl, rfl⟩

/-- Noughts alone? -/
def allZero (f : Nat → UInt8) (n : Nat) : Prop := ∀ i, i < n → f i = 0

set_option maxRecDepth 100000 in
set_option maxHeartbeats 2000000 in
theorem index_nought (gb n : Nat) (f : Nat → UInt8) (w : World) (h : At w gb (ufn f n) 5) (hn : n ≤ 4096) :
    Calls Tryz.prog 104 #[.slice (some ⟨gb, 0, none⟩) n n, .func (.func 93) #[] #[]] w fun e w' => w' = w ∧ ∃ z : Int, e = .returned (.int .i64 z) ∧ ((0 ≤ z ∧ ¬ allZero f n) ∨ (z = -1 ∧ allZero f n)) := by
  have H := Lib.hid h
  clear h
  go_enter Tryz.func104, Tryz.ntmps104
  go_wp2
  go_loopw [8] (fun q wr => ∃ k : Nat, k ≤ n ∧ q = .int .i64 k ∧ (∀ i, i < k → f i = 0) ∧ wr = w) (fun q _ => n - (intOf q).toNat)
  case atStart => exact ⟨0, by omega, rfl, fun i hi => by omega, rfl⟩
  case round =>
    obtain ⟨k, hk, rfl, hz, rfl⟩ := hrel
    have HZ := Lib.hid hz
    clear hz
    by_cases hkn : k < n
    · have d0 := (H.out.cell k).trans (ufn_at f n k hkn)
      have HC := Lib.hid (nought_do (f k) wr)
      have K1 : Hid (k + 1 ≤ n) := hkn
      cases hq : decide (f k = 0)
      · rw [hq] at HC
        have HN : Hid (¬ allZero f n) := fun ha => by have := of_decide_eq_false hq; exact this (ha k hkn)
        clear hq
        generalize f k = y at *
        go_wp2_with (go_at_call 93; refine HC.out.mono ?_; rintro e w2 ⟨rfl, rfl⟩)
        go_ret
        exact ⟨rfl, _, rfl, .inl ⟨by omega, HN.out⟩⟩
      · rw [hq] at HC
        have HY : Hid (∀ i, i < k + 1 → f i = 0) := fun i hi => by
          by_cases hik : i = k
          · subst hik; exact of_decide_eq_true hq
          · exact HZ.out i (by omega)
        clear hq
        generalize f k = y at *
        go_wp2_with (go_at_call 93; refine HC.out.mono ?_; rintro e w2 ⟨rfl, rfl⟩)
        exact ⟨⟨k + 1, K1.out, by go_num, HY.out, trivial⟩, by simp [intOf]; omega⟩
    · obtain rfl : k = n := by omega
      go_wp2
      go_ret
      exact ⟨rfl, _, rfl, .inr ⟨rfl, HZ.out⟩⟩

set_option maxRecDepth 100000 in
set_option maxHeartbeats 1000000 in
theorem contains_nought (gb n : Nat) (f : Nat → UInt8) (w : World) (h : At w gb (ufn f n) 5) (hn : n ≤ 4096) :
    Calls Tryz.prog 92 #[.slice (some ⟨gb, 0, none⟩) n n, .func (.func 93) #[] #[]] w fun e w' => w' = w ∧ ∃ r : Bool, e = .returned (.bool r) ∧ (r = true ↔ ¬ allZero f n) := by
  have hi := Lib.hid (index_nought gb n f w h hn)
  clear h
  go_enter Tryz.func92, Tryz.ntmps92
  go_wp2_with (go_at_call 104; refine hi.out.mono ?_; rintro e w2 ⟨rfl, z, rfl, hz⟩)
  go_ret
  refine ⟨rfl, _, rfl, ?_⟩
  rcases hz with ⟨h1, h2⟩ | ⟨h1, h2⟩
  · simp [h1, h2]
  · simp [h1, h2]

set_option maxRecDepth 100000 in
set_option maxHeartbeats 1000000 in
theorem xor_nought (g gb n : Nat) (f : Nat → UInt8) (many : Int) (w : World) (h : SumAt w g gb n f many) (hn : n ≤ 4096) :
    Calls Tryz.prog 64 #[.pointer (some ⟨g, 0, none⟩)] w fun e w' => w' = w ∧ ∃ r : Bool, e = .returned (.bool r) ∧ (r = true ↔ allZero f n) := by
  have hi := Lib.hid (contains_nought gb n f w h.row hn)
  have c0 : w.cell? ⟨g, 0, none⟩ = some (.slice (some ⟨gb, 0, none⟩) n n) := h.sum.cell 0
  clear h
  go_enter Tryz.func64, Tryz.ntmps64
  go_wp2_with (go_at_call 92; refine hi.out.mono ?_; rintro e w2 ⟨rfl, r, rfl, hr⟩)
  go_ret
  refine ⟨rfl, _, rfl, ?_⟩
  cases r <;> simp_all

end Go.Proofs.YtleicmmbaacbmaaGreat

/- A bay of disks, plain: what reads leave; a calm bay. No program in sight. -/
set_option linter.unusedVariables false
namespace Go.Proofs.YtleicmmbaacbmaaGreat
open Go.RowKit

/-- What k reads at most leave. -/
structure Reads (s s' : BaySt) (k : Nat) : Prop where
  n : s'.n = s.n
  small : ∀ m, s.small m → s'.small m
  lo : s.cnt 0 ≤ s'.cnt 0
  hi : s'.cnt 0 ≤ s.cnt 0 + k
  c1 : s'.cnt 1 = s.cnt 1
  c2 : s'.cnt 2 = s.cnt 2

theorem Reads.refl (s : BaySt) (k : Nat) : Reads s s k := ⟨rfl, fun m h => h, by omega, by omega, rfl, rfl⟩
theorem Reads.trans {s s1 s2 : BaySt} {k j : Nat} (h1 : Reads s s1 k) (h2 : Reads s1 s2 j) : Reads s s2 (k + j) := ⟨h2.n.trans h1.n, fun m h => h2.small m (h1.small m h), by have := h1.lo; have := h2.lo; omega, by have := h1.hi; have := h2.hi; omega, h2.c1.trans h1.c1, h2.c2.trans h1.c2⟩
theorem Reads.mono {s s' : BaySt} {k j : Nat} (h : Reads s s' k) (hk : k ≤ j) : Reads s s' j := ⟨h.n, h.small, h.lo, by have := h.hi; omega, h.c1, h.c2⟩

theorem small_pos {s : BaySt} {i : Nat} {y : Dev} {m : Nat} (h : s.small m) (hy : y.d.cache.length ≤ m) (s' : BaySt) (hn : s'.n = s.n) (hp : s'.pos = fun q => if q = i then some y else s.pos q) : s'.small m := fun q hq x hx => by
  rw [hp] at hx
  rw [hn] at hq
  by_cases hqi : q = i
  · have : some y = some x := by simpa [hqi] using hx
    simp only [Option.some.injEq] at this
    subst this
    exact hy
  · exact h q hq x (by simpa [hqi] using hx)

theorem start_reads (s : BaySt) (k : Int) : Reads s (s.start 0 k).1 1 := by
  unfold BaySt.start
  by_cases hk : 0 ≤ k ∧ k < (s.n : Int)
  · rw [if_neg (by simpa using hk)]
    by_cases ht : s.trip = 0
    · rw [if_pos ht]; exact ⟨rfl, fun m h => h, by show s.cnt 0 ≤ s.cnt 0; omega, by show s.cnt 0 ≤ _; omega, rfl, rfl⟩
    · rw [if_neg ht]
      by_cases hd : s.dark = true
      · rw [if_pos hd]; exact .refl _ _
      · rw [if_neg hd]
        cases hx : s.pos (k.toNat * 3) with
        | none => exact ⟨rfl, fun m h => h, by show s.cnt 0 ≤ (if 0 = 0 then s.cnt 0 + 1 else s.cnt 0); rw [if_pos rfl]; omega, by show (if 0 = 0 then s.cnt 0 + 1 else s.cnt 0) ≤ _; rw [if_pos rfl]; omega, rfl, rfl⟩
        | some x => exact ⟨rfl, fun m h => small_pos h (use_small (h _ (by omega) x hx)) _ rfl rfl, by show s.cnt 0 ≤ (if 0 = 0 then s.cnt 0 + 1 else s.cnt 0); rw [if_pos rfl]; omega, by show (if 0 = 0 then s.cnt 0 + 1 else s.cnt 0) ≤ _; rw [if_pos rfl]; omega, rfl, rfl⟩
  · rw [if_pos (by simpa using hk)]; exact .refl _ _

theorem read_state (s : BaySt) (k z : Int) : (s.read k z).2.2 = (s.start 0 k).1 := by
  unfold BaySt.read
  cases h : s.start 0 k with
  | mk a b => cases b <;> rfl

theorem read_reads (s : BaySt) (k z : Int) : Reads s (s.read k z).2.2 1 := by rw [read_state]; exact start_reads s k

theorem start_code {s : BaySt} {j : Nat} {k : Int} {s' : BaySt} {c : Nat} (h : s.start j k = (s', .inl c)) : c ≠ 0 ∧ c < 65536 := by
  have h2 : (s.start j k).2 = .inl c := by rw [h]
  unfold BaySt.start at h2
  split at h2
  · simp only [Sum.inl.injEq] at h2; omega
  · split at h2
    · simp only [Sum.inl.injEq] at h2; omega
    · split at h2
      · simp only [Sum.inl.injEq] at h2; omega
      · split at h2
        · simp only [Sum.inl.injEq] at h2; omega
        · cases h2

theorem may_lt (d : Dsk) (z : Int) : d.may z < 65536 := by
  unfold Dsk.may
  split
  · omega
  · split <;> omega

/-- The code of a read is 0 if, and only if, there is a sector. -/
theorem read_code (s : BaySt) (k z : Int) : ((s.read k z).1 = 0 ↔ ∃ x, (s.read k z).2.1 = some x) ∧ (s.read k z).1 < 65536 := by
  unfold BaySt.read
  cases h : s.start 0 k with
  | mk a b =>
    cases b with
    | inl c =>
      have := start_code h
      exact ⟨⟨fun e => absurd e this.1, fun ⟨x, e⟩ => by cases e⟩, this.2⟩
    | inr x =>
      show ((x.d.read z).1 = 0 ↔ ∃ y, (x.d.read z).2 = some y) ∧ (x.d.read z).1 < 65536
      unfold Dsk.read
      by_cases hz : x.d.may z = 0
      · rw [if_pos hz]; exact ⟨⟨fun _ => ⟨_, rfl⟩, fun _ => rfl⟩, by show 0 < 65536; omega⟩
      · rw [if_neg hz]; exact ⟨⟨fun e => absurd e hz, fun ⟨y, e⟩ => by cases e⟩, may_lt _ _⟩

/-- The first k members handed: the member and why it stopped; the sum; the bay. -/
structure Handed where
  t : Option (Nat × Nat)
  f : Nat → UInt8
  s : BaySt

def Handed.step (h : Handed) (z but : Int) (k : Nat) : Handed :=
  if h.t ≠ none ∨ (k : Int) = but then h
  else if (h.s.read k z).1 = 0 then ⟨none, fun i => h.f i ^^^ ((h.s.read k z).2.1.getD []).getD i 0, (h.s.read k z).2.2⟩
  else ⟨some (k, (h.s.read k z).1), h.f, (h.s.read k z).2.2⟩

def BaySt.hand (s : BaySt) (z but : Int) : Nat → Handed
  | 0 => ⟨none, fun _ => 0, s⟩
  | k + 1 => (s.hand z but k).step z but k

theorem hand_stop (s : BaySt) (z but : Int) (k : Nat) (h : (s.hand z but k).t ≠ none) : ∀ j, k ≤ j → s.hand z but j = s.hand z but k
  | 0, hj => by obtain rfl : k = 0 := by omega
                rfl
  | j + 1, hj => by
    by_cases hk : k = j + 1
    · subst hk; rfl
    · have ih := hand_stop s z but k h j (by omega)
      show (s.hand z but j).step z but j = _
      unfold Handed.step
      rw [if_pos (.inl (by rw [ih]; exact h)), ih]

theorem hand_but (s : BaySt) (z but : Int) (k : Nat) (h : (k : Int) = but) : s.hand z but (k + 1) = s.hand z but k := by
  show (s.hand z but k).step z but k = _
  unfold Handed.step
  rw [if_pos (.inr h)]
theorem hand_ok (s : BaySt) (z but : Int) (k : Nat) (h0 : (s.hand z but k).t = none) (h : (k : Int) ≠ but) (x : Sec) (hx : ((s.hand z but k).s.read k z).2.1 = some x) : s.hand z but (k + 1) = ⟨none, fun i => (s.hand z but k).f i ^^^ x.getD i 0, ((s.hand z but k).s.read k z).2.2⟩ := by
  show (s.hand z but k).step z but k = _
  unfold Handed.step
  have hne : ¬ ((s.hand z but k).t ≠ none ∨ (k : Int) = but) := by simp [h0, h]
  rw [if_neg hne, if_pos ((read_code _ _ _).1.2 ⟨x, hx⟩), hx]
  rfl
theorem hand_bad (s : BaySt) (z but : Int) (k : Nat) (h0 : (s.hand z but k).t = none) (h : (k : Int) ≠ but) (hx : ((s.hand z but k).s.read k z).1 ≠ 0) : s.hand z but (k + 1) = ⟨some (k, ((s.hand z but k).s.read k z).1), (s.hand z but k).f, ((s.hand z but k).s.read k z).2.2⟩ := by
  show (s.hand z but k).step z but k = _
  unfold Handed.step
  have hne : ¬ ((s.hand z but k).t ≠ none ∨ (k : Int) = but) := by simp [h0, h]
  rw [if_neg hne, if_neg hx]

theorem hand_reads (s : BaySt) (z but : Int) : ∀ k, Reads s (s.hand z but k).s k
  | 0 => .refl _ _
  | k + 1 => by
    have ih := hand_reads s z but k
    show Reads s ((s.hand z but k).step z but k).s (k + 1)
    unfold Handed.step
    split
    · exact ih.mono (by omega)
    · split
      · exact ih.trans (read_reads _ _ _)
      · exact ih.trans (read_reads _ _ _)

theorem hand_code (s : BaySt) (z but : Int) : ∀ k t, (s.hand z but k).t = some t → t.1 < k ∧ t.2 ≠ 0 ∧ t.2 < 65536
  | 0, t, h => by cases h
  | k + 1, t, h => by
    have ih := hand_code s z but k
    change ((s.hand z but k).step z but k).t = some t at h
    unfold Handed.step at h
    split at h
    · have := ih t h; omega
    · split at h
      · cases h
      · rename_i h2
        simp only [Option.some.injEq] at h
        subst h
        exact ⟨by show k < k + 1; omega, h2, (read_code _ _ _).2⟩

/-- Rows looked at, one by one: why it stopped; those that are not even; the bay. -/
structure Looked where
  t : Option (Nat × Nat)
  l : List Nat
  s : BaySt

instance (f : Nat → UInt8) (n : Nat) : Decidable (allZero f n) := inferInstanceAs (Decidable (∀ i, i < n → f i = 0))

def Looked.step (h : Looked) (M r : Nat) : Looked :=
  if h.t ≠ none then h
  else if (h.s.hand (1 + r : Nat) (-1) M).t = none then ⟨none, if allZero (h.s.hand (1 + r : Nat) (-1) M).f 128 then h.l else h.l ++ [r], (h.s.hand (1 + r : Nat) (-1) M).s⟩
  else ⟨(h.s.hand (1 + r : Nat) (-1) M).t, h.l, (h.s.hand (1 + r : Nat) (-1) M).s⟩

def BaySt.look (s : BaySt) (M : Nat) : Nat → Looked
  | 0 => ⟨none, [], s⟩
  | r + 1 => (s.look M r).step M r

theorem look_stop (s : BaySt) (M k : Nat) (h : (s.look M k).t ≠ none) : ∀ j, k ≤ j → s.look M j = s.look M k
  | 0, hj => by obtain rfl : k = 0 := by omega
                rfl
  | j + 1, hj => by
    by_cases hk : k = j + 1
    · subst hk; rfl
    · have ih := look_stop s M k h j (by omega)
      show (s.look M j).step M j = _
      unfold Looked.step
      rw [if_pos (by rw [ih]; exact h), ih]
theorem look_ok (s : BaySt) (M r : Nat) (h0 : (s.look M r).t = none) (h : ((s.look M r).s.hand (1 + r : Nat) (-1) M).t = none) : s.look M (r + 1) = ⟨none, if allZero ((s.look M r).s.hand (1 + r : Nat) (-1) M).f 128 then (s.look M r).l else (s.look M r).l ++ [r], ((s.look M r).s.hand (1 + r : Nat) (-1) M).s⟩ := by
  show (s.look M r).step M r = _
  unfold Looked.step
  rw [if_neg (by simp [h0]), if_pos h]
theorem look_bad (s : BaySt) (M r : Nat) (h0 : (s.look M r).t = none) (h : ((s.look M r).s.hand (1 + r : Nat) (-1) M).t ≠ none) : s.look M (r + 1) = ⟨((s.look M r).s.hand (1 + r : Nat) (-1) M).t, (s.look M r).l, ((s.look M r).s.hand (1 + r : Nat) (-1) M).s⟩ := by
  show (s.look M r).step M r = _
  unfold Looked.step
  rw [if_neg (by simp [h0]), if_neg h]

theorem look_reads (s : BaySt) (M : Nat) : ∀ r, Reads s (s.look M r).s (r * M)
  | 0 => .refl _ _
  | r + 1 => by
    have ih := look_reads s M r
    show Reads s ((s.look M r).step M r).s ((r + 1) * M)
    rw [Nat.succ_mul]
    unfold Looked.step
    split
    · exact ih.mono (by omega)
    · split
      · exact ih.trans (hand_reads _ _ _ _)
      · exact ih.trans (hand_reads _ _ _ _)

theorem look_length (s : BaySt) (M : Nat) : ∀ r, (s.look M r).l.length ≤ r
  | 0 => by show 0 ≤ 0; omega
  | r + 1 => by
    have ih := look_length s M r
    show ((s.look M r).step M r).l.length ≤ r + 1
    unfold Looked.step
    split
    · omega
    · split
      · show (if _ then (s.look M r).l else (s.look M r).l ++ [r]).length ≤ r + 1
        split
        · omega
        · simp; omega
      · show (s.look M r).l.length ≤ r + 1
        omega

theorem look_code (s : BaySt) (M : Nat) : ∀ r t, (s.look M r).t = some t → t.1 < M ∧ t.2 ≠ 0 ∧ t.2 < 65536
  | 0, t, h => by cases h
  | r + 1, t, h => by
    have ih := look_code s M r
    change ((s.look M r).step M r).t = some t at h
    unfold Looked.step at h
    split at h
    · exact ih t h
    · split at h
      · cases h
      · exact hand_code _ _ _ _ t h

theorem look_lt (s : BaySt) (M : Nat) : ∀ r, ∀ x ∈ (s.look M r).l, x < r
  | 0, x, h => by cases h
  | r + 1, x, h => by
    have ih := look_lt s M r
    change x ∈ ((s.look M r).step M r).l at h
    unfold Looked.step at h
    split at h
    · have := ih x h; omega
    · split at h
      · change x ∈ (if _ then (s.look M r).l else (s.look M r).l ++ [r]) at h
        split at h
        · have := ih x h; omega
        · rcases List.mem_append.1 h with h | h
          · have := ih x h; omega
          · simp at h; omega
      · have := ih x h; omega

end Go.Proofs.YtleicmmbaacbmaaGreat
