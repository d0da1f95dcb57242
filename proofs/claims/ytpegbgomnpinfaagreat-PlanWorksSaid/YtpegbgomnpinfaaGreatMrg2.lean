/- Several texts in one: XorA, XorB. -/
import Derived.Test.YtpegbgomnpinfaaGreatDiskB
/- Sums of rows of bytes: new, add, value. -/
set_option linter.unusedVariables false
namespace Go.Proofs.YtpegbgomnpinfaaGreat
open Go.RowKit

def ufn (f : Nat → UInt8) (n : Nat) : Array Value := ((List.range n).map fun i => Value.int .u8 (((f i).toNat : Nat) : Int)).toArray
theorem ufn_size (f : Nat → UInt8) (n : Nat) : (ufn f n).size = n := by simp [ufn]
theorem ufn_at (f : Nat → UInt8) (n i : Nat) (h : i < n) : (ufn f n)[i]? = some (.int .u8 (((f i).toNat : Nat) : Int)) := by simp [ufn, h]
theorem ufn_eq {f g : Nat → UInt8} {n : Nat} (h : ∀ i, i < n → f i = g i) : ufn f n = ufn g n := by
  unfold ufn
  congr 1
  exact List.map_congr_left fun i hi => by rw [h i (List.mem_range.1 hi)]
theorem ufn_set (f g : Nat → UInt8) (n k : Nat) (x : UInt8) (h : ∀ i, i < n → g i = if i = k then x else f i) : (ufn f n).setIfInBounds k (.int .u8 ((x.toNat : Nat) : Int)) = ufn g n := by
  apply Array.ext_getElem?
  intro i
  rw [Array.getElem?_setIfInBounds]
  by_cases hi : i < n
  · rw [ufn_at g n i hi, ufn_at f n i hi, ufn_size, h i hi]
    by_cases hk : k = i
    · subst hk; simp [hi]
    · simp [hk, Ne.symm hk]
  · have h1 : (ufn g n)[i]? = none := by rw [Array.getElem?_eq_none]; rw [ufn_size]; omega
    have h2 : (ufn f n)[i]? = none := by rw [Array.getElem?_eq_none]; rw [ufn_size]; omega
    rw [h1, h2, ufn_size]
    by_cases hk : k = i
    · subst hk; simp [hi]
    · simp [hk]

theorem bits_xor8 (a b : UInt8) : bits .xor .u8 ((a.toNat : Nat) : Int) ((b.toNat : Nat) : Int) = (((a ^^^ b).toNat : Nat) : Int) := by
  rw [u8_xor_nat _ _ a.toNat_lt b.toNat_lt, UInt8.toNat_xor]

/-- A sum: n bytes, f; so many rows were added. -/
structure SumAt (W : World) (g gb n : Nat) (f : Nat → UInt8) (many : Int) : Prop where
  sum : At W g #[.slice (some ⟨gb, 0, none⟩) n n, .int .i64 many] 236
  row : At W gb (ufn f n) 5

theorem SumAt.mod {S : Nat → Prop} {W W' : World} {g gb n : Nat} {f : Nat → UInt8} {many : Int} (h : SumAt W g gb n f many) (hc : Chg S W W') (h1 : ¬ S g) (h2 : ¬ S gb) : SumAt W' g gb n f many := ⟨h.sum.mod hc h1, h.row.mod hc h2⟩

theorem SumAt.ne {W : World} {g gb n : Nat} {f : Nat → UInt8} {many : Int} (h : SumAt W g gb n f many) : g ≠ gb := fun e => by
  have a := h.sum; have b := h.row
  subst e
  unfold At at a b
  rw [a] at b
  simp only [Option.some.injEq, Obj.cells.injEq] at b
  exact absurd b.2.1 (by decide)

set_option maxRecDepth 100000 in
set_option maxHeartbeats 1000000 in
theorem xor_new (n : Nat) (w : World) (hn : n ≤ 4096) :
    Calls Tryz.prog 103 #[.int .i64 n] w fun e w' => ∃ g gb, e = .returned (.tuple #[.pointer (some ⟨g, 0, none⟩), .int .u16 0]) ∧ SumAt w' g gb n (fun _ => 0) 0 ∧ w.heap.size ≤ g ∧ w.heap.size ≤ gb ∧ Below w.heap.size w w' := by
  go_enter Tryz.func103, Tryz.ntmps103
  go_wp2_with (refine wpList_make_same rfl _ _ 53 5 1 1 rfl slice_bytes (.int .u8 0) (by kernel_rfl) _ _ _ _ n rfl rfl rfl rfl (by omega) (by unfold maxLen; omega) ?_; intro w1 a1 b1)
  go_ret2
  have e : (List.replicate (n * 1) (Value.int .u8 0)).toArray = ufn (fun _ => 0) n := by
    apply Array.ext_getElem?
    intro i
    simp only [ufn, List.getElem?_toArray, Nat.mul_one, List.getElem?_replicate, List.getElem?_map, List.getElem?_range]
    by_cases hi : i < n <;> simp [hi]
  rw [e] at a1
  have hb := b1.alloc b1.size (.cells #[.slice (some ⟨w.heap.size, 0, none⟩) n n, .int .i64 0] 236)
  exact ⟨_, w.heap.size, rfl, ⟨At.new _ _ _, a1.alloc _⟩, b1.size, Nat.le_refl _, hb⟩

set_option maxRecDepth 100000 in
set_option maxHeartbeats 4000000 in
theorem xor_add (g gb n : Nat) (f : Nat → UInt8) (many : Int) (v : Value) (m : List UInt8) (w : World) (h : SumAt w g gb n f many) (hn : n ≤ 4096) (hv : Seg w v m) (hm : m.length = n) (hvb : ∀ a q c, v = .slice (some a) q c → a.block ≠ gb) (h0 : 0 ≤ many) (h1 : many ≤ 1000000000) :
    Calls Tryz.prog 104 #[.pointer (some ⟨g, 0, none⟩), v] w fun e w' => e = .returned (.int .u16 0) ∧ SumAt w' g gb n (fun i => f i ^^^ m.getD i 0) (many + 1) ∧ Chg (fun k => k = g ∨ k = gb) w w' := by
  have hne := h.ne
  obtain ⟨va, vc, rfl⟩ := hv.shape
  have c0 : w.cell? ⟨g, 0, none⟩ = some (.slice (some ⟨gb, 0, none⟩) n n) := h.sum.cell 0
  have H := Lib.hid h
  have HV := Lib.hid hv
  clear h hv
  go_enter Tryz.func104, Tryz.ntmps104
  go_wp2
  go_loopw [17] (fun q wr => ∃ k : Nat, k ≤ m.length ∧ q = .int .i64 k ∧ SumAt wr g gb n (fun i => if i < k then f i ^^^ m.getD i 0 else f i) many ∧ Chg (fun x => x = gb) w wr) (fun q _ => m.length - (intOf q).toNat)
  case atStart => exact ⟨0, by omega, rfl, ⟨H.out.sum, by rw [ufn_eq (g := f)]; exact H.out.row; intro i _; simp⟩, Chg.refl _ _⟩
  case round =>
    clear c0
    obtain ⟨k, hk, rfl, hs, hc⟩ := hrel
    by_cases hkn : k < m.length
    · obtain ⟨vb, vo, vc', hve, hvl, hcells⟩ := Seg.full HV.out (by omega)
      simp only [Value.slice.injEq] at hve
      obtain ⟨rfl, _, rfl⟩ := hve
      have hvg : vb ≠ gb := hvb _ _ _ rfl
      have d0 := (hc.cell (p := ⟨vb, vo + k, none⟩) hvl hvg).trans (hcells k hkn)
      have d1 : wr.cell? ⟨gb, k, none⟩ = some (.int .u8 (((f k).toNat : Nat) : Int)) := by rw [hs.row.cell, ufn_at _ _ _ (by omega)]; simp
      have f1 := hs.row.free k
      have e0 : wr.cell? ⟨g, 0, none⟩ = some (.slice (some ⟨gb, 0, none⟩) n n) := hs.sum.cell 0
      have HS := Lib.hid hs
      have K1 : Hid (k + 1 ≤ m.length) := hkn
      clear hs hcells
      generalize hy : m[k] = y at *
      have HY := Lib.hid hy
      clear hy
      go_wp2
      rw [bits_xor8]
      have hset : Chg (fun x => x = gb) wr (wr.setCell ⟨gb, k, none⟩ (.int .u8 (((f k ^^^ y).toNat : Nat) : Int))) := Chg.setCell (S := fun x => x = gb) (Chg.refl _ _) ⟨gb, k, none⟩ (.inl rfl) _
      refine ⟨⟨k + 1, K1.out, by go_num, ⟨HS.out.sum.mod hset hne, ?_⟩, hc.trans hset⟩, by simp [intOf]; omega⟩
      rw [← ufn_set (fun i => if i < k then f i ^^^ m.getD i 0 else f i) _ n k (f k ^^^ y) (fun i _ => ?_)]
      · exact HS.out.row.set k _
      · show (if i < k + 1 then f i ^^^ m.getD i 0 else f i) = _
        by_cases hik : i = k
        · subst hik
          rw [if_pos (by omega), if_pos rfl, List.getD_eq_getElem?_getD, List.getElem?_eq_getElem hkn]
          exact congrArg (fun z => f i ^^^ z) HY.out
        · rw [if_neg hik]
          show _ = if i < k then f i ^^^ m.getD i 0 else f i
          by_cases h2 : i < k
          · rw [if_pos (by omega), if_pos h2]
          · rw [if_neg (by omega), if_neg h2]
    · obtain rfl : k = m.length := by omega
      have e1 : wr.cell? ⟨g, 1, none⟩ = some (.int .i64 many) := hs.sum.cell 1
      have f1 := hs.sum.free 1
      have HS := Lib.hid hs
      clear hs
      go_wp2
      go_ret
      have hset : Chg (fun x => x = g) wr (wr.setCell ⟨g, 1, none⟩ (.int .i64 (many + 1))) := Chg.setCell (S := fun x => x = g) (Chg.refl _ _) ⟨g, 1, none⟩ (.inl rfl) _
      refine ⟨rfl, ⟨HS.out.sum.set 1 _, ?_⟩, (hc.mono fun x hx => .inr hx).trans (hset.mono fun x hx => .inl hx)⟩
      have := HS.out.row.mod hset (Ne.symm hne)
      rw [ufn_eq (g := fun i => f i ^^^ m.getD i 0)] at this
      · exact this
      · intro i hi
        show (if i < m.length then f i ^^^ m.getD i 0 else f i) = _
        rw [if_pos (by omega)]

end Go.Proofs.YtpegbgomnpinfaaGreat

/- Sums of rows of bytes: the value; whether it is noughts alone. -/
set_option linter.unusedVariables false
namespace Go.Proofs.YtpegbgomnpinfaaGreat
open Go.RowKit

/-- The bytes of a sum. -/
def sumL (f : Nat → UInt8) (n : Nat) : List UInt8 := (List.range n).map f
theorem sumL_length (f : Nat → UInt8) (n : Nat) : (sumL f n).length = n := by simp [sumL]
theorem ufn_ucells (f : Nat → UInt8) (n : Nat) : ufn f n = (ucells (sumL f n)).toArray := by simp [ufn, ucells, sumL]

theorem SumAt.seg {W : World} {g gb n : Nat} {f : Nat → UInt8} {many : Int} (h : SumAt W g gb n f many) : Seg W (.slice (some ⟨gb, 0, none⟩) n n) (sumL f n) := by
  have hr := h.row
  have := seg_of_at (l := sumL f n) (cap := n) hr (by rw [sumL_length]; omega) (fun j hj => by
    rw [sumL_length] at hj
    rw [ufn_at f n j hj]
    simp [sumL])
  rw [sumL_length] at this
  exact this

set_option maxRecDepth 100000 in
set_option maxHeartbeats 1000000 in
theorem xor_value (g gb n : Nat) (f : Nat → UInt8) (many : Int) (w : World) (h : SumAt w g gb n f many) (hn : n ≤ 4096) :
    Calls Tryz.prog 105 #[.pointer (some ⟨g, 0, none⟩)] w fun e w' => ∃ v, e = .returned v ∧ w'.ownsRow w.heap.size 5 1 v n (ucells (sumL f n)) ∧ Below w.heap.size w w' := by
  have hcl : Hid (Calls Tryz.prog 89 #[.slice (some ⟨gb, 0, none⟩) n n] w fun e w' => ∃ v, e = .returned v ∧ w'.ownsRow w.heap.size 5 1 v n (ucells (sumL f n)) ∧ Below w.heap.size w w') := by
    have hs := h.seg
    have := clone_any ⟨gb, 0, none⟩ n (sumL f n) w (by rw [sumL_length]; omega) (by rw [sumL_length]; exact hs)
    rw [sumL_length] at this
    exact this
  have c0 : w.cell? ⟨g, 0, none⟩ = some (.slice (some ⟨gb, 0, none⟩) n n) := h.sum.cell 0
  clear h
  go_enter Tryz.func105, Tryz.ntmps105
  go_wp2_with (go_at_call 89; refine hcl.out.mono ?_; rintro e w2 ⟨v, rfl, h1, h2⟩)
  go_ret
  exact ⟨v, rfl, h1, h2⟩

theorem u8_ne0 (x : UInt8) : (((x.toNat : Nat) : Int) != 0) = !decide (x = 0) := by
  have := u8_ne x 0
  simpa using this

set_option maxHeartbeats 1000000 in
theorem nought_do (x : UInt8) (w : World) : Calls Tryz.prog 161 #[.int .u8 ((x.toNat : Nat) : Int)] w fun e w' => e = .returned (.bool (!decide (x = 0))) ∧ w' = w := by
  have hx := u8_ne0 x
  generalize (!decide (x = 0)) = q at *
  go_enter Tryz.func161, Tryz.ntmps161
  go_wp2
  go_ret
  exact ⟨rfl, rfl⟩

/-- Noughts alone? -/
def allZero (f : Nat → UInt8) (n : Nat) : Prop := ∀ i, i < n → f i = 0

set_option maxRecDepth 100000 in
set_option maxHeartbeats 2000000 in
theorem index_nought (gb n : Nat) (f : Nat → UInt8) (w : World) (h : At w gb (ufn f n) 5) (hn : n ≤ 4096) :
    Calls Tryz.prog 186 #[.slice (some ⟨gb, 0, none⟩) n n, .func (.func 161) #[] #[]] w fun e w' => w' = w ∧ ∃ z : Int, e = .returned (.int .i64 z) ∧ ((0 ≤ z ∧ ¬ allZero f n) ∨ (z = -1 ∧ allZero f n)) := by
  have H := Lib.hid h
  clear h
  go_enter Tryz.func186, Tryz.ntmps186
  go_wp2
  go_loopw [8] (fun q wr => ∃ k : Nat, k ≤ n ∧ q = .int .i64 k ∧ (∀ i, i < k → f i = 0) ∧ wr = w) (fun q _ => n - (intOf q).toNat)
  case atStart => exact ⟨0, by omega, rfl, fun i hi => by omega, rfl⟩
  case round =>
    obtain ⟨k, hk, rfl, hz, rfl⟩ := hrel
    have HZ := Lib.hid hz
    clear hz
    by_cases hkn : k < n
    · have d0 := (H.out.cell k).trans (ufn_at f n k hkn)
      have HC := Lib.hid (nought_do (f k) wr)
      have K1 : Hid (k + 1 ≤ n) := hkn
      cases hq : decide (f k = 0)
      · rw [hq] at HC
        have HN : Hid (¬ allZero f n) := fun ha => by have := of_decide_eq_false hq; exact this (ha k hkn)
        clear hq
        generalize f k = y at *
        go_wp2_with (go_at_call 161; refine HC.out.mono ?_; rintro e w2 ⟨rfl, rfl⟩)
        go_ret
        exact ⟨rfl, _, rfl, .inl ⟨by omega, HN.out⟩⟩
      · rw [hq] at HC
        have HY : Hid (∀ i, i < k + 1 → f i = 0) := fun i hi => by
          by_cases hik : i = k
          · subst hik; exact of_decide_eq_true hq
          · exact HZ.out i (by omega)
        clear hq
        generalize f k = y at *
        go_wp2_with (go_at_call 161; refine HC.out.mono ?_; rintro e w2 ⟨rfl, rfl⟩)
        exact ⟨⟨k + 1, K1.out, by go_num, HY.out, trivial⟩, by simp [intOf]; omega⟩
    · obtain rfl : k = n := by omega
      go_wp2
      go_ret
      exact ⟨rfl, _, rfl, .inr ⟨rfl, HZ.out⟩⟩

set_option maxRecDepth 100000 in
set_option maxHeartbeats 1000000 in
theorem contains_nought (gb n : Nat) (f : Nat → UInt8) (w : World) (h : At w gb (ufn f n) 5) (hn : n ≤ 4096) :
    Calls Tryz.prog 160 #[.slice (some ⟨gb, 0, none⟩) n n, .func (.func 161) #[] #[]] w fun e w' => w' = w ∧ ∃ r : Bool, e = .returned (.bool r) ∧ (r = true ↔ ¬ allZero f n) := by
  have hi := Lib.hid (index_nought gb n f w h hn)
  clear h
  go_enter Tryz.func160, Tryz.ntmps160
  go_wp2_with (go_at_call 186; refine hi.out.mono ?_; rintro e w2 ⟨rfl, z, rfl, hz⟩)
  go_ret
  refine ⟨rfl, _, rfl, ?_⟩
  rcases hz with ⟨h1, h2⟩ | ⟨h1, h2⟩
  · simp [h1, h2]
  · simp [h1, h2]

set_option maxRecDepth 100000 in
set_option maxHeartbeats 1000000 in
theorem xor_nought (g gb n : Nat) (f : Nat → UInt8) (many : Int) (w : World) (h : SumAt w g gb n f many) (hn : n ≤ 4096) :
    Calls Tryz.prog 121 #[.pointer (some ⟨g, 0, none⟩)] w fun e w' => w' = w ∧ ∃ r : Bool, e = .returned (.bool r) ∧ (r = true ↔ allZero f n) := by
  have hi := Lib.hid (contains_nought gb n f w h.row hn)
  have c0 : w.cell? ⟨g, 0, none⟩ = some (.slice (some ⟨gb, 0, none⟩) n n) := h.sum.cell 0
  clear h
  go_enter Tryz.func121, Tryz.ntmps121
  go_wp2_with (go_at_call 160; refine hi.out.mono ?_; rintro e w2 ⟨rfl, r, rfl, hr⟩)
  go_ret
  refine ⟨rfl, _, rfl, ?_⟩
  cases r <;> simp_all

end Go.Proofs.YtpegbgomnpinfaaGreat
