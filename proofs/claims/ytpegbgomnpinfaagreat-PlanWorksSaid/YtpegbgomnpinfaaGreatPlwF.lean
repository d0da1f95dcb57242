/- Helpers of the plan's laws: a sector; lists of patches and of rows that are the same; how many patches at most. -/
import Derived.Test.YtpegbgomnpinfaaGreatMrg10
set_option linter.unusedVariables false
namespace Go.Proofs.YtpegbgomnpinfaaGreat
open Go.RowKit

/-- A sector full of x. -/
def secOf (x : UInt8) : List UInt8 := sumL (fun _ => x) 128
theorem secOf_length (x : UInt8) : (secOf x).length = 128 := sumL_length _ _

theorem own_bytes {w : World} {g B : Nat} {l : List UInt8} (h : At w g (ucells l).toArray 5) (hB : B ≤ g) (hl : l.length = 128) : w.ownsRow B 5 1 (.slice (some ⟨g, 0, none⟩) 128 128) 128 (ucells l) := by
  refine ⟨by rw [ucells_length, hl], .inr ⟨g, 128, (ucells l).toArray, rfl, hB, h, Nat.le_refl _, by decide, by simp [ucells_length, hl], ?_⟩⟩
  rw [List.take_of_length_le (by rw [ucells_length]; omega)]

theorem zero_ufn (n : Nat) : (List.replicate (n * 1) (Value.int .u8 0)).toArray = ufn (fun _ => 0) n := by
  apply Array.ext_getElem?
  intro i
  simp only [ufn, List.getElem?_toArray, Nat.mul_one, List.getElem?_replicate, List.getElem?_map]
  by_cases hi : i < n <;> simp [hi]

set_option maxRecDepth 100000 in
set_option maxHeartbeats 1000000 in
theorem sec13 (x : UInt8) (w : World) :
    Calls Tryz.prog 98 #[.int .u8 ((x.toNat : Nat) : Int)] w fun e w' => e = .returned (.slice (some ⟨w.heap.size, 0, none⟩) 128 128) ∧ w'.ownsRow w.heap.size 5 1 (.slice (some ⟨w.heap.size, 0, none⟩) 128 128) 128 (ucells (secOf x)) ∧ Below w.heap.size w w' := by
  have hy : Hid (∀ (k : Nat) (g : Nat) (W : World), At W g (ufn (fun i => if i < k then x else 0) 128) 5 → k < 128 → At (W.setCell ⟨g, k, none⟩ (.int .u8 ((x.toNat : Nat) : Int))) g (ufn (fun i => if i < k + 1 then x else 0) 128) 5) := fun k g W h hk => by
    rw [← ufn_set (fun i => if i < k then x else 0) _ 128 k x (fun i _ => ?_)]
    · exact h.set k _
    · show (if i < k + 1 then x else 0) = _
      by_cases hik : i = k
      · subst hik; rw [if_pos (by omega), if_pos rfl]
      · rw [if_neg hik]
        show _ = if i < k then x else 0
        by_cases h2 : i < k
        · rw [if_pos (by omega), if_pos h2]
        · rw [if_neg (by omega), if_neg h2]
  have hend : Hid (∀ (g : Nat) (W : World), At W g (ufn (fun i => if i < 128 then x else 0) 128) 5 → W.ownsRow g 5 1 (.slice (some ⟨g, 0, none⟩) 128 128) 128 (ucells (secOf x))) := fun g W h => by
    rw [ufn_eq (g := fun _ => x) (fun i hi => if_pos hi), ufn_ucells] at h
    exact own_bytes h (Nat.le_refl _) (secOf_length x)
  have hcell : Hid (∀ k : Nat, k < 128 → ∃ z, (ufn (fun i => if i < k then x else 0) 128)[k]? = some (.int .u8 z)) := fun k hk => ⟨_, ufn_at _ _ _ hk⟩
  generalize ((x.toNat : Nat) : Int) = y at *
  go_enter Tryz.func98, Tryz.ntmps98
  go_wp2_with (refine wpList_make_same rfl _ _ 53 5 1 1 rfl slice_bytes (.int .u8 0) (by kernel_rfl) _ _ _ _ 128 rfl rfl rfl rfl (by omega) (by unfold maxLen; omega) ?_; intro w1 a1 b1; rw [zero_ufn] at a1; have A1 := Lib.hid a1; clear a1)
  go_loopw [4] (fun q wr => ∃ k : Nat, k ≤ 128 ∧ q = .int .i64 k ∧ At wr w.heap.size (ufn (fun i => if i < k then x else 0) 128) 5 ∧ Below w.heap.size w wr) (fun q _ => 128 - (intOf q).toNat)
  case atStart => exact ⟨0, by omega, rfl, by rw [ufn_eq (g := fun _ => 0) (fun i _ => if_neg (by omega))]; exact A1.out, b1⟩
  case round =>
    obtain ⟨k, hk, rfl, hA, hB⟩ := hrel
    have HA := Lib.hid hA
    by_cases hkn : k < 128
    · have f0 := hA.free k
      obtain ⟨z, hz⟩ := hcell.out k hkn
      have d0 : wr.cell? ⟨w.heap.size, k, none⟩ = some (.int .u8 z) := (hA.cell k).trans hz
      have K1 : Hid (k + 1 ≤ 128) := hkn
      clear hA hz
      go_wp2
      exact ⟨⟨k + 1, K1.out, by go_num, hy.out k _ _ HA.out hkn, hB.setCell (p := ⟨w.heap.size, k, none⟩) (Nat.le_refl _) _⟩, by simp [intOf]; omega⟩
    · obtain rfl : k = 128 := by omega
      clear hA
      go_wp2
      go_ret
      exact ⟨rfl, hend.out _ _ HA.out, hB⟩

theorem PatAt.cells {w w' : World} {b o : Nat} {p : Pat} (h : PatAt w b o p) (hlt : b < w.heap.size) (hb : Below w.heap.size w w') : PatAt w' b o p := h.below hlt hb

set_option maxRecDepth 100000 in
set_option maxHeartbeats 4000000 in
theorem same_pats (u v : Value) (ps : List Pat) (w : World) (hu : PSeg w u ps) (hv : PSeg w v ps) :
    Calls Tryz.prog 43 #[u, v] w fun e w' => e = .returned (.bool true) ∧ Below w.heap.size w w' := by
  obtain ⟨a, c, rfl⟩ := hu.shape
  obtain ⟨a', c', rfl⟩ := hv.shape
  have hn := hu.few
  have hdl : ∀ p ∈ ps, p.d.length ≤ 140737488355000 := by obtain ⟨_, _, _, _, h, _⟩ := hu; exact h
  have HD := Lib.hid hdl
  have HU := Lib.hid hu
  have HV := Lib.hid hv
  have hne : ((ps.length : Int) != (ps.length : Int)) = false := by simp
  clear hu hv hdl
  go_enter Tryz.func43, Tryz.ntmps43
  go_wp2
  go_loopw [5] (fun q wr => ∃ k : Nat, k ≤ ps.length ∧ q = .int .i64 k ∧ Below w.heap.size w wr) (fun q _ => ps.length - (intOf q).toNat)
  case atStart => exact ⟨0, by omega, rfl, Below.refl _ _⟩
  case round =>
    obtain ⟨k, hk, rfl, hbw⟩ := hrel
    have HB := Lib.hid hbw
    by_cases hkn : k < ps.length
    · obtain ⟨b, o, rfl, hlt, hx⟩ := PSeg.full (HU.out.below hbw) (by omega)
      obtain ⟨b', o', rfl, hlt', hx'⟩ := PSeg.full (HV.out.below hbw) (by omega)
      have PA := Lib.hid (hx k hkn)
      have PB := Lib.hid (hx' k hkn)
      clear hx hx'
      obtain ⟨c0, c1, s, c2, hs⟩ := PA.out
      obtain ⟨d0, d1, t, d2, ht⟩ := PB.out
      have hl := HD.out _ (List.getElem_mem hkn)
      have HC : Hid (∀ W, Below wr.heap.size wr W → Calls Tryz.prog 17 #[s, t] W fun e w' => e = .returned (.bool true) ∧ Below W.heap.size W w') := fun W hW => (same_any s t ps[k].d ps[k].d W (by omega) (by omega) (hs.below hW) (ht.below hW)).mono fun e w' ⟨x1, x2⟩ => ⟨by rw [x1]; simp, x2⟩
      obtain ⟨sa, sc, rfl⟩ := hs.shape
      obtain ⟨ta, tc, rfl⟩ := ht.shape
      have hm : (ps[k].m != ps[k].m) = false := by simp
      have hr : (ps[k].r != ps[k].r) = false := by simp
      have hcut : Hid (∀ X, Below wr.heap.size wr X → X.cell? ⟨b, o + k * 3, none⟩ = some (.int .i64 ps[k].m) ∧ X.cell? ⟨b, o + k * 3 + 1, none⟩ = some (.int .i64 ps[k].r) ∧ X.cell? ⟨b, o + k * 3 + 2, none⟩ = some (.slice sa ps[k].d.length sc) ∧ X.cell? ⟨b', o' + k * 3, none⟩ = some (.int .i64 ps[k].m) ∧ X.cell? ⟨b', o' + k * 3 + 1, none⟩ = some (.int .i64 ps[k].r) ∧ X.cell? ⟨b', o' + k * 3 + 2, none⟩ = some (.slice ta ps[k].d.length tc)) := fun X hX =>
        ⟨(hX.cell (p := ⟨b, o + k * 3, none⟩) hlt).trans c0, (hX.cell (p := ⟨b, o + k * 3 + 1, none⟩) hlt).trans c1, (hX.cell (p := ⟨b, o + k * 3 + 2, none⟩) hlt).trans c2, (hX.cell (p := ⟨b', o' + k * 3, none⟩) hlt').trans d0, (hX.cell (p := ⟨b', o' + k * 3 + 1, none⟩) hlt').trans d1, (hX.cell (p := ⟨b', o' + k * 3 + 2, none⟩) hlt').trans d2⟩
      have K1 : Hid (k + 1 ≤ ps.length) := hkn
      clear hs ht hl c0 c1 c2 d0 d1 d2
      generalize ps[k].d.length = n at *
      generalize ps[k].m = x at *
      generalize ps[k].r = y at *
      go_wp2
      go_region_held3 (fun w' => w'.cell? ⟨b, o + k * 3, none⟩ = some (.int .i64 x) ∧ w'.cell? ⟨b, o + k * 3 + 1, none⟩ = some (.int .i64 y) ∧ w'.cell? ⟨b, o + k * 3 + 2, none⟩ = some (.slice sa n sc) ∧ w'.cell? ⟨b', o' + k * 3, none⟩ = some (.int .i64 x) ∧ w'.cell? ⟨b', o' + k * 3 + 1, none⟩ = some (.int .i64 y) ∧ w'.cell? ⟨b', o' + k * 3 + 2, none⟩ = some (.slice ta n tc))
        (first | exact hcut.out _ (Below.refl _ _) | exact hcut.out _ (Below.refl _ _).drew | exact hcut.out _ HB2.out)
        (first | (go_at_call 17; (with_reducible refine (HC.out _ (Below.refl _ _).drew).mono ?_); rintro e w2 ⟨rfl, hb2⟩; have HB2 := Lib.hid ((Below.refl _ _).drew.trans hb2); clear hb2))
      go_wp2
      exact ⟨⟨k + 1, K1.out, by go_num, below_then HB.out HB2.out⟩, by simp [intOf]; omega⟩
    · obtain rfl : k = ps.length := by omega
      go_wp2
      go_ret
      exact ⟨rfl, hbw⟩

/-- The first k rows' patches. -/
def firstSum (L : List (Value × List OP)) (k : Nat) : Nat := ((L.take k).map fun x => x.2.length).sum
theorem firstSum_succ (L : List (Value × List OP)) (k : Nat) (h : k < L.length) : firstSum L (k + 1) = firstSum L k + (L[k]'h).2.length := by
  unfold firstSum
  rw [List.take_succ_eq_append_getElem h, List.map_append, List.sum_append]
  simp
theorem split_most {M C S : Nat} {us : List (Int × List UInt8)} {L : List (Value × List OP)} (h : SplitIs M C S us L) : L.length + firstSum L L.length = mostIn M (S * C) (tabAll M C us) := by
  unfold SplitIs at h
  have h1 := congrArg List.length h
  rw [List.length_map, List.length_map] at h1
  have h2 := congrArg (fun l => (l.map List.length).sum) h
  simp only [List.map_map] at h2
  unfold mostIn firstSum
  rw [List.take_length, h1, Nat.add_comm]
  congr 1
  have e1 : L.map (List.length ∘ fun x => x.2.map (·.1)) = L.map fun x => x.2.length := List.map_congr_left fun x _ => by simp
  have e2 : (rowsIn M (S * C) (tabAll M C us)).map (List.length ∘ patsIn M (tabAll M C us)) = (rowsIn M (S * C) (tabAll M C us)).map fun r => (membsIn M (tabAll M C us) r).length := List.map_congr_left fun x _ => by simp [patsIn]
  rw [e1, e2] at h2
  exact h2
theorem most_few {M C S : Nat} {us : List (Int × List UInt8)} (h : us.length ≤ 256) : mostIn M (S * C) (tabAll M C us) ≤ 512 := by
  have := most_twice M C (S * C) us us.length
  unfold tabAll
  omega

set_option maxRecDepth 100000 in
set_option maxHeartbeats 4000000 in
theorem plan_Most (M C S : Nat) (v : Value) (us : List (Int × List UInt8)) (w : World) (ok : BatchOk M C S us) (hv : PutSeg w v us) :
    Calls Tryz.prog 99 #[geo M C S, v] w fun e w' => e = .returned (.tuple #[.int .i64 (mostIn M (S * C) (tabAll M C us) : Nat), .int .u16 0]) ∧ Below w.heap.size w w' := by
  have hb0 : Below w.heap.size w (w.alloc (.cells #[.int .i64 M, .int .i64 C, .int .i64 S] 23)) := (Below.refl _ _).alloc (Nat.le_refl _) _
  have hsp : Hid (∀ W, Below w.heap.size w W → Calls Tryz.prog 145 #[geo M C S, v] W fun e w' => (∃ v' L, e = .returned (.tuple #[v', .int .u16 0]) ∧ RowsAt w' W.heap.size v' L ∧ SplitIs M C S us L) ∧ Below W.heap.size W w') := fun W hW => plan_SplitE M C S v us W ok (hv.below hW)
  have hfew := most_few (M := M) (C := C) (S := S) ok.few
  have hmost : Hid (∀ L, SplitIs M C S us L → L.length + firstSum L L.length = mostIn M (S * C) (tabAll M C us)) := fun L h => split_most h
  generalize mostIn M (S * C) (tabAll M C us) = T at *
  obtain ⟨va, vc, rfl⟩ := hv.shape
  clear hv ok
  unfold geo at *
  go_enter Tryz.func99, Tryz.ntmps99
  go_wp2_with (first
    | (go_at_call 145; (with_reducible refine (hsp.out _ hb0).mono ?_); rintro e w2 ⟨⟨v', L, rfl, hL, hSI⟩, hb2⟩; obtain ⟨ra, rc, rfl⟩ := ownsRow_shape hL.row; have hmm := hmost.out L hSI; have HL := Lib.hid hL; have HB2 := Lib.hid (below_then hb0 hb2); clear hL hSI hb2))
  have hsum : ∀ k, k ≤ L.length → firstSum L k ≤ firstSum L L.length := fun k hk => by
    unfold firstSum
    rw [List.take_length]
    have e : L.map (fun x => x.2.length) = (L.take k).map (fun x => x.2.length) ++ (L.drop k).map (fun x => x.2.length) := by rw [← List.map_append, List.take_append_drop]
    rw [e, List.sum_append]
    omega
  have HSUM := Lib.hid hsum
  clear hsum
  go_loopw [21, 8] (fun q s wr => ∃ k : Nat, k ≤ L.length ∧ q = .int .i64 k ∧ s = .int .i64 ((L.length + firstSum L k : Nat) : Int) ∧ wr = w2) (fun q _ _ => L.length - (intOf q).toNat)
  case atStart => exact ⟨0, by omega, rfl, by simp [firstSum], rfl⟩
  case round =>
    obtain ⟨k, hk, rfl, rfl, rfl⟩ := hrel
    by_cases hkn : k < L.length
    · obtain ⟨g, cap, hve, -, hlt, hcl, -⟩ := ownsRow_cell HL.out.row (by omega)
      simp only [Value.slice.injEq] at hve
      obtain ⟨rfl, -, rfl⟩ := hve
      have hx := HL.out.each _ (List.getElem_mem hkn)
      have d0 := hcl k hkn
      rw [List.getElem?_map, List.getElem?_eq_getElem hkn] at d0
      simp only [Option.map_some] at d0
      obtain ⟨la, lc, hls⟩ := ownsRow_shape hx.row
      rw [hls] at d0
      have hs1 := firstSum_succ L k hkn
      have hs2 := HSUM.out (k + 1) hkn
      have HS1 := Lib.hid hs1
      have K1 : Hid (k + 1 ≤ L.length) := hkn
      rw [hs1] at hs2
      clear hx hcl hls hs1
      generalize (L[k]'hkn).2.length = n at *
      generalize firstSum L k = s at *
      generalize firstSum L L.length = tot at *
      go_wp2
      exact ⟨⟨k + 1, K1.out, by go_num, by rw [HS1.out]; go_num, trivial⟩, by simp [intOf]; omega⟩
    · obtain rfl : k = L.length := by omega
      go_wp2
      go_ret2
      exact ⟨congrArg (fun q : Nat => Ending.returned (.tuple #[.int .i64 (q : Int), .int .u16 0])) hmm, HB2.out⟩

end Go.Proofs.YtpegbgomnpinfaaGreat
