/- The law on bursts: its walk. -/
import Derived.Test.YtjmnbpghfnageaaBurstMath
import Derived.Test.YtjmnbpghfnageaaCrcLinear
namespace Go.Proofs.Ytjmnbpghfnageaa
open Go.RowKit CrcM

/-- The first cells of block g are these bytes. -/
def Holds (w : World) (g : Nat) (l : List UInt8) : Prop := ∃ cur, At w g cur 5 ∧ ∀ j (h : j < l.length), cur[j]? = some (.int .u8 ((l[j].toNat : Nat) : Int))

theorem Holds.set {w : World} {g : Nat} {l : List UInt8} (h : Holds w g l) (i : Nat) (u : UInt8) : Holds (w.setCell ⟨g, i, none⟩ (.int .u8 ((u.toNat : Nat) : Int))) g (l.set i u) := by
  obtain ⟨cur, hat, hc⟩ := h
  refine ⟨_, hat.set i _, fun j hj => ?_⟩
  have hj' : j < l.length := by simpa using hj
  have hs : j < cur.size := by
    have := hc j hj'
    exact (Array.getElem?_eq_some_iff.1 this).1
  rw [Array.getElem?_setIfInBounds, List.getElem_set]
  by_cases hij : i = j
  · subst hij; simp [hs]
  · simp [hij, hc j hj']

theorem Holds.cell {w : World} {g : Nat} {l : List UInt8} (h : Holds w g l) (i : Nat) (hi : i < l.length) : w.cell? ⟨g, i, none⟩ = some (.int .u8 ((l[i].toNat : Nat) : Int)) := by
  obtain ⟨cur, hat, hc⟩ := h
  rw [hat.cell]; exact hc i hi

theorem Holds.free {w : World} {g : Nat} {l : List UInt8} (h : Holds w g l) (i : Nat) : w.frozen? ⟨g, i, none⟩ = false := by
  obtain ⟨cur, hat, _⟩ := h
  exact hat.free i

theorem Holds.seg {w : World} {g cap : Nat} {l : List UInt8} (h : Holds w g l) (hc : l.length ≤ cap) : Seg w (.slice (some ⟨g, 0, none⟩) l.length cap) l := by
  obtain ⟨cur, hat, hcs⟩ := h
  exact seg_of_at hat hc hcs

theorem pow_byte (j : Nat) : (2 : Int) ^ (j % 8) % 256 = (((UInt8.ofNat (2 ^ (j % 8))).toNat : Nat) : Int) := by
  rw [UInt8.toNat_ofNat']
  simp

theorem bv_ne (x y : BitVec 32) : ((x.toNat : Int) != (y.toNat : Int)) = (x != y) := by
  by_cases h : x = y
  · subst h; simp
  · have : ¬ x.toNat = y.toNat := fun e => h (BitVec.eq_of_toNat_eq e)
    have h2 : ((x.toNat : Int) != (y.toNat : Int)) = true := by rw [bne_iff_ne]; omega
    rw [h2]
    exact (bne_iff_ne.2 h).symm

theorem holds_of_owns {w : World} {base : Nat} {v : Value} {l : List UInt8} (h : w.ownsRow base 5 1 v l.length (ucells l)) (hn : 0 < l.length) :
    ∃ g cap, v = .slice (some ⟨g, 0, none⟩) l.length cap ∧ base ≤ g ∧ l.length ≤ cap ∧ Holds w g l := by
  obtain ⟨hl, h⟩ := h
  rcases h with ⟨_, h⟩ | ⟨g, cap, cur, hv, hb, hg, hc, _, hs, ht⟩
  · omega
  · refine ⟨g, cap, hv, hb, hc, cur, hg, fun j hj => ?_⟩
    have : (ucells l)[j]? = some (.int .u8 ((l[j].toNat : Nat) : Int)) := by simp [ucells, hj]
    rw [← this, ← ht, List.getElem?_take, if_pos (by omega)]
    simp

set_option maxRecDepth 100000 in
set_option maxHeartbeats 1000000 in
theorem bursts_known (w : World) (a : Option Addr) (n cap : Nat) (a1 : Int) (c : BitVec 32) (hn : n ≤ 9223372036854775807)
    (h : ((n : Int) == 0) = true ∨ (((n : Int) == 0) = false ∧ 100000 < n) ∨ (((n : Int) == 0) = false ∧ n ≤ 100000 ∧ ((c.toNat : Int) == 0) = true)) :
    Calls Try.prog 9 #[.slice a n cap, .int .i64 a1, .int .u32 c.toNat] w fun e w' => e = .returned (.bool true) ∧ Below w.heap.size w w' := by
  rcases h with h | ⟨h, h'⟩ | ⟨h, h', h''⟩
  all_goals
    go_enter Try.func9, Try.ntmps9
    go_wp2_with (go_at_call 33; refine (known_any _).mono ?_; rintro e wA ⟨rfl, hbA⟩)
    go_ret
    exact ⟨rfl, hbA⟩

set_option maxRecDepth 100000 in
set_option maxHeartbeats 2000000 in
theorem bursts_some (w : World) (b o cap : Nat) (l : List UInt8) (hv : Seg w (.slice (some ⟨b, o, none⟩) l.length cap) l) (a1 : Int) (hbd1 : -9223372036854775808 ≤ a1) (hbd2 : a1 ≤ 9223372036854775807) (c : BitVec 32) (hl : l.length ≤ 100000) (hl0 : 0 < l.length) (hc0 : ((c.toNat : Int) == 0) = false) :
    Calls Try.prog 9 #[.slice (some ⟨b, o, none⟩) l.length cap, .int .i64 a1, .int .u32 c.toNat] w fun e w' => e = .returned (.bool true) ∧ Below w.heap.size w w' := by
  have h0 : ((l.length : Int) == 0) = false := beq_eq_false_iff_ne.2 (by omega)
  obtain ⟨t, ht⟩ : ∃ t, a1.tmod (8 * (l.length : Int)) = t := ⟨_, rfl⟩
  obtain ⟨f, hf, hff⟩ : ∃ f : Nat, f < 8 * l.length ∧ ((t < 0 ∧ (f : Int) = t + 8 * l.length) ∨ (0 ≤ t ∧ (f : Int) = t)) := by
    have h1 := Int.tmod_lt_of_pos a1 (show (0 : Int) < 8 * (l.length : Int) by omega)
    have h2 : -(8 * (l.length : Int)) < t := by
      rw [← ht]
      exact Int.lt_tmod_of_pos a1 (b := 8 * (l.length : Int)) (by omega)
    rw [ht] at h1
    by_cases h : t < 0
    · exact ⟨(t + 8 * l.length).toNat, by omega, .inl ⟨h, by omega⟩⟩
    · exact ⟨t.toNat, by omega, .inr ⟨by omega, by omega⟩⟩
  have hcells := Lib.hid hv.cells
  have Hv := Lib.hid hv
  clear hv
  have hownnil := World.ownsRow_nil w w.heap.size 5 1
  have hlaw := Lib.hid (burst_law l f c hf)
  rcases hff with ⟨hneg, hft⟩ | ⟨hneg, hft⟩
  · have hft' : t + 8 * (l.length : Int) = (f : Int) := hft.symm
    clear hft
    go_enter Try.func9, Try.ntmps9
    go_wp2_with (refine wpList_append_many rfl _ _ 46 5 1 1 rfl slice46 w.heap.size (.slice none 0 0) 0 [] rfl hownnil (some ⟨b, o, none⟩) l.length cap (ucells l) rfl (by rw [ucells_length, Nat.mul_one]) hcells.out.2.1 hcells.out.2.2 (ucells_one l) (by unfold maxLen; omega) (by omega) (Nat.le_refl _) ?_; intro v' w1 hown1 hb1 _)
    rw [Nat.zero_add, List.nil_append] at hown1
    obtain ⟨g, cap', rfl, hg, hcap, hh1⟩ := holds_of_owns hown1 hl0
    clear hown1
    have Hf := Lib.hid hft'
    clear hft'
    go_loopw [9, 10] (fun x i wr => ∃ k : Nat, k ≤ 32 ∧ i = .int .i64 k ∧ x = .bool (anyTo l f c k) ∧ Holds wr g (turned l f c k) ∧ Below w.heap.size w wr) (fun _ i _ => 32 - (intOf i).toNat)
    case atStart => exact ⟨0, by omega, rfl, rfl, hh1, hb1⟩
    case round =>
      obtain ⟨k, hk, rfl, rfl, hh, hbw⟩ := hrel
      clear hb1 hh1
      by_cases hlt : k < 32
      · have hs := shr_and c k
        cases hb : c.getLsbD k
        · rw [hb] at hs
          have hs' : bits .and .u32 ((c.toNat : Int) / (2 : Int) ^ k) 1 = 0 := hs
          clear hs
          have Ht := Lib.hid (show turned l f c (k + 1) = turned l f c k by rw [turned, hb]; rfl)
          have Ha := Lib.hid (show anyTo l f c (k + 1) = anyTo l f c k by rw [anyTo, hb]; simp)
          clear hb
          go_wp2
          go_roundw
          case rel => exact ⟨k + 1, by omega, by go_num, by rw [Ha.out], by rw [Ht.out]; exact hh, hbw⟩
          case measure => simp [intOf]; omega
        · rw [hb] at hs
          have hs' : bits .and .u32 ((c.toNat : Int) / (2 : Int) ^ k) 1 = 1 := hs
          clear hs
          by_cases hbit : f + k < 8 * l.length
          · have hidx : (f + k) / 8 < (turned l f c k).length := by rw [turned_length]; omega
            have hidx2 : (f + k) / 8 < l.length := by omega
            have hc1 := hh.cell _ hidx
            have hf1 := hh.free ((f + k) / 8)
            obtain ⟨z, hz⟩ : ∃ z, z = (turned l f c k)[(f + k) / 8] ^^^ UInt8.ofNat (2 ^ ((f + k) % 8)) := ⟨_, rfl⟩
            have hx : bits .xor .u8 (((turned l f c k)[(f + k) / 8].toNat : Nat) : Int) ((2 : Int) ^ ((f + k) % 8) % 256) = ((z.toNat : Nat) : Int) := by
              rw [hz, ← bits_xor8, pow_byte]
            have Ht := Lib.hid (show turned l f c (k + 1) = (turned l f c k).set ((f + k) / 8) z by
              rw [turned, hb, decide_eq_true hbit, hz]
              show turn _ _ = _
              rw [turn, List.getD_eq_getElem?_getD, List.getElem?_eq_getElem hidx]; rfl)
            have Ha := Lib.hid (show anyTo l f c (k + 1) = true by rw [anyTo, hb, decide_eq_true hbit]; simp)
            have hset := Lib.hid (hh.set ((f + k) / 8) z)
            clear hb hz hh
            generalize (turned l f c k)[(f + k) / 8] = y at *
            go_wp2
            go_roundw
            case rel => exact ⟨k + 1, by omega, by go_num, by rw [Ha.out], by rw [Ht.out]; exact hset.out, hbw.setCell hg _⟩
            case measure => simp [intOf]; omega
          · have Ht := Lib.hid (show turned l f c (k + 1) = turned l f c k by rw [turned, hb, decide_eq_false hbit]; rfl)
            have Ha := Lib.hid (show anyTo l f c (k + 1) = anyTo l f c k by rw [anyTo, hb, decide_eq_false hbit]; simp)
            clear hb
            go_wp2
            go_roundw
            case rel => exact ⟨k + 1, by omega, by go_num, by rw [Ha.out], by rw [Ht.out]; exact hh, hbw⟩
            case measure => simp [intOf]; omega
      · obtain rfl : k = 32 := by omega
        have k1 : Hid (∀ w' : World, Below wr.heap.size wr w' → Calls Try.prog 28 #[.slice (some ⟨g, 0, none⟩) l.length cap'] w' fun e w'' => e = .returned (.int .u32 ((more 0#32 (nats (turned l f c 32))).toNat : Int)) ∧ Below w'.heap.size w' w'') :=
          fun w' hb => by
            have hseg := (hh.seg (cap := cap') (by rw [turned_length]; exact hcap)).below hb
            rw [turned_length] at hseg
            exact sum_seg _ (turned l f c 32) w' (by rw [turned_length]; omega) hseg
        have k2 : Hid (∀ w' : World, Below wr.heap.size wr w' → Calls Try.prog 28 #[.slice (some ⟨b, o, none⟩) l.length cap] w' fun e w'' => e = .returned (.int .u32 ((more 0#32 (nats l)).toNat : Int)) ∧ Below w'.heap.size w' w'') :=
          fun w' hb => sum_seg _ l w' (by omega) (Hv.out.below (hbw.trans (hb.mono hbw.size)))
        have hne := bv_ne (more 0#32 (nats (turned l f c 32))) (more 0#32 (nats l))
        rw [hlaw.out] at hne
        clear hh
        generalize more 0#32 (nats (turned l f c 32)) = s1 at *
        generalize more 0#32 (nats l) = s2 at *
        generalize anyTo l f c 32 = tt at *
        go_wp2_with (first
          | (go_at_call 33; refine (known_any _).mono ?_; rintro e wA ⟨rfl, hbA⟩)
          | (go_at_call 28; (with_reducible refine (k1.out _ ?_).mono ?_); exact hbA; rintro e wB ⟨rfl, hbB⟩; have hB := below_then hbA hbB)
          | (go_at_call 28; (with_reducible refine (k2.out _ ?_).mono ?_); exact hB; rintro e wC ⟨rfl, hbC⟩; have hC := below_then hB hbC))
        go_ret
        exact ⟨rfl, hbw.trans (hC.mono hbw.size)⟩
  · subst hft
    go_enter Try.func9, Try.ntmps9
    go_wp2_with (refine wpList_append_many rfl _ _ 46 5 1 1 rfl slice46 w.heap.size (.slice none 0 0) 0 [] rfl hownnil (some ⟨b, o, none⟩) l.length cap (ucells l) rfl (by rw [ucells_length, Nat.mul_one]) hcells.out.2.1 hcells.out.2.2 (ucells_one l) (by unfold maxLen; omega) (by omega) (Nat.le_refl _) ?_; intro v' w1 hown1 hb1 _)
    rw [Nat.zero_add, List.nil_append] at hown1
    obtain ⟨g, cap', rfl, hg, hcap, hh1⟩ := holds_of_owns hown1 hl0
    clear hown1
    go_loopw [9, 10] (fun x i wr => ∃ k : Nat, k ≤ 32 ∧ i = .int .i64 k ∧ x = .bool (anyTo l f c k) ∧ Holds wr g (turned l f c k) ∧ Below w.heap.size w wr) (fun _ i _ => 32 - (intOf i).toNat)
    case atStart => exact ⟨0, by omega, rfl, rfl, hh1, hb1⟩
    case round =>
      obtain ⟨k, hk, rfl, rfl, hh, hbw⟩ := hrel
      clear hb1 hh1
      by_cases hlt : k < 32
      · have hs := shr_and c k
        cases hb : c.getLsbD k
        · rw [hb] at hs
          have hs' : bits .and .u32 ((c.toNat : Int) / (2 : Int) ^ k) 1 = 0 := hs
          clear hs
          have Ht := Lib.hid (show turned l f c (k + 1) = turned l f c k by rw [turned, hb]; rfl)
          have Ha := Lib.hid (show anyTo l f c (k + 1) = anyTo l f c k by rw [anyTo, hb]; simp)
          clear hb
          go_wp2
          go_roundw
          case rel => exact ⟨k + 1, by omega, by go_num, by rw [Ha.out], by rw [Ht.out]; exact hh, hbw⟩
          case measure => simp [intOf]; omega
        · rw [hb] at hs
          have hs' : bits .and .u32 ((c.toNat : Int) / (2 : Int) ^ k) 1 = 1 := hs
          clear hs
          by_cases hbit : f + k < 8 * l.length
          · have hidx : (f + k) / 8 < (turned l f c k).length := by rw [turned_length]; omega
            have hidx2 : (f + k) / 8 < l.length := by omega
            have hc1 := hh.cell _ hidx
            have hf1 := hh.free ((f + k) / 8)
            obtain ⟨z, hz⟩ : ∃ z, z = (turned l f c k)[(f + k) / 8] ^^^ UInt8.ofNat (2 ^ ((f + k) % 8)) := ⟨_, rfl⟩
            have hx : bits .xor .u8 (((turned l f c k)[(f + k) / 8].toNat : Nat) : Int) ((2 : Int) ^ ((f + k) % 8) % 256) = ((z.toNat : Nat) : Int) := by
              rw [hz, ← bits_xor8, pow_byte]
            have Ht := Lib.hid (show turned l f c (k + 1) = (turned l f c k).set ((f + k) / 8) z by
              rw [turned, hb, decide_eq_true hbit, hz]
              show turn _ _ = _
              rw [turn, List.getD_eq_getElem?_getD, List.getElem?_eq_getElem hidx]; rfl)
            have Ha := Lib.hid (show anyTo l f c (k + 1) = true by rw [anyTo, hb, decide_eq_true hbit]; simp)
            have hset := Lib.hid (hh.set ((f + k) / 8) z)
            clear hb hz hh
            generalize (turned l f c k)[(f + k) / 8] = y at *
            go_wp2
            go_roundw
            case rel => exact ⟨k + 1, by omega, by go_num, by rw [Ha.out], by rw [Ht.out]; exact hset.out, hbw.setCell hg _⟩
            case measure => simp [intOf]; omega
          · have Ht := Lib.hid (show turned l f c (k + 1) = turned l f c k by rw [turned, hb, decide_eq_false hbit]; rfl)
            have Ha := Lib.hid (show anyTo l f c (k + 1) = anyTo l f c k by rw [anyTo, hb, decide_eq_false hbit]; simp)
            clear hb
            go_wp2
            go_roundw
            case rel => exact ⟨k + 1, by omega, by go_num, by rw [Ha.out], by rw [Ht.out]; exact hh, hbw⟩
            case measure => simp [intOf]; omega
      · obtain rfl : k = 32 := by omega
        have k1 : Hid (∀ w' : World, Below wr.heap.size wr w' → Calls Try.prog 28 #[.slice (some ⟨g, 0, none⟩) l.length cap'] w' fun e w'' => e = .returned (.int .u32 ((more 0#32 (nats (turned l f c 32))).toNat : Int)) ∧ Below w'.heap.size w' w'') :=
          fun w' hb => by
            have hseg := (hh.seg (cap := cap') (by rw [turned_length]; exact hcap)).below hb
            rw [turned_length] at hseg
            exact sum_seg _ (turned l f c 32) w' (by rw [turned_length]; omega) hseg
        have k2 : Hid (∀ w' : World, Below wr.heap.size wr w' → Calls Try.prog 28 #[.slice (some ⟨b, o, none⟩) l.length cap] w' fun e w'' => e = .returned (.int .u32 ((more 0#32 (nats l)).toNat : Int)) ∧ Below w'.heap.size w' w'') :=
          fun w' hb => sum_seg _ l w' (by omega) (Hv.out.below (hbw.trans (hb.mono hbw.size)))
        have hne := bv_ne (more 0#32 (nats (turned l f c 32))) (more 0#32 (nats l))
        rw [hlaw.out] at hne
        clear hh
        generalize more 0#32 (nats (turned l f c 32)) = s1 at *
        generalize more 0#32 (nats l) = s2 at *
        generalize anyTo l f c 32 = tt at *
        go_wp2_with (first
          | (go_at_call 33; refine (known_any _).mono ?_; rintro e wA ⟨rfl, hbA⟩)
          | (go_at_call 28; (with_reducible refine (k1.out _ ?_).mono ?_); exact hbA; rintro e wB ⟨rfl, hbB⟩; have hB := below_then hbA hbB)
          | (go_at_call 28; (with_reducible refine (k2.out _ ?_).mono ?_); exact hB; rintro e wC ⟨rfl, hbC⟩; have hC := below_then hB hbC))
        go_ret
        exact ⟨rfl, hbw.trans (hC.mono hbw.size)⟩

theorem crcBursts_walk (w : World) (v : Value) (l : List UInt8) (hv : Seg w v l) (hl : l.length ≤ 9223372036854775807) (a1 : Int) (w1 : (Lit.int .i64 a1).wf = true) (a2 : Int) (w2 : (Lit.int .u32 a2).wf = true) :
    Calls Try.prog 9 #[v, .int .i64 a1, .int .u32 a2] w fun e w' => e = .returned (.bool true) ∧ Below w.heap.size w w' := by
  obtain ⟨c, rfl⟩ := bv_of_wf w2
  have hb := bounds_i64 w1
  obtain ⟨a, cap, rfl⟩ := hv.shape
  by_cases h0 : l.length = 0
  · exact bursts_known w a _ cap a1 c hl (.inl (beq_iff_eq.2 (by omega)))
  · have h0' : ((l.length : Int) == 0) = false := beq_eq_false_iff_ne.2 (by omega)
    by_cases hbig : 100000 < l.length
    · exact bursts_known w a _ cap a1 c hl (.inr (.inl ⟨h0', hbig⟩))
    · cases hc : ((c.toNat : Int) == 0)
      · obtain ⟨b, o, cap', e, _, _⟩ := Seg.full hv (by omega)
        simp only [Value.slice.injEq] at e
        obtain ⟨rfl, _, rfl⟩ := e
        exact bursts_some w b o cap l hv a1 hb.1 hb.2 c (by omega) (by omega) hc
      · exact bursts_known w a _ cap a1 c hl (.inr (.inr ⟨h0', by omega, hc⟩))

end Go.Proofs.Ytjmnbpghfnageaa
