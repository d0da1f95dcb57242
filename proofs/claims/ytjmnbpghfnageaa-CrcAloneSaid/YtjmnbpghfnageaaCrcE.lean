/- The walks of the document's checksum: sums, a matrix times a number, the join. -/
import Derived.Test.YtjmnbpghfnageaaCrcD
namespace Go.Proofs.Ytjmnbpghfnageaa
open Go.RowKit CrcM

theorem ref_byte (n : BitVec 32) (u : UInt8) : byte n u.toNat = it L 8 (n ^^^ BitVec.ofNat 32 u.toNat) := rfl

set_option maxHeartbeats 1000000 in
theorem rmore_some (b off cap : Nat) (l : List UInt8) (sum : BitVec 32) (w : World) (hl : l.length ≤ 9223372036854775807)
   (hc : ∀ j (h : j < l.length), w.cell? ⟨b, off + j, none⟩ = some (.int .u8 ((l[j].toNat : Nat) : Int))) :
   Calls Try.prog 32 #[.int .u32 sum.toNat, .slice (some ⟨b, off, none⟩) l.length cap] w fun e w' => e = .returned (.int .u32 ((more sum (nats l)).toNat : Int)) ∧ w = w' := by
  go_enter Try.func32, Try.ntmps32
  go_wp2_with fail
  obtain ⟨s, hs⟩ : ∃ s, s = ~~~sum := ⟨_, rfl⟩
  have Hs := Lib.hid hs
  clear hs
  have Hc := Lib.hid hc
  clear hc
  go_loop [5, 6] (fun n i => ∃ k : Nat, k ≤ l.length ∧ i = .int .i64 k ∧ n = .int .u32 ((reg s (nats (l.take k))).toNat : Int)) (fun _ i => l.length - (intOf i).toNat)
  case atStart => exact ⟨0, Nat.zero_le _, rfl, int_eq (by rw [Hs.out]; exact not_max sum)⟩
  case round =>
    obtain ⟨k, hk, rfl, rfl⟩ := hrel
    by_cases hlt : k < l.length
    · have hck := Hc.out k hlt
      have Hsn := Lib.hid (show reg s (nats (l.take (k + 1))) = byte (reg s (nats (l.take k))) l[k].toNat by rw [nats_take l k hlt, reg_snoc])
      generalize reg s (nats (l.take k)) = n at Hsn ⊢
      have hx := xor_byte n l[k]
      have hmod : ((l[k].toNat : Nat) : Int) % 4294967296 = ((l[k].toNat : Nat) : Int) := by
        have := l[k].toNat_lt
        omega
      obtain ⟨y, hy⟩ : ∃ y, y = n ^^^ BitVec.ofNat 32 l[k].toNat := ⟨_, rfl⟩
      rw [← hy] at hx
      have Hy := Lib.hid hy
      clear hy
      go_wp2_with (go_at_call 50; refine (through_any y 8 (by omega) _).mono ?_; rintro e w' ⟨rfl, rfl⟩)
      go_round
      case rel => exact ⟨k + 1, by omega, by go_num, int_eq (by rw [Hsn.out, byte, ← Hy.out])⟩
      case measure => simp [intOf]; omega
    · go_wp2
      go_ret
      refine ⟨ret_int ?_, rfl⟩
      rw [show k = l.length from by omega, List.take_length, more, ← Hs.out]
      exact not_max _

theorem rmore_none (a : Option Addr) (cap : Nat) (sum : BitVec 32) (w : World) :
   Calls Try.prog 32 #[.int .u32 sum.toNat, .slice a 0 cap] w fun e w' => e = .returned (.int .u32 ((more sum []).toNat : Int)) ∧ w = w' := by
  go_enter Try.func32, Try.ntmps32
  go_wp2_with fail
  obtain ⟨s, hs⟩ : ∃ s, s = ~~~sum := ⟨_, rfl⟩
  have Hs := Lib.hid hs
  clear hs
  go_loop [5, 6] (fun n i => i = .int .i64 0 ∧ n = .int .u32 (s.toNat : Int)) (fun _ _ => 0)
  case atStart => exact ⟨rfl, int_eq (by rw [Hs.out]; exact not_max sum)⟩
  case round =>
    obtain ⟨rfl, rfl⟩ := hrel
    go_wp2
    go_ret
    refine ⟨ret_int ?_, rfl⟩
    rw [show more sum [] = ~~~s from by rw [Hs.out]; rfl]
    exact not_max s

theorem rmore_seg (v : Value) (l : List UInt8) (sum : BitVec 32) (w : World) (hl : l.length ≤ 9223372036854775807) (hv : Seg w v l) :
   Calls Try.prog 32 #[.int .u32 sum.toNat, v] w fun e w' => e = .returned (.int .u32 ((more sum (nats l)).toNat : Int)) ∧ w = w' := by
  obtain ⟨a, cap, rfl, _, h⟩ := hv
  rcases h with rfl | ⟨b, off, rfl, hb, hc⟩
  · exact rmore_none a cap sum w
  · exact rmore_some b off cap l sum w hl hc

set_option maxHeartbeats 400000 in
theorem rsum_seg (v : Value) (l : List UInt8) (w : World) (hl : l.length ≤ 9223372036854775807) (hv : Seg w v l) :
   Calls Try.prog 31 #[v] w fun e w' => e = .returned (.int .u32 ((more 0#32 (nats l)).toNat : Int)) ∧ w = w' := by
  have h := rmore_seg v l 0#32 w hl hv
  go_enter Try.func31, Try.ntmps31
  go_wp2_with fail
  refine Calls.mono (R := fun e w' => e = .returned (.int .u32 ((more 0#32 (nats l)).toNat : Int)) ∧ w = w') h ?_
  rintro e w' ⟨rfl, rfl⟩
  clear h
  go_wp2
  go_ret
  exact ⟨rfl, rfl⟩

/-- A slice of at least 32 numbers. -/
def Mat (w : World) (v : Value) (m : Nat → BitVec 32) : Prop :=
  ∃ g cap, v = .slice (some ⟨g, 0, none⟩) 32 cap ∧ g < w.heap.size ∧ ∀ i, i < 32 → w.cell? ⟨g, i, none⟩ = some (.int .u32 ((m i).toNat : Int))

theorem shr_and (n : BitVec 32) (k : Nat) : bits .and .u32 ((n.toNat : Int) / (2 : Int) ^ k) 1 = if n.getLsbD k then 1 else 0 := by
  have h : (n.toNat : Int) / (2 : Int) ^ k = ((n >>> k).toNat : Int) := by
    rw [BitVec.toNat_ushiftRight, Nat.shiftRight_eq_div_pow]
    simp
  rw [h, bits_andl _ 1 (by decide) (by decide)]
  rw [show BitVec.ofNat 32 (1 : Int).toNat = 1#32 from rfl, shr_bit]
  cases n.getLsbD k <;> rfl

set_option maxHeartbeats 1000000 in
theorem times_any (v : Value) (m : Nat → BitVec 32) (n : BitVec 32) (w : World) (hv : Mat w v m) :
   Calls Try.prog 54 #[v, .int .u32 n.toNat] w fun e w' => e = .returned (.int .u32 ((times m n 32).toNat : Int)) ∧ w = w' := by
  obtain ⟨g, cap, rfl, hg, hc⟩ := hv
  have Hc := Lib.hid hc
  clear hc
  go_enter Try.func54, Try.ntmps54
  go_wp2_with fail
  go_loop [5, 6] (fun o i => ∃ k : Nat, k ≤ 32 ∧ i = .int .i64 k ∧ o = .int .u32 ((times m n k).toNat : Int)) (fun _ i => 32 - (intOf i).toNat)
  case atStart => exact ⟨0, Nat.zero_le _, rfl, rfl⟩
  case round =>
    obtain ⟨k, hk, rfl, rfl⟩ := hrel
    by_cases hlt : k < 32
    · have hck := Hc.out k hlt
      have hs := shr_and n k
      cases hb : n.getLsbD k
      · rw [hb] at hs
        have hs' : bits .and .u32 ((n.toNat : Int) / (2 : Int) ^ k) 1 = 0 := hs
        have Hr := Lib.hid (times_skip m n k hb)
        clear hs hb
        go_wp2
        go_round
        case rel => exact ⟨k + 1, by omega, by go_num, int_eq (by rw [Hr.out])⟩
        case measure => simp [intOf]; omega
      · rw [hb] at hs
        have hs' : bits .and .u32 ((n.toNat : Int) / (2 : Int) ^ k) 1 = 1 := hs
        have Hr := Lib.hid (times_step m n k hb)
        clear hs hb
        go_wp2
        go_round
        case rel => exact ⟨k + 1, by omega, by go_num, int_eq (by rw [Hr.out]; exact bits_xor _ _)⟩
        case measure => simp [intOf]; omega
    · obtain rfl : k = 32 := by omega
      go_wp2
      go_ret
      exact ⟨rfl, rfl⟩

/-- The first k columns, as a list of values. -/
def ulist (f : Nat → BitVec 32) (k : Nat) : List Value := (List.range k).map fun i => Value.int .u32 ((f i).toNat : Int)

theorem ulist_succ (f : Nat → BitVec 32) (k : Nat) : ulist f (k + 1) = ulist f k ++ [.int .u32 ((f k).toNat : Int)] := by
  simp [ulist, List.range_succ]

theorem mat_of_row {w : World} {base : Nat} {v : Value} {f : Nat → BitVec 32} (h : w.ownsRow base 45 1 v 32 (ulist f 32)) : Mat w v f := by
  obtain ⟨g, cap, hv, _, hg, hc, _⟩ := ownsRow_cell h (by decide)
  exact ⟨g, cap, hv, hg, fun i hi => by rw [hc i hi]; simp [ulist, hi]⟩

theorem Mat.nth {w : World} {v : Value} {f : Nat → BitVec 32} (h : Mat w v f) : ∃ g cap, v = .slice (some ⟨g, 0, none⟩) 32 cap ∧ ∀ i, i < 32 → w.cell? ⟨g, i, none⟩ = some (.int .u32 ((f i).toNat : Int)) := by
  obtain ⟨g, cap, hv, _, hc⟩ := h
  exact ⟨g, cap, hv, hc⟩

theorem Mat.below {w w' : World} {v : Value} {m : Nat → BitVec 32} (h : Mat w v m) {B : Nat} (hb : Below B w w') (hB : w.heap.size ≤ B) : Mat w' v m := by
  obtain ⟨g, cap, hv, hg, hc⟩ := h
  exact ⟨g, cap, hv, Nat.lt_of_lt_of_le hg hb.size, fun i hi => (hb.cell (p := ⟨g, i, none⟩) (Nat.lt_of_lt_of_le hg hB)).trans (hc i hi)⟩

theorem slice103 : SliceOf Try.prog 103 45 1 4 := SliceOf.mk' (z := .int .u32 0) Try.underlying103 (by decide) (by kernel_rfl) rfl

set_option maxHeartbeats 1000000 in
theorem rjoin_neg (first second : BitVec 32) (n : Int) (hn : n < 0) (w : World) :
   Calls Try.prog 35 #[.int .u32 first.toNat, .int .u32 second.toNat, .int .i64 n] w fun e w' => e = .returned (.tuple #[.int .u32 0, .int .i64 1]) ∧ w = w' := by
  go_enter Try.func35, Try.ntmps35
  go_wp2_with fail
  go_ret2
  exact ⟨rfl, rfl⟩

set_option maxRecDepth 100000 in
set_option maxHeartbeats 1000000 in
theorem rjoin_any (first second : BitVec 32) (N : Nat) (hN : N ≤ 9223372036854775807) (w : World) :
   Calls Try.prog 35 #[.int .u32 first.toNat, .int .u32 second.toNat, .int .i64 N] w fun e w' => e = .returned (.tuple #[.int .u32 (join first second N).toNat, .int .i64 0]) ∧ Below w.heap.size w w' := by
  go_enter Try.func35, Try.ntmps35
  go_wp2_with fail
  go_loopw [8, 9] (fun v i wr => ∃ k : Nat, k ≤ 32 ∧ i = .int .i64 k ∧ wr.ownsRow w.heap.size 45 1 v k (ulist (cols (it L 8)) k) ∧ Below w.heap.size w wr) (fun _ i _ => 32 - (intOf i).toNat)
  case atStart => exact ⟨0, Nat.zero_le _, rfl, World.ownsRow_nil _ _ _ _, Below.refl _ _⟩
  case round =>
    obtain ⟨k, hk, rfl, hown, hbw⟩ := hrel
    have hsz := hbw.size
    by_cases hlt : k < 32
    · have hsh := one_shl k
      rw [Int.one_mul] at hsh
      have Hc := Lib.hid (show cols (it L 8) k = it L 8 (1#32 <<< k) from rfl)
      generalize (1#32 <<< k : BitVec 32) = y at *
      go_wp2_with (first
        | (go_at_call 50; refine (through_any y 8 (by omega) _).mono ?_; rintro e w' ⟨rfl, rfl⟩)
        | (refine wpList_append_one rfl _ _ 103 45 4 rfl slice103 w.heap.size u8 k _ rfl hown _ rfl rfl (by unfold maxLen; omega) (by omega) hsz ?_; intro v' w1 hown1 hb1 _))
      go_roundw
      case rel => exact ⟨k + 1, by omega, by go_num, by rw [ulist_succ, Hc.out]; exact hown1, hbw.trans hb1⟩
      case measure => simp [intOf]; omega
    · have hrow := mat_of_row (f := cols (it L 8)) (show wr.ownsRow w.heap.size 45 1 u8 32 (ulist (cols (it L 8)) 32) by rw [show k = 32 by omega] at hown; exact hown)
      clear hown
      have Hbw := Lib.hid hbw
      clear hbw
      go_wp2_with fail
      go_loopw [0, 2, 8] (fun x j v wr => ∃ (y : BitVec 32) (i : Nat) (m : Nat → BitVec 32) (f : BitVec 32 → BitVec 32), i ≤ 9223372036854775807 ∧ x = .int .u32 y.toNat ∧ j = .int .i64 i ∧ Mat wr v m ∧ Rep m f ∧ it f i y = it (it L 8) N first ∧ Below w.heap.size w wr) (fun _ j _ _ => (intOf j).toNat)
      case atStart => exact ⟨first, N, cols (it L 8), it L 8, hN, rfl, rfl, hrow, rep_cols (lin_L.it 8), rfl, Hbw.out⟩
      case round =>
        clear hrow Hbw hsz
        obtain ⟨y, i, m, f, hi, rfl, rfl, hmat, hrep, hit, hbw⟩ := hrel
        have hand : bits .and .i64 (i : Int) 1 = ((i % 2 : Nat) : Int) := by rw [i64_and1]; rfl
        have Hit := Lib.hid hit
        clear hit
        obtain ⟨wo, rfl⟩ : ∃ wo : World, wo = wr := ⟨_, rfl⟩
        by_cases hpos : 0 < i
        · rcases Nat.mod_two_eq_zero_or_one i with hpar | hpar
          all_goals
            rw [hpar] at hand
            have Hpar := Lib.hid hpar
            clear hpar
          · go_wp2_with (fail)
            go_loopw [11, 12] (fun v i w2 => ∃ k : Nat, k ≤ 32 ∧ i = .int .i64 k ∧ w2.ownsRow wo.heap.size 45 1 v k (ulist (sq m) k) ∧ Below wo.heap.size wo w2) (fun _ i _ => 32 - (intOf i).toNat)
            case atStart => exact ⟨0, Nat.zero_le _, rfl, World.ownsRow_nil _ _ _ _, Below.refl _ _⟩
            case round =>
              obtain ⟨k, hk, rfl, hown, hb2⟩ := hrel
              have hsz := hb2.size
              have hmat2 := hmat.below hb2 (Nat.le_refl _)
              obtain ⟨g, cap, rfl, hc⟩ := hmat2.nth
              by_cases hlt : k < 32
              · have hck := hc k hlt
                have Hs := Lib.hid (show sq m k = times m (m k) 32 from rfl)
                have Hc := Lib.hid hc
                have Hm := Lib.hid hmat
                clear hc hmat
                go_wp2_with (first
                  | (go_at_call 54; refine (times_any _ m (m k) _ hmat2).mono ?_; rintro e w' ⟨rfl, rfl⟩)
                  | (refine wpList_append_one rfl _ _ 103 45 4 rfl slice103 wo.heap.size _ k _ rfl hown _ rfl rfl (by unfold maxLen; omega) (by omega) hsz ?_; intro v' w3 hown1 hb3 _))
                go_roundw
                case rel => exact ⟨k + 1, by omega, by go_num, by rw [ulist_succ, Hs.out]; exact hown1, hb2.trans hb3⟩
                case measure => simp [intOf]; omega
              · have hrow := mat_of_row (f := sq m) (show wr.ownsRow wo.heap.size 45 1 u11 32 (ulist (sq m) 32) by rw [show k = 32 by omega] at hown; exact hown)
                clear hown
                go_wp2
                go_roundw
                case rel => exact ⟨y, i / 2, sq m, fun x => f (f x), by omega, rfl, by go_num, hrow, hrep.sq, by rw [it_half_even f i Hpar.out y, Hit.out], hbw.trans (hb2.mono hbw.size)⟩
                case measure => simp [intOf]; omega
          · go_wp2_with ((go_at_call 54; refine (times_any _ m y _ hmat).mono ?_; rintro e w' ⟨rfl, rfl⟩))
            go_loopw [11, 12] (fun v i w2 => ∃ k : Nat, k ≤ 32 ∧ i = .int .i64 k ∧ w2.ownsRow wo.heap.size 45 1 v k (ulist (sq m) k) ∧ Below wo.heap.size wo w2) (fun _ i _ => 32 - (intOf i).toNat)
            case atStart => exact ⟨0, Nat.zero_le _, rfl, World.ownsRow_nil _ _ _ _, Below.refl _ _⟩
            case round =>
              obtain ⟨k, hk, rfl, hown, hb2⟩ := hrel
              have hsz := hb2.size
              have hmat2 := hmat.below hb2 (Nat.le_refl _)
              obtain ⟨g, cap, rfl, hc⟩ := hmat2.nth
              by_cases hlt : k < 32
              · have hck := hc k hlt
                have Hs := Lib.hid (show sq m k = times m (m k) 32 from rfl)
                have Hc := Lib.hid hc
                have Hm := Lib.hid hmat
                clear hc hmat
                go_wp2_with (first
                  | (go_at_call 54; refine (times_any _ m (m k) _ hmat2).mono ?_; rintro e w' ⟨rfl, rfl⟩)
                  | (refine wpList_append_one rfl _ _ 103 45 4 rfl slice103 wo.heap.size _ k _ rfl hown _ rfl rfl (by unfold maxLen; omega) (by omega) hsz ?_; intro v' w3 hown1 hb3 _))
                go_roundw
                case rel => exact ⟨k + 1, by omega, by go_num, by rw [ulist_succ, Hs.out]; exact hown1, hb2.trans hb3⟩
                case measure => simp [intOf]; omega
              · have hrow := mat_of_row (f := sq m) (show wr.ownsRow wo.heap.size 45 1 u11 32 (ulist (sq m) 32) by rw [show k = 32 by omega] at hown; exact hown)
                clear hown
                go_wp2
                go_roundw
                case rel => exact ⟨times m y 32, i / 2, sq m, fun x => f (f x), by omega, rfl, by go_num, hrow, hrep.sq, by rw [hrep.times, it_half_odd f i Hpar.out y, Hit.out], hbw.trans (hb2.mono hbw.size)⟩
                case measure => simp [intOf]; omega
        · obtain rfl : i = 0 := by omega
          have Hb := Lib.hid hbw
          clear hbw
          go_wp2
          go_ret2
          refine ⟨?_, Hb.out⟩
          rw [show join first second N = y ^^^ second from by rw [join, ← Hit.out]; rfl, ← bits_xor]; rfl

end Go.Proofs.Ytjmnbpghfnageaa
