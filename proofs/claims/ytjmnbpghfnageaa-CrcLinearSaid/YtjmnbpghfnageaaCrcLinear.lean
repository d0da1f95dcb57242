/- The law on sums of exclusive ors: the plain law, and its walk. -/
import Derived.Test.YtjmnbpghfnageaaCrcSums
import Derived.Deep.RegionWith
import Derived.Deep.RegionHeld3
import Derived.BigRegion
import Derived.Deep.OwnRows
namespace Go.Proofs.Ytjmnbpghfnageaa
open Go.RowKit CrcM

theorem ofNat_xor (a b : Nat) : BitVec.ofNat 32 (a ^^^ b) = BitVec.ofNat 32 a ^^^ BitVec.ofNat 32 b := by
  apply BitVec.eq_of_getLsbD_eq
  intro i hi
  simp [hi]

theorem byte_xor (n m : BitVec 32) (a b : Nat) : byte (n ^^^ m) (a ^^^ b) = byte n a ^^^ byte m b := by
  unfold byte
  rw [ofNat_xor, xor4, lin_L.it 8]

def xors (l m : List UInt8) : List UInt8 := List.zipWith (· ^^^ ·) l m

theorem reg_xor : ∀ (l m : List UInt8) (n k : BitVec 32), l.length = m.length → reg (n ^^^ k) (nats (xors l m)) = reg n (nats l) ^^^ reg k (nats m)
  | [], [], n, k, _ => rfl
  | a :: l, b :: m, n, k, h => by
    show reg (byte (n ^^^ k) (a ^^^ b).toNat) (nats (xors l m)) = reg (byte n a.toNat) (nats l) ^^^ reg (byte k b.toNat) (nats m)
    rw [UInt8.toNat_xor, byte_xor, reg_xor l m _ _ (by simpa using h)]
  | [], _ :: _, _, _, h => by simp at h
  | _ :: _, [], _, _, h => by simp at h

theorem xors_zero : ∀ (l : List UInt8), xors l (List.replicate l.length 0) = l
  | [] => rfl
  | a :: l => by
    show (a ^^^ 0) :: xors l (List.replicate l.length 0) = _
    rw [xors_zero l]; simp

theorem not4 (a b c d : BitVec 32) (h : (a ^^^ b) ^^^ (c ^^^ d) = 0#32) : ~~~a ^^^ ~~~b ^^^ ~~~c ^^^ ~~~d = 0#32 := by
  rw [← h]
  apply BitVec.eq_of_getLsbD_eq
  intro i hi
  simp only [BitVec.getLsbD_xor, BitVec.getLsbD_not, hi, decide_true, Bool.true_and]
  cases a.getLsbD i <;> cases b.getLsbD i <;> cases c.getLsbD i <;> cases d.getLsbD i <;> rfl

theorem linear_law (l m : List UInt8) (h : l.length = m.length) :
    more 0#32 (nats l) ^^^ more 0#32 (nats m) ^^^ more 0#32 (nats (xors l m)) ^^^ more 0#32 (nats (List.replicate l.length 0)) = 0#32 := by
  unfold more
  apply not4
  have e1 := reg_xor l m (~~~0#32) (~~~0#32) h
  have hx : (xors l m).length = l.length := by simp [xors, h]
  have e2 := reg_xor (xors l m) (List.replicate l.length 0) (~~~0#32) (~~~0#32) (by rw [hx]; simp)
  rw [← hx, xors_zero] at e2
  rw [← e1, ← hx, ← e2, BitVec.xor_self]

theorem zero5 : (Try.prog.info? 5).map (·.zero) = some (some (.int .u8 0)) := by kernel_rfl

/-- The k-th byte of an exclusive or. -/
def xorAt (l m : List UInt8) (i : Nat) : Value := .int .u8 (((l.getD i 0 ^^^ m.getD i 0).toNat : Nat) : Int)

theorem bits_xor8 (a b : UInt8) : bits .xor .u8 ((a.toNat : Nat) : Int) ((b.toNat : Nat) : Int) = (((a ^^^ b).toNat : Nat) : Int) := by
  rw [u8_xor_nat _ _ a.toNat_lt b.toNat_lt, UInt8.toNat_xor]

set_option maxRecDepth 100000 in
set_option maxHeartbeats 1000000 in
theorem crcLinear_walk (w : World) (u : Value) (l : List UInt8) (hu : Seg w u l) (hl : l.length ≤ 9223372036854775807) (v : Value) (m : List UInt8) (hv : Seg w v m) (hm : m.length ≤ 9223372036854775807) :
    Calls Try.prog 8 #[u, v] w fun e w' => e = .returned (.bool true) ∧ Below w.heap.size w w' := by
  obtain ⟨a, c, rfl⟩ := hu.shape
  obtain ⟨b, d, rfl⟩ := hv.shape
  obtain ⟨n, hn⟩ : ∃ n : Nat, n = min l.length m.length := ⟨_, rfl⟩
  have hmin : (if m.length < l.length then (m.length : Int) else (l.length : Int)) = (n : Int) := by split <;> omega
  have hnl : n ≤ l.length := by omega
  have hnm : n ≤ m.length := by omega
  have Hn := Lib.hid hn
  clear hn
  go_enter Try.func8, Try.ntmps8
  by_cases hbig : 100000 < n
  · go_wp2
    go_ret
    exact ⟨rfl, Below.refl _ _⟩
  · go_wp2_with (refine wpList_make_zero rfl _ _ 46 5 1 rfl slice46 _ zero5 rfl (xorAt l m) _ _ _ _ n rfl rfl (by omega) (by omega) (by omega) (by unfold maxLen; omega) ?_; intro w1 hat1 hb1)
    go_loopw [7] (fun i wr => ∃ k : Nat, k ≤ n ∧ i = .int .i64 k ∧ At wr w.heap.size (cellsTo (xorAt l m) (.int .u8 0) n k) 5 ∧ Below w.heap.size w wr) (fun i _ => n - (intOf i).toNat)
    case atStart => exact ⟨0, Nat.zero_le _, rfl, hat1, hb1⟩
    case round =>
      obtain ⟨k, hk, rfl, hat, hbw⟩ := hrel
      by_cases hlt : k < n
      · obtain ⟨b1, o1, c1, e1, hlb1, h1⟩ := Seg.full (hu.below hbw) (by omega)
        obtain ⟨b2, o2, c2, e2, hlb2, h2⟩ := Seg.full (hv.below hbw) (by omega)
        simp only [Value.slice.injEq] at e1 e2
        obtain ⟨rfl, _, rfl⟩ := e1
        obtain ⟨rfl, _, rfl⟩ := e2
        have c1 := h1 k (by omega)
        have c2 := h2 k (by omega)
        have hx := bits_xor8 l[k] m[k]
        have c3 := (hat.cell k).trans (cellsTo_at _ _ _ _ _ hlt)
        rw [if_neg (by omega)] at c3
        have f3 := hat.free k
        have Hset := Lib.hid (hat.set k (xorAt l m k))
        rw [cellsTo_set] at Hset
        have Hx := Lib.hid (show xorAt l m k = .int .u8 (((l[k] ^^^ m[k]).toNat : Nat) : Int) by simp [xorAt, show k < l.length by omega, show k < m.length by omega])
        have hk0 : (0 : Int) ≤ (k : Int) := Int.natCast_nonneg _
        have hk1 : (k : Int) < (n : Int) := by omega
        have hk2 : (k : Int) < (l.length : Int) := by omega
        have hk3 : (k : Int) < (m.length : Int) := by omega
        clear h1 h2 hu hv hat
        generalize l[k] ^^^ m[k] = z at *
        generalize l[k] = x at *
        generalize m[k] = y at *
        go_wp2
        go_region
        go_wp2
        go_roundw
        case rel => exact ⟨k + 1, by omega, by go_num, by have h := Hset.out; rw [Hx.out] at h; exact h.drew, (hbw.setCell (Nat.le_refl _) _).drew⟩
        case measure => simp [intOf]; omega
      · obtain rfl : k = n := by omega
        have e1 : (l.take k).length = k := by simp; omega
        have e2 : (m.take k).length = k := by simp; omega
        have hlaw := linear_law (l.take k) (m.take k) (by rw [e1, e2])
        rw [e1] at hlaw
        have ex : (xors (l.take k) (m.take k)).length = k := by simp [xors]; omega
        have sx : Seg wr (.slice (some ⟨w.heap.size, 0, none⟩) k k) (xors (l.take k) (m.take k)) := by
          have h := seg_of_at (cap := k) (l := xors (l.take k) (m.take k)) hat (Nat.le_of_eq ex) (fun j hj => by
            rw [ex] at hj
            rw [cellsTo_at _ _ _ _ _ hj, if_pos hj]
            simp [xors, xorAt, show j < l.length by omega, show j < m.length by omega])
          rw [ex] at h
          exact h
        obtain ⟨sa, ha⟩ : ∃ s, more 0#32 (nats (l.take k)) = s := ⟨_, rfl⟩
        obtain ⟨sb, hb⟩ : ∃ s, more 0#32 (nats (m.take k)) = s := ⟨_, rfl⟩
        obtain ⟨sc, hc⟩ : ∃ s, more 0#32 (nats (xors (l.take k) (m.take k))) = s := ⟨_, rfl⟩
        obtain ⟨sd, hd⟩ : ∃ s, more 0#32 (nats (List.replicate k 0)) = s := ⟨_, rfl⟩
        rw [ha, hb, hc, hd] at hlaw
        have ka : Hid (∀ w' : World, Below wr.heap.size wr w' → Calls Try.prog 28 #[.slice a k c] w' fun e w'' => e = .returned (.int .u32 (sa.toNat : Int)) ∧ Below w'.heap.size w' w'') :=
          fun w' hbb => by have h := sum_seg _ (l.take k) w' (by omega) (((hu.below hbw).take k (by omega)).below hbb); rw [ha] at h; exact h
        have kb : Hid (∀ w' : World, Below wr.heap.size wr w' → Calls Try.prog 28 #[.slice b k d] w' fun e w'' => e = .returned (.int .u32 (sb.toNat : Int)) ∧ Below w'.heap.size w' w'') :=
          fun w' hbb => by have h := sum_seg _ (m.take k) w' (by omega) (((hv.below hbw).take k (by omega)).below hbb); rw [hb] at h; exact h
        have kx : Hid (∀ w' : World, Below wr.heap.size wr w' → Calls Try.prog 28 #[.slice (some ⟨w.heap.size, 0, none⟩) k k] w' fun e w'' => e = .returned (.int .u32 (sc.toNat : Int)) ∧ Below w'.heap.size w' w'') :=
          fun w' hbb => by have h := sum_seg _ (xors (l.take k) (m.take k)) w' (by omega) (sx.below hbb); rw [hc] at h; exact h
        have kw : Hid (∀ (w' : World) (g : Nat), At w' g (madeCells #[.int .u8 0] k) 5 → Calls Try.prog 28 #[.slice (some ⟨g, 0, none⟩) k k] w' fun e w'' => e = .returned (.int .u32 (sd.toNat : Int)) ∧ Below w'.heap.size w' w'') := fun w' g hat => by
          have hseg := seg_of_at (cap := k) (l := List.replicate k 0) hat (by simp) (fun j hj => by
              rw [← Array.getElem?_toList, toList_madeCells_one]
              simp at hj
              simp [hj])
          rw [List.length_replicate] at hseg
          have h := sum_seg _ (List.replicate k 0) _ (by simp; omega) hseg
          rw [hd] at h
          exact h
        have kz : Hid (∀ w' : World, Calls Try.prog 28 #[.slice (some ⟨w'.heap.size, 0, none⟩) k k] (w'.alloc (.cells (madeCells #[.int .u8 0] k) 5)) fun e w'' => e = .returned (.int .u32 (sd.toNat : Int)) ∧ Below (w'.alloc (.cells (madeCells #[.int .u8 0] k) 5)).heap.size (w'.alloc (.cells (madeCells #[.int .u8 0] k) 5)) w'') := fun w' =>
          kw _ _ (At.new _ _ _)
        have hmk := fun w' => run_make_row' (P := Try.prog) 46 5 (.int .u8 0) 1 Try.underlying46 (by kernel_rfl) rfl .i64 .i64 k (by omega) (by omega) w'
        have hcap1 : (k : Int) ≤ (c : Int) := by have := hu.le; omega
        have hcap2 : (k : Int) ≤ (d : Int) := by have := hv.le; omega
        have hk0 : (0 : Int) ≤ (k : Int) := Int.natCast_nonneg _
        clear hu hv hat sx ha hb hc hd
        have e3 := bits_xor sa sb
        have e4 := bits_xor (sa ^^^ sb) sc
        have e5 := bits_xor (sa ^^^ sb ^^^ sc) sd
        rw [hlaw] at e5
        have e5' : bits .xor .u32 ((sa ^^^ sb ^^^ sc).toNat : Int) (sd.toNat : Int) = 0 := e5
        clear e5 hlaw
        generalize sa ^^^ sb ^^^ sc = p at *
        generalize sa ^^^ sb = q at *
        go_wp2_with fail
        go_region_held3 (fun w' => Below wr.heap.size wr w')
          (first | exact (Below.refl _ _).drew | exact hD | exact hC | exact hB | exact hA | exact hA.alloc hA.size _ | exact hB.alloc hB.size _ | exact hC.alloc hC.size _ | exact hD.alloc hD.size _ | exact hE)
          (first
          | (go_at_call 33; refine (known_any _).mono ?_; rintro e wA ⟨rfl, hbA⟩; have hA := (Below.refl wr.heap.size wr).drew.trans hbA)
          | (go_at_call 28; (with_reducible refine (ka.out _ ?_).mono ?_); exact hA; rintro e wB ⟨rfl, hbb⟩; have hB := hA.trans (hbb.mono hA.size); have hz2 := At.below hz hbb hz.lt; clear hz; have hz := hz2; clear hz2)
          | (go_at_call 28; (with_reducible refine (ka.out _ ?_).mono ?_); exact hA; rintro e wB ⟨rfl, hbb⟩; have hB := hA.trans (hbb.mono hA.size))
          | (go_at_call 28; (with_reducible refine (ka.out _ ?_).mono ?_); exact hA.alloc hA.size _; rintro e wB ⟨rfl, hbb⟩; have hB := (hA.alloc hA.size _).trans (hbb.mono (Nat.le_trans hA.size (by rw [size_alloc]; omega))); have hz := At.below (At.new _ _ _) hbb (by rw [size_alloc]; omega))
          | (go_at_call 28; (with_reducible refine (kb.out _ ?_).mono ?_); exact hB; rintro e wC ⟨rfl, hbb⟩; have hC := hB.trans (hbb.mono hB.size); have hz2 := At.below hz hbb hz.lt; clear hz; have hz := hz2; clear hz2)
          | (go_at_call 28; (with_reducible refine (kb.out _ ?_).mono ?_); exact hB; rintro e wC ⟨rfl, hbb⟩; have hC := hB.trans (hbb.mono hB.size))
          | (go_at_call 28; (with_reducible refine (kb.out _ ?_).mono ?_); exact hB.alloc hB.size _; rintro e wC ⟨rfl, hbb⟩; have hC := (hB.alloc hB.size _).trans (hbb.mono (Nat.le_trans hB.size (by rw [size_alloc]; omega))); have hz := At.below (At.new _ _ _) hbb (by rw [size_alloc]; omega))
          | (go_at_call 28; (with_reducible refine (kx.out _ ?_).mono ?_); exact hC; rintro e wD ⟨rfl, hbb⟩; have hD := hC.trans (hbb.mono hC.size); have hz2 := At.below hz hbb hz.lt; clear hz; have hz := hz2; clear hz2)
          | (go_at_call 28; (with_reducible refine (kx.out _ ?_).mono ?_); exact hC; rintro e wD ⟨rfl, hbb⟩; have hD := hC.trans (hbb.mono hC.size))
          | (go_at_call 28; (with_reducible refine (kx.out _ ?_).mono ?_); exact hC.alloc hC.size _; rintro e wD ⟨rfl, hbb⟩; have hD := (hC.alloc hC.size _).trans (hbb.mono (Nat.le_trans hC.size (by rw [size_alloc]; omega))); have hz := At.below (At.new _ _ _) hbb (by rw [size_alloc]; omega))
          | (go_at_call 28; (with_reducible refine (kz.out _).mono ?_); rintro e wE ⟨rfl, hbE⟩; have hE := (hD.alloc hD.size _).trans (hbE.mono (Nat.le_trans hD.size (by rw [size_alloc]; omega))))
          | (go_at_call 28; (with_reducible refine (kw.out _ _ hz).mono ?_); rintro e wE ⟨rfl, hbE⟩; have hE := hD.trans (hbE.mono hD.size)))
        all_goals
          go_wp2
          go_ret
          exact ⟨rfl, hbw.trans (hE.mono hbw.size)⟩

end Go.Proofs.Ytjmnbpghfnageaa
