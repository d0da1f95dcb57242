/- The law on pieces: its walk. -/
import Derived.Test.YtjmnbpghfnageaaPieceMath
import Derived.Test.YtjmnbpghfnageaaBlk2
import Derived.Test.YtjmnbpghfnageaaCrcSums
import Derived.Test.YtjmnbpghfnageaaCrcG
namespace Go.Proofs.Ytjmnbpghfnageaa
open Go.RowKit CrcM

set_option maxRecDepth 100000 in
set_option maxHeartbeats 1000000 in
theorem spoil_any (g n : Nat) (cur : Array Value) (w : World) (hn : n ≤ 140737488355000) (h : At w g cur 5) (hs : cur.size = n + 2) :
    Calls Try.prog 43 #[.slice (some ⟨g, 0, none⟩) n (n + 2)] w fun e w' => e = .returned (.tuple #[]) ∧ Chg (fun k => k = g) w w' := by
  go_enter Try.func43, Try.ntmps43
  go_wp2_with fail
  go_loopw [3] (fun i wr => ∃ (k : Nat) (cur : Array Value), k ≤ n + 2 ∧ i = .int .i64 k ∧ At wr g cur 5 ∧ cur.size = n + 2 ∧ Chg (fun k => k = g) w wr) (fun i _ => n + 2 - (intOf i).toNat)
  case atStart => exact ⟨0, cur, by omega, rfl, h, hs, Chg.refl _ _⟩
  case round =>
    clear h hs
    obtain ⟨k, cur, hk, rfl, h, hs, hc⟩ := hrel
    by_cases hlt : k < n + 2
    · have c1 := h.cell k
      obtain ⟨x, hx⟩ : ∃ x, cur[k]? = some x := ⟨_, Array.getElem?_eq_getElem (by omega)⟩
      rw [hx] at c1
      clear hx
      have f1 := h.free k
      have Hset := Lib.hid (h.set k (.int .u8 238))
      have Hs := Lib.hid hs
      clear h hs
      go_wp2
      go_roundw
      case rel => exact ⟨k + 1, _, by omega, by go_num, Hset.out, by rw [Array.size_setIfInBounds]; exact Hs.out, Chg.setCell (S := fun k => k = g) hc ⟨g, k, none⟩ (.inl rfl) _⟩
      case measure => simp [intOf]; omega
    · clear h hs
      go_wp2
      go_end0
      exact ⟨rfl, hc⟩

/-- What stands between two rounds: all bytes so far in a row of the law's own; the digest. -/
structure PS (w W : World) (v : Value) (all dg : List UInt8) : Prop where
  own : W.ownsRow (w.heap.size + 1) 5 1 v all.length (ucells all)
  dgt : At W w.heap.size (digest (more 0#32 (nats dg)) (dg.length : Nat)) 124
  bel : Below w.heap.size w W

theorem PS.below {w W W' : World} {v : Value} {all dg : List UInt8} (h : PS w W v all dg) (hb : Below W.heap.size W W') : PS w W' v all dg :=
  ⟨ownsRow_below h.own hb (Nat.le_refl _), h.dgt.below hb h.dgt.lt, h.bel.trans (hb.mono h.bel.size)⟩

theorem PS.chg {S : Nat → Prop} {w W W' : World} {v : Value} {all dg : List UInt8} (h : PS w W v all dg) (hc : Chg S W W') (h1 : ∀ k, v.ownBlock = some k → ¬ S k) (h2 : ∀ k, k ≤ w.heap.size → ¬ S k) : PS w W' v all dg :=
  ⟨ownsRow_chg h.own hc h1, h.dgt.mod hc (h2 _ (Nat.le_refl _)), h.bel.trans (hc.below fun k hk => ⟨Nat.lt_of_lt_of_le hk h.bel.size, h2 k (by omega)⟩)⟩

theorem PS.append {w wr w1 w2 : World} {v v2 : Value} {fl lk : List UInt8} {n : Nat} (hps : PS w wr v fl fl) (P1 : PS w w1 v fl fl) (hat : At w1 wr.heap.size (lentCells lk) 5)
    (hown : w2.ownsRow (w.heap.size + 1) 5 1 v2 (fl.length + lk.length) (ucells fl ++ ucells lk)) (hb : Below (w.heap.size + 1) w1 w2) (hgr : w1.grownBy w2 v.ownBlock)
    (hloc : v2.ownBlock = v.ownBlock ∨ v2.ownBlock = some w1.heap.size) (hn : n = wr.heap.size) :
    PS w w2 v2 (fl ++ lk) fl ∧ At w2 n (lentCells lk) 5 ∧ v2.ownBlock ≠ some n ∧ w.heap.size < n := by
  subst hn
  have hne : some wr.heap.size ≠ v.ownBlock := fun e => by
    have := (hps.own.lt _ e.symm).2
    omega
  refine ⟨⟨?_, P1.dgt.below hb (by omega), P1.bel.trans (hb.mono (by omega))⟩, (hgr.block _ hat.lt hne).trans hat, ?_, hps.dgt.lt⟩
  · rw [List.length_append, show ucells (fl ++ lk) = ucells fl ++ ucells lk by simp [ucells]]
    exact hown
  · rcases hloc with h | h
    · rw [h]; exact fun e => hne e.symm
    · rw [h]
      have := hat.lt
      simp; omega

theorem PS.added {w w2 w3 : World} {v : Value} {fl lk : List UInt8} (P : PS w w2 v (fl ++ lk) fl)
    (hat : At w3 w.heap.size (digest (more (more 0#32 (nats fl)) (nats lk)) (fl.length + lk.length : Nat)) 124) (hc : Chg (· = w.heap.size) w2 w3) : PS w w3 v (fl ++ lk) (fl ++ lk) :=
  ⟨ownsRow_chg P.own hc (fun k hk e => by have := (P.own.lt k hk).1; omega), by rw [← more_flat, List.length_append]; exact hat,
    P.bel.trans (hc.below fun k hk => ⟨Nat.lt_of_lt_of_le hk P.bel.size, by omega⟩)⟩

theorem more_nil : more 0#32 (nats []) = 0#32 := by decide +kernel

theorem leq_spell (n : Nat) : decide ((n : Int) ≤ 100000) = decide (n ≤ 100000) := decide_eq_decide.2 (by omega)

set_option maxRecDepth 100000 in
set_option maxHeartbeats 4000000 in
theorem crcPieces_main (w : World) (a : Option Addr) (cap : Nat) (ls : List (List UInt8)) (hv : Segs w (.slice a ls.length cap) ls) (hlen : ls.length ≤ 9223372036854775807) (hl : ∀ l ∈ ls, l.length ≤ 140737488351232) :
    Calls Try.prog 13 #[.slice a ls.length cap] w fun e w' => e = .returned (.bool true) ∧ Below w.heap.size w w' := by
  have Hl := Lib.hid hl
  clear hl
  go_enter Try.func13, Try.ntmps13
  go_wp2_with fail
  go_loop [3, 4] (fun n i => ∃ k : Nat, k ≤ ls.length ∧ i = .int .i64 k ∧ n = .int .i64 (tot ls k) ∧ (0 < k → tot ls k ≤ 140737488451232)) (fun _ i => ls.length - (intOf i).toNat)
  case atStart => exact ⟨0, Nat.zero_le _, rfl, by simp [tot, flat], fun h => absurd h (Nat.lt_irrefl 0)⟩
  case round =>
    obtain ⟨k, hk, rfl, rfl, hb⟩ := hrel
    by_cases hgo : k < ls.length ∧ tot ls k ≤ 100000
    · obtain ⟨hlt, hle⟩ := hgo
      obtain ⟨b, o, c, e, _, hx⟩ := hv.full (by omega)
      simp only [Value.slice.injEq] at e
      obtain ⟨rfl, _, rfl⟩ := e
      obtain ⟨u, hu, hsu⟩ := hx k hlt
      obtain ⟨a', cap', rfl⟩ := hsu.shape
      have Ht := Lib.hid (tot_succ ls k hlt)
      have hlk := Hl.out ls[k] (List.getElem_mem hlt)
      clear hx hv hsu hb
      generalize ls[k].length = m at *
      generalize tot ls k = t at *
      go_wp2
      go_round
      case rel => exact ⟨k + 1, by omega, by go_num, by rw [Ht.out]; go_num, fun _ => by rw [Ht.out]; omega⟩
      case measure => simp [intOf]; omega
    · by_cases hbig : 100000 < tot ls k
      · generalize tot ls k = t at *
        by_cases hlt : k < ls.length
        · go_wp2
          go_ret
          exact ⟨rfl, Below.refl _ _⟩
        · go_wp2
          go_ret
          exact ⟨rfl, Below.refl _ _⟩
      · have hkl : ¬ k < ls.length := by omega
        have Hkl := Lib.hid (show k = ls.length by omega)
        have Hsmall := Lib.hid (show ls.length + (flat ls ls.length).length ≤ 100000 by
          have h := hbig
          rw [show k = ls.length by omega] at h
          unfold tot at h
          omega)
        clear hb hgo
        generalize tot ls k = t at *
        go_wp2_with (first
          | (go_at_call 41; refine (new_any _).mono ?_; rintro e w1 ⟨rfl, rfl⟩)
          | (go_at_call 33; refine (known_any _).mono ?_; rintro e w2 ⟨rfl, hb2⟩)
          | (go_at_call 28; refine (sum_none _).mono ?_; rintro e w3 ⟨rfl, hb3⟩))
        have hB : Below (w.alloc (.cells (digest 0#32 0) 124)).heap.size (w.alloc (.cells (digest 0#32 0) 124)) w3 := below_then (below_then hb2 (by assumption)) hb3
        have hps : PS w w3 (.slice none 0 0) (flat ls 0) (flat ls 0) := PS.below (W := w.alloc (.cells (digest 0#32 0) 124)) ⟨World.ownsRow_nil _ _ _ _, (by rw [show flat ls 0 = [] from rfl, more_nil]; exact At.new _ _ _), (Below.refl _ _).alloc (Nat.le_refl _) _⟩ hB
        clear hB hb3 hb2
        go_loopw [6, 7, 8, 9] (fun v s j i wr => ∃ k : Nat, k ≤ ls.length ∧ i = .int .i64 k ∧ s = .int .u32 ((more 0#32 (nats (flat ls k))).toNat : Int) ∧ j = .int .u32 ((more 0#32 (nats (flat ls k))).toNat : Int) ∧ PS w wr v (flat ls k) (flat ls k)) (fun _ _ _ i _ => ls.length - (intOf i).toNat)
        case atStart => exact ⟨0, Nat.zero_le _, rfl, int_eq (by rw [show flat ls 0 = [] from rfl, more_nil]; rfl), int_eq (by rw [show flat ls 0 = [] from rfl, more_nil]; rfl), hps⟩
        case round =>
          clear hps hkl
          obtain ⟨k, hk, rfl, rfl, rfl, hps⟩ := hrel
          by_cases hlt : k < ls.length
          · obtain ⟨b, o, c, e, hbl, hx⟩ := hv.full (by omega)
            simp only [Value.slice.injEq] at e
            obtain ⟨rfl, _, rfl⟩ := e
            obtain ⟨u, hu, hsu⟩ := hx k hlt
            obtain ⟨a', cap', rfl⟩ := hsu.shape
            have Hf := Lib.hid (flat_succ ls k hlt)
            have hsm : (flat ls (k + 1)).length ≤ 100000 := by
              have h1 := flat_le ls (k + 1)
              have h2 := Hsmall.out
              omega
            have hlk : (flat ls k).length + ls[k].length ≤ 100000 := by rw [Hf.out, List.length_append] at hsm; exact hsm
            have Hm := Lib.hid (more_flat (flat ls k) ls[k])
            have Hj := Lib.hid (join_flat (flat ls k) ls[k])
            clear hx hsm
            generalize ls[k] = lk at *
            generalize flat ls k = fl at *
            have HC : Hid (∀ (W : World) (v : Value) (all dg : List UInt8), PS w W v all dg → W.cell? ⟨b, o + k, none⟩ = some (.slice a' lk.length cap') ∧ Seg W (.slice a' lk.length cap') lk) :=
              fun W v all dg P => ⟨(P.bel.cell (p := ⟨b, o + k, none⟩) hbl).trans hu, hsu.below P.bel⟩
            have C0 := (HC.out _ _ _ _ hps).1
            clear hu hsu
            obtain ⟨s, hs⟩ : ∃ s, more 0#32 (nats fl) = s := ⟨_, rfl⟩
            obtain ⟨q, hq⟩ : ∃ q, more 0#32 (nats lk) = q := ⟨_, rfl⟩
            obtain ⟨t', ht'⟩ : ∃ t', more 0#32 (nats (fl ++ lk)) = t' := ⟨_, rfl⟩
            have Hs := Lib.hid hs
            have Hq := Lib.hid hq
            have Ht' := Lib.hid ht'
            rw [hs]
            clear hs hq ht'
            have K42 : Hid (∀ (W : World) (v : Value), PS w W v (fl ++ lk) fl → At W wr.heap.size (lentCells lk) 5 → Calls Try.prog 42 #[.pointer (some ⟨w.heap.size, 0, none⟩), .slice (some ⟨wr.heap.size, 0, none⟩) lk.length (lk.length + 2)] W
                fun e W' => e = .returned (.int .i64 (fl.length + lk.length)) ∧ PS w W' v (fl ++ lk) (fl ++ lk) ∧ At W' wr.heap.size (lentCells lk) 5) := fun W v P A =>
              (add_any w.heap.size _ fl.length _ lk W P.dgt (Lent.seg ⟨_, rfl, A⟩) (by omega) (by omega)).mono fun e W' ⟨h1, h2, h3⟩ =>
                ⟨h1, P.added h2 h3, A.mod h3 (fun h => by have := hps.dgt.lt; omega)⟩
            have K29 : Hid (∀ W : World, At W wr.heap.size (lentCells lk) 5 → Calls Try.prog 29 #[.int .u32 (s.toNat : Int), .slice (some ⟨wr.heap.size, 0, none⟩) lk.length (lk.length + 2)] W
                fun e W' => e = .returned (.int .u32 (t'.toNat : Int)) ∧ Below W.heap.size W W') := fun W A => by
              have h := more_seg _ lk s W (by omega) (Lent.seg ⟨_, rfl, A⟩)
              rw [← Hs.out, Hm.out, Ht'.out, Hs.out] at h
              exact h
            have K28 : Hid (∀ W : World, At W wr.heap.size (lentCells lk) 5 → Calls Try.prog 28 #[.slice (some ⟨wr.heap.size, 0, none⟩) lk.length (lk.length + 2)] W
                fun e W' => e = .returned (.int .u32 (q.toNat : Int)) ∧ Below W.heap.size W W') := fun W A => by
              have h := sum_seg _ lk W (by omega) (Lent.seg ⟨_, rfl, A⟩)
              rw [Hq.out] at h
              exact h
            have K34 : Hid (∀ W : World, Calls Try.prog 34 #[.int .u32 (s.toNat : Int), .int .u32 (q.toNat : Int), .int .i64 (lk.length : Nat)] W
                fun e W' => e = .returned (.tuple #[.int .u32 (t'.toNat : Int), .int .u16 0]) ∧ Below W.heap.size W W') := fun W => by
              have h := join_any s q lk.length (by omega) W
              rw [← Hs.out, ← Hq.out, Hj.out, Ht'.out, Hs.out, Hq.out] at h
              exact h
            have K30 : Hid (∀ (W : World) (v : Value) (all dg : List UInt8), PS w W v all dg → At W wr.heap.size (lentCells lk) 5 → Calls Try.prog 30 #[.slice (some ⟨wr.heap.size, 0, none⟩) lk.length (lk.length + 2), .slice a' lk.length cap'] W
                fun e W' => e = .returned (.bool true) ∧ Below W.heap.size W W') := fun W v all dg P A =>
              whole_any _ _ lk W (by omega) ⟨_, rfl, A⟩ (HC.out _ _ _ _ P).2
            have K43 : Hid (∀ W : World, At W wr.heap.size (lentCells lk) 5 → Calls Try.prog 43 #[.slice (some ⟨wr.heap.size, 0, none⟩) lk.length (lk.length + 2)] W
                fun e W' => e = .returned (.tuple #[]) ∧ Chg (fun k => k = wr.heap.size) W W') := fun W A =>
              spoil_any _ _ _ W (by omega) A (by simp [lentCells, ucells])
            have K44 : Hid (∀ (W : World) (v : Value) (all : List UInt8), PS w W v all (fl ++ lk) → Calls Try.prog 44 #[.pointer (some ⟨w.heap.size, 0, none⟩)] W
                fun e W' => e = .returned (.int .u32 (t'.toNat : Int)) ∧ W = W') := fun W v all P => by
              have h := digestSum_any w.heap.size _ _ W P.dgt
              rw [Ht'.out] at h
              exact h
            have KV : Hid (∀ (W : World) (v : Value) (dg : List UInt8), PS w W v (fl ++ lk) dg → (∃ a c, v = .slice a (fl.length + lk.length) c) ∧ Calls Try.prog 28 #[v] W
                fun e W' => e = .returned (.int .u32 (t'.toNat : Int)) ∧ Below W.heap.size W W') := fun W v dg P => by
              have hsg := seg_of_owns P.own
              have h := sum_seg v (fl ++ lk) W (by rw [List.length_append]; omega) hsg
              rw [Ht'.out] at h
              obtain ⟨a, c, hv⟩ := hsg.shape
              rw [List.length_append] at hv
              exact ⟨⟨a, c, hv⟩, h⟩
            go_wp2_with (first
              | (go_at_call 27; refine (lent_any _ lk _ (by omega) (HC.out _ _ _ _ hps).2).mono ?_; rintro e w1 ⟨rfl, hat1, hb1⟩; have P1 := hps.below hb1; have C1 := (HC.out _ _ _ _ P1).1)
              | (refine wpList_append_many_at rfl _ _ 46 5 1 1 rfl slice46 (w.heap.size + 1) u6 fl.length (ucells fl) rfl P1.own a' lk.length cap' (ucells lk) rfl (by rw [ucells_length, Nat.mul_one]) (HC.out _ _ _ _ P1).2.cells.2.1 (HC.out _ _ _ _ P1).2.cells.2.2 (ucells_one lk) (by unfold maxLen; omega) (by omega) (by have := hps.bel.size; have := hat1.lt; omega) ?_; intro v2 w2 hown2 hb2 hgr2 hloc2; obtain ⟨P2, A2, N2, G2⟩ := PS.append hps P1 hat1 hown2 hb2 hgr2 hloc2 rfl; obtain ⟨⟨av, cv, rfl⟩, _⟩ := KV.out _ _ _ P2; have HN := Lib.hid N2; clear hown2 hgr2 hloc2 N2)
              | (go_at_call 42; refine (K42.out _ _ P2 A2).mono ?_; rintro e w3 ⟨rfl, P3, A3⟩)
              | (go_at_call 29; refine (K29.out _ A3).mono ?_; rintro e w4 ⟨rfl, hb4⟩; have P4 := P3.below hb4; have A4 := A3.below hb4 A3.lt)
              | (go_at_call 28; (with_reducible refine (K28.out _ ?_).mono ?_); exact A4; rintro e w5 ⟨rfl, hb5⟩; have P5 := P4.below hb5; have A5 := A4.below hb5 A4.lt)
              | (go_at_call 34; refine (K34.out _).mono ?_; rintro e w6 ⟨rfl, hb6⟩; have P6 := P5.below hb6; have A6 := A5.below hb6 A5.lt; have C6 := (HC.out _ _ _ _ P6).1)
              | (go_at_call 30; refine (K30.out _ _ _ _ P6 A6).mono ?_; rintro e w7 ⟨rfl, hb7⟩; have P7 := P6.below hb7; have A7 := A6.below hb7 A6.lt)
              | (go_at_call 43; refine (K43.out _ A7).mono ?_; rintro e w8 ⟨rfl, hc8⟩; have P8 := P7.chg hc8 (fun k hk e => HN.out (by rw [hk, e])) (fun k hk e => by omega))
              | (go_at_call 44; refine (K44.out _ _ _ P8).mono ?_; rintro e w8' ⟨rfl, rfl⟩)
              | (go_at_call 28; refine (KV.out _ _ _ P8).2.mono ?_; rintro e w9 ⟨rfl, hb9⟩; have P9 := P8.below hb9))
            go_roundw
            case rel => exact ⟨k + 1, by omega, by go_num, by rw [Hf.out, Ht'.out], by rw [Hf.out, Ht'.out], by rw [Hf.out]; exact P9⟩
            case measure => simp [intOf]; omega
          · have hb := hps.bel
            generalize more 0#32 (nats (flat ls k)) = s at *
            clear hps
            go_wp2
            go_ret
            exact ⟨rfl, hb⟩

set_option maxRecDepth 100000 in
theorem crcPieces_walk {H : Type} (w : World) (enc : TypeId × Value → H) (base : Nat) (v : Value) (d : DataW H) (ps : List MemPlace) (hok : Value.okWide Try.prog w .any base 66 v)
    (h : DataW.Trod enc Try.prog w 0 (fun _ => true) true 66 v d ps) (hw : ∀ n ∈ d.weights Try.prog 66, n ≤ reachBytes) :
    Calls Try.prog 13 #[v] w fun e w' => e = .returned (.bool true) ∧ Below w.heap.size w w' := by
  obtain ⟨ls, h1, h2, h3⟩ := segs_of_trod Try.underlying66 Try.underlying46 Try.underlying5 (by kernel_rfl) (by kernel_rfl) (by kernel_rfl) (of_decide_eq_true (by kernel_rfl)) hok h hw
  obtain ⟨a, cap, rfl⟩ := h1.shape
  exact crcPieces_main w a cap ls h1 (by omega) h3

end Go.Proofs.Ytjmnbpghfnageaa
