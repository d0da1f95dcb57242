/- The law on two digests: its walk. (Printed by gen_alone.py.) -/
import Derived.Test.YtjmnbpghfnageaaCrcPieces
namespace Go.Proofs.Ytjmnbpghfnageaa
open Go.RowKit CrcM

/-- What stands between two rounds: two rows of the law's own, two digests. -/
structure AS (w W : World) (vx vy : Value) (ax dx ay dy : List UInt8) : Prop where
  ox : W.ownsRow (w.heap.size + 2) 5 1 vx ax.length (ucells ax)
  oy : W.ownsRow (w.heap.size + 2) 5 1 vy ay.length (ucells ay)
  gx : At W w.heap.size (digest (more 0#32 (nats dx)) (dx.length : Nat)) 124
  gy : At W (w.heap.size + 1) (digest (more 0#32 (nats dy)) (dy.length : Nat)) 124
  ne : ∀ k, vx.ownBlock = some k → vy.ownBlock ≠ some k
  bel : Below w.heap.size w W

theorem AS.below {w W W' : World} {vx vy : Value} {ax dx ay dy : List UInt8} (h : AS w W vx vy ax dx ay dy) (hb : Below W.heap.size W W') : AS w W' vx vy ax dx ay dy :=
  ⟨ownsRow_below h.ox hb (Nat.le_refl _), ownsRow_below h.oy hb (Nat.le_refl _), h.gx.below hb h.gx.lt, h.gy.below hb h.gy.lt, h.ne, h.bel.trans (hb.mono h.bel.size)⟩

theorem AS.swap_ne {vx vy : Value} (h : ∀ k, vx.ownBlock = some k → vy.ownBlock ≠ some k) : ∀ k, vy.ownBlock = some k → vx.ownBlock ≠ some k := fun k hk e => h k e hk

theorem AS.addX {w W W' : World} {vx vy : Value} {ax dx ay dy lk : List UInt8} (h : AS w W vx vy ax dx ay dy)
    (hat : At W' w.heap.size (digest (more (more 0#32 (nats dx)) (nats lk)) (dx.length + lk.length : Nat)) 124) (hc : Chg (· = w.heap.size) W W') : AS w W' vx vy ax (dx ++ lk) ay dy :=
  ⟨ownsRow_chg h.ox hc (fun k hk e => by have := (h.ox.lt k hk).1; omega), ownsRow_chg h.oy hc (fun k hk e => by have := (h.oy.lt k hk).1; omega),
    by rw [← more_flat, List.length_append]; exact hat, h.gy.mod hc (by omega), h.ne, h.bel.trans (hc.below fun k hk => ⟨Nat.lt_of_lt_of_le hk h.bel.size, by omega⟩)⟩

theorem AS.addY {w W W' : World} {vx vy : Value} {ax dx ay dy lk : List UInt8} (h : AS w W vx vy ax dx ay dy)
    (hat : At W' (w.heap.size + 1) (digest (more (more 0#32 (nats dy)) (nats lk)) (dy.length + lk.length : Nat)) 124) (hc : Chg (· = w.heap.size + 1) W W') : AS w W' vx vy ax dx ay (dy ++ lk) :=
  ⟨ownsRow_chg h.ox hc (fun k hk e => by have := (h.ox.lt k hk).1; omega), ownsRow_chg h.oy hc (fun k hk e => by have := (h.oy.lt k hk).1; omega),
    h.gx.mod hc (by omega), by rw [← more_flat, List.length_append]; exact hat, h.ne, h.bel.trans (hc.below fun k hk => ⟨Nat.lt_of_lt_of_le hk h.bel.size, by omega⟩)⟩

theorem ucells_append (a b : List UInt8) : ucells (a ++ b) = ucells a ++ ucells b := by simp [ucells]

theorem AS.appX {w W W' : World} {vx vy v2 : Value} {ax dx ay dy lk : List UInt8} (h : AS w W vx vy ax dx ay dy)
    (hown : W'.ownsRow (w.heap.size + 2) 5 1 v2 (ax.length + lk.length) (ucells ax ++ ucells lk)) (hb : Below (w.heap.size + 2) W W') (hgr : W.grownBy W' vx.ownBlock)
    (hloc : v2.ownBlock = vx.ownBlock ∨ v2.ownBlock = some W.heap.size) : AS w W' v2 vy (ax ++ lk) dx ay dy := by
  refine ⟨by rw [List.length_append, ucells_append]; exact hown, h.oy.kept hgr ?_, h.gx.below hb (by omega), h.gy.below hb (by omega), ?_, h.bel.trans (hb.mono (by omega))⟩
  · cases hv : vy.ownBlock with
    | none => exact .inl rfl
    | some k => exact .inr fun e => h.ne k e.symm hv
  · intro k hk e
    rcases hloc with h' | h'
    · exact h.ne k (h'.symm.trans hk) e
    · rw [h'] at hk
      have := (h.oy.lt k e).2
      simp at hk; omega

theorem AS.appY {w W W' : World} {vx vy v2 : Value} {ax dx ay dy lk : List UInt8} (h : AS w W vx vy ax dx ay dy)
    (hown : W'.ownsRow (w.heap.size + 2) 5 1 v2 (ay.length + lk.length) (ucells ay ++ ucells lk)) (hb : Below (w.heap.size + 2) W W') (hgr : W.grownBy W' vy.ownBlock)
    (hloc : v2.ownBlock = vy.ownBlock ∨ v2.ownBlock = some W.heap.size) : AS w W' vx v2 ax dx (ay ++ lk) dy := by
  refine ⟨h.ox.kept hgr ?_, by rw [List.length_append, ucells_append]; exact hown, h.gx.below hb (by omega), h.gy.below hb (by omega), ?_, h.bel.trans (hb.mono (by omega))⟩
  · cases hv : vx.ownBlock with
    | none => exact .inl rfl
    | some k => exact .inr fun e => h.ne k hv e.symm
  · intro k hk e
    rcases hloc with h' | h'
    · exact h.ne k hk (h'.symm.trans e)
    · rw [h'] at e
      have := (h.ox.lt k hk).2
      simp at e; omega

theorem flat_over (ls : List (List UInt8)) (k : Nat) (h : ¬ k < ls.length) : flat ls (k + 1) = flat ls k := by
  unfold flat
  rw [List.take_of_length_le (by omega), List.take_of_length_le (by omega)]

theorem sum_lens {B : Nat} (w : World) (v : Value) (l : List UInt8) (P : w.ownsRow B 5 1 v l.length (ucells l)) (t : BitVec 32) (ht : more 0#32 (nats l) = t) (hl : l.length ≤ 9223372036854775807) :
    Calls Try.prog 28 #[v] w fun e w' => e = .returned (.int .u32 (t.toNat : Int)) ∧ Below w.heap.size w w' := by
  have h := sum_seg v l w hl (seg_of_owns P)
  rw [ht] at h
  exact h

set_option maxRecDepth 100000 in
set_option maxHeartbeats 8000000 in
theorem crcAlone_main (w : World) (a : Option Addr) (cap : Nat) (l : List (List UInt8)) (hv : Segs w (.slice a l.length cap) l) (hlen : l.length ≤ 140737488351232) (hl : ∀ x ∈ l, x.length ≤ 140737488351232)
    (b : Option Addr) (cap2 : Nat) (m : List (List UInt8)) (hu : Segs w (.slice b m.length cap2) m) (hlen2 : m.length ≤ 140737488351232) (hl2 : ∀ x ∈ m, x.length ≤ 140737488351232) :
    Calls Try.prog 14 #[.slice a l.length cap, .slice b m.length cap2] w fun e w' => e = .returned (.bool true) ∧ Below w.heap.size w w' := by
  have Hl := Lib.hid hl
  have Hm := Lib.hid hl2
  clear hl hl2
  go_enter Try.func14, Try.ntmps14
  go_wp2_with fail
  go_loop [5, 6] (fun n i => ∃ k : Nat, k ≤ l.length ∧ i = .int .i64 k ∧ n = .int .i64 ((l.length + m.length) + (flat l k).length : Nat) ∧ (l.length + m.length) + (flat l k).length ≤ 562949953421312) (fun _ i => l.length - (intOf i).toNat)
  case atStart => exact ⟨0, Nat.zero_le _, rfl, by simp [flat], by simp [flat]; omega⟩
  case round =>
    obtain ⟨k, hk, rfl, rfl, hb⟩ := hrel
    by_cases hgo : k < l.length ∧ (l.length + m.length) + (flat l k).length ≤ 100000
    · obtain ⟨hlt, hle⟩ := hgo
      obtain ⟨b, o, c, e, _, hx⟩ := hv.full (by omega)
      simp only [Value.slice.injEq] at e
      obtain ⟨rfl, _, rfl⟩ := e
      obtain ⟨u, hu', hsu⟩ := hx k hlt
      obtain ⟨a', cap', rfl⟩ := hsu.shape
      have Ht := Lib.hid (show (flat l (k + 1)).length = (flat l k).length + l[k].length by rw [flat_succ l k hlt, List.length_append])
      have hlk := Hl.out l[k] (List.getElem_mem hlt)
      clear hx hsu hb
      generalize l[k].length = q at *
      generalize (flat l k).length = t at *
      go_wp2
      go_round
      case rel => exact ⟨k + 1, by omega, by go_num, by rw [Ht.out]; go_num, by rw [Ht.out]; omega⟩
      case measure => simp [intOf]; omega
    · by_cases hlt : k < l.length
      · have hbx : 100000 < (l.length + m.length) + (flat l k).length := by omega
        obtain ⟨n1, hn1⟩ : ∃ n1, n1 = (l.length + m.length) + (flat l k).length := ⟨_, rfl⟩
        rw [← hn1]
        rw [← hn1] at hb
        rw [← hn1] at hbx
        have Hn1 := Lib.hid hn1
        clear hn1 hgo
        go_wp2_with fail
        go_loop [5, 7] (fun n i => ∃ k : Nat, k ≤ m.length ∧ i = .int .i64 k ∧ n = .int .i64 (n1 + (flat m k).length : Nat) ∧ n1 + (flat m k).length ≤ 562949953421312) (fun _ i => m.length - (intOf i).toNat)
        case atStart => exact ⟨0, Nat.zero_le _, rfl, by simp [flat], by simp [flat]; omega⟩
        case round =>
          obtain ⟨k, hk, rfl, rfl, hb⟩ := hrel
          by_cases hgo : k < m.length ∧ n1 + (flat m k).length ≤ 100000
          · obtain ⟨hlt, hle⟩ := hgo
            exfalso
            omega
          · generalize (flat m k).length = n2 at *
            have hbig2 : 100000 < n1 + n2 := by omega
            clear hgo
            by_cases hlt2 : k < m.length
            · go_wp2
              go_ret
              exact ⟨rfl, Below.refl _ _⟩
            · go_wp2
              go_ret
              exact ⟨rfl, Below.refl _ _⟩

      · obtain ⟨n1, hn1⟩ : ∃ n1, n1 = (l.length + m.length) + (flat l k).length := ⟨_, rfl⟩
        rw [← hn1]
        rw [← hn1] at hb
        have Hk := Lib.hid (show k = l.length by omega)
        have Hn1 := Lib.hid hn1
        clear hn1 hgo
        go_wp2_with fail
        go_loop [5, 7] (fun n i => ∃ k : Nat, k ≤ m.length ∧ i = .int .i64 k ∧ n = .int .i64 (n1 + (flat m k).length : Nat) ∧ n1 + (flat m k).length ≤ 562949953421312) (fun _ i => m.length - (intOf i).toNat)
        case atStart => exact ⟨0, Nat.zero_le _, rfl, by simp [flat], by simp [flat]; omega⟩
        case round =>
          obtain ⟨k, hk, rfl, rfl, hb⟩ := hrel
          by_cases hgo : k < m.length ∧ n1 + (flat m k).length ≤ 100000
          · obtain ⟨hlt, hle⟩ := hgo
            obtain ⟨b, o, c, e, _, hx⟩ := hu.full (by omega)
            simp only [Value.slice.injEq] at e
            obtain ⟨rfl, _, rfl⟩ := e
            obtain ⟨u, hu', hsu⟩ := hx k hlt
            obtain ⟨a', cap', rfl⟩ := hsu.shape
            have Ht := Lib.hid (show (flat m (k + 1)).length = (flat m k).length + m[k].length by rw [flat_succ m k hlt, List.length_append])
            have hlk := Hm.out m[k] (List.getElem_mem hlt)
            clear hx hsu hb
            generalize m[k].length = q at *
            generalize (flat m k).length = t at *
            go_wp2
            go_round
            case rel => exact ⟨k + 1, by omega, by go_num, by rw [Ht.out]; go_num, by rw [Ht.out]; omega⟩
            case measure => simp [intOf]; omega
          · by_cases hbig2 : 100000 < n1 + (flat m k).length
            · generalize (flat m k).length = n2 at *
              clear hgo
              by_cases hlt2 : k < m.length
              · go_wp2
                go_ret
                exact ⟨rfl, Below.refl _ _⟩
              · go_wp2
                go_ret
                exact ⟨rfl, Below.refl _ _⟩
            · have hlt2 : ¬ k < m.length := by omega
              have Hsmall : Hid (l.length + m.length + (flat l l.length).length + (flat m m.length).length ≤ 100000) := by
                have e1 := Hn1.out
                rw [Hk.out] at e1
                have e2 : k = m.length := by omega
                rw [e2] at hbig2
                show _ ≤ _
                omega
              generalize (flat m k).length = n2 at *
              clear hgo hb
              go_wp2_with (first
                | (go_at_call 41; refine (new_any _).mono ?_; rintro e w1 ⟨rfl, rfl⟩)
                | (go_at_call 33; refine (known_any _).mono ?_; rintro e w2 ⟨rfl, hb2⟩))
              have has : AS w w2 (.slice none 0 0) (.slice none 0 0) (flat l 0) (flat l 0) (flat m 0) (flat m 0) := AS.below (W := (w.alloc (.cells (digest 0#32 0) 124)).alloc (.cells (digest 0#32 0) 124))
                ⟨World.ownsRow_nil _ _ _ _, World.ownsRow_nil _ _ _ _, (by rw [show flat l 0 = [] from rfl, more_nil]; exact (At.new _ _ _).alloc _), (by rw [show flat m 0 = [] from rfl, more_nil]; exact At.new2 _ _ _ _), (by intro k hk; cases hk),
                  ((Below.refl _ _).alloc (Nat.le_refl _) _).alloc (by rw [size_alloc]; omega) _⟩ hb2
              clear hb2
              go_loopw [10, 11, 12] (fun vx vy i wr => ∃ k : Nat, k ≤ max l.length m.length ∧ i = .int .i64 k ∧ AS w wr vx vy (flat l k) (flat l k) (flat m k) (flat m k)) (fun _ _ i _ => max l.length m.length - (intOf i).toNat)
              case atStart => exact ⟨0, Nat.zero_le _, rfl, has⟩
              case round =>
                clear has
                obtain ⟨k, hk, rfl, has⟩ := hrel
                by_cases hltx : k < l.length
                · by_cases hlty : k < m.length
                  · obtain ⟨bkx, ox, cx, ex, hblx, hxx⟩ := hv.full (by omega)
                    simp only [Value.slice.injEq] at ex
                    obtain ⟨rfl, _, rfl⟩ := ex
                    obtain ⟨ux, hx, hsx⟩ := hxx k hltx
                    obtain ⟨ax, capx, rfl⟩ := hsx.shape
                    have Hfx := Lib.hid (flat_succ l k hltx)
                    have hsmx : (flat l (k + 1)).length ≤ 100000 := by
                      have h1 := flat_le l (k + 1)
                      have h2 := Hsmall.out
                      omega
                    have hlkx : (flat l k).length + l[k].length ≤ 100000 := by rw [Hfx.out, List.length_append] at hsmx; exact hsmx
                    clear hxx hsmx
                    generalize l[k] = lx at *
                    obtain ⟨bky, oy, cy, ey, hbly, hxy⟩ := hu.full (by omega)
                    simp only [Value.slice.injEq] at ey
                    obtain ⟨rfl, _, rfl⟩ := ey
                    obtain ⟨uy, hy, hsy⟩ := hxy k hlty
                    obtain ⟨ay, capy, rfl⟩ := hsy.shape
                    have Hfy := Lib.hid (flat_succ m k hlty)
                    have hsmy : (flat m (k + 1)).length ≤ 100000 := by
                      have h1 := flat_le m (k + 1)
                      have h2 := Hsmall.out
                      omega
                    have hlky : (flat m k).length + m[k].length ≤ 100000 := by rw [Hfy.out, List.length_append] at hsmy; exact hsmy
                    clear hxy hsmy
                    generalize m[k] = ly at *
                    generalize flat l k = fx at *
                    generalize flat m k = fy at *
                    have HCx : Hid (∀ (W : World) (vx vy : Value) (p q r s : List UInt8), AS w W vx vy p q r s → W.cell? ⟨bkx, ox + k, none⟩ = some (.slice ax lx.length capx) ∧ Seg W (.slice ax lx.length capx) lx) :=
                      fun W vx vy p q r s P => ⟨(P.bel.cell (p := ⟨bkx, ox + k, none⟩) hblx).trans hx, hsx.below P.bel⟩
                    have C0x := (HCx.out _ _ _ _ _ _ _ has).1
                    clear hx hsx
                    have HCy : Hid (∀ (W : World) (vx vy : Value) (p q r s : List UInt8), AS w W vx vy p q r s → W.cell? ⟨bky, oy + k, none⟩ = some (.slice ay ly.length capy) ∧ Seg W (.slice ay ly.length capy) ly) :=
                      fun W vx vy p q r s P => ⟨(P.bel.cell (p := ⟨bky, oy + k, none⟩) hbly).trans hy, hsy.below P.bel⟩
                    have C0y := (HCy.out _ _ _ _ _ _ _ has).1
                    clear hy hsy
                    obtain ⟨tx, htx⟩ : ∃ t, more 0#32 (nats (fx ++ lx)) = t := ⟨_, rfl⟩
                    obtain ⟨ty, hty⟩ : ∃ t, more 0#32 (nats (fy ++ ly)) = t := ⟨_, rfl⟩
                    have K42x : Hid (∀ (W : World) (vx vy : Value), AS w W vx vy fx fx fy fy → Calls Try.prog 42 #[.pointer (some ⟨w.heap.size, 0, none⟩), .slice ax lx.length capx] W
                        fun e W' => e = .returned (.int .i64 (fx.length + lx.length)) ∧ AS w W' vx vy fx (fx ++ lx) fy fy) := fun W vx vy P =>
                      (add_any w.heap.size _ fx.length _ lx W P.gx (HCx.out _ _ _ _ _ _ _ P).2 (by omega) (by omega)).mono fun e W' ⟨h1, h2, h3⟩ => ⟨h1, P.addX h2 h3⟩
                    have K42y : Hid (∀ (W : World) (vx vy : Value), AS w W vx vy (fx ++ lx) (fx ++ lx) fy fy → Calls Try.prog 42 #[.pointer (some ⟨w.heap.size + 1, 0, none⟩), .slice ay ly.length capy] W
                        fun e W' => e = .returned (.int .i64 (fy.length + ly.length)) ∧ AS w W' vx vy (fx ++ lx) (fx ++ lx) fy (fy ++ ly)) := fun W vx vy P =>
                      (add_any (w.heap.size + 1) _ fy.length _ ly W P.gy (HCy.out _ _ _ _ _ _ _ P).2 (by omega) (by omega)).mono fun e W' ⟨h1, h2, h3⟩ => ⟨h1, P.addY h2 h3⟩
                    have K44x : Hid (∀ (W : World) (vx vy : Value), AS w W vx vy (fx ++ lx) (fx ++ lx) (fy ++ ly) (fy ++ ly) → Calls Try.prog 44 #[.pointer (some ⟨w.heap.size, 0, none⟩)] W
                        fun e W' => e = .returned (.int .u32 (tx.toNat : Int)) ∧ W = W') := fun W vx vy P => by
                      have h := digestSum_any w.heap.size _ _ W P.gx
                      rw [htx] at h
                      exact h
                    have K44y : Hid (∀ (W : World) (vx vy : Value), AS w W vx vy (fx ++ lx) (fx ++ lx) (fy ++ ly) (fy ++ ly) → Calls Try.prog 44 #[.pointer (some ⟨w.heap.size + 1, 0, none⟩)] W
                        fun e W' => e = .returned (.int .u32 (ty.toNat : Int)) ∧ W = W') := fun W vx vy P => by
                      have h := digestSum_any (w.heap.size + 1) _ _ W P.gy
                      rw [hty] at h
                      exact h
                    have KVx : Hid (∀ (W : World) (vx vy : Value), AS w W vx vy (fx ++ lx) (fx ++ lx) (fy ++ ly) (fy ++ ly) → Calls Try.prog 28 #[vx] W
                        fun e W' => e = .returned (.int .u32 (tx.toNat : Int)) ∧ Below W.heap.size W W') := fun W vx vy P => sum_lens W vx _ P.ox tx htx (by rw [List.length_append]; omega)
                    have KVy : Hid (∀ (W : World) (vx vy : Value), AS w W vx vy (fx ++ lx) (fx ++ lx) (fy ++ ly) (fy ++ ly) → Calls Try.prog 28 #[vy] W
                        fun e W' => e = .returned (.int .u32 (ty.toNat : Int)) ∧ Below W.heap.size W W') := fun W vx vy P => sum_lens W vy _ P.oy ty hty (by rw [List.length_append]; omega)
                    clear htx hty
                    go_wp2_with (first
                      | ((with_reducible refine (K42x.out _ u10 u11 ?_).mono ?_); exact has; rintro e w1 ⟨rfl, P1⟩; have C1x := (HCx.out _ _ _ _ _ _ _ P1).1)
                      | (refine wpList_append_many_at rfl _ _ 46 5 1 1 rfl slice46 (w.heap.size + 2) u10 fx.length (ucells fx) rfl P1.ox ax lx.length capx (ucells lx) rfl (by rw [ucells_length, Nat.mul_one]) (HCx.out _ _ _ _ _ _ _ P1).2.cells.2.1 (HCx.out _ _ _ _ _ _ _ P1).2.cells.2.2 (ucells_one lx) (by unfold maxLen; omega) (by omega) (by have := P1.gy.lt; omega) ?_; intro vx2 w2 hown2 hb2 hgr2 hloc2; have P2 := P1.appX hown2 hb2 hgr2 hloc2; clear hown2 hgr2 hloc2 hb2; have C2y := (HCy.out _ _ _ _ _ _ _ P2).1)
                      | ((with_reducible refine (K42y.out _ vx2 u11 ?_).mono ?_); exact P2; rintro e w3 ⟨rfl, P3⟩; have C3y := (HCy.out _ _ _ _ _ _ _ P3).1)
                      | (refine wpList_append_many_at rfl _ _ 46 5 1 1 rfl slice46 (w.heap.size + 2) u11 fy.length (ucells fy) rfl P3.oy ay ly.length capy (ucells ly) rfl (by rw [ucells_length, Nat.mul_one]) (HCy.out _ _ _ _ _ _ _ P3).2.cells.2.1 (HCy.out _ _ _ _ _ _ _ P3).2.cells.2.2 (ucells_one ly) (by unfold maxLen; omega) (by omega) (by have := P3.gy.lt; omega) ?_; intro vy2 w4 hown4 hb4 hgr4 hloc4; have P4 := P3.appY hown4 hb4 hgr4 hloc4; clear hown4 hgr4 hloc4 hb4)
                      | ((with_reducible refine (K44x.out _ vx2 vy2 ?_).mono ?_); exact P4; rintro e w5 ⟨rfl, rfl⟩)
                      | ((with_reducible refine (K44y.out _ vx2 vy2 ?_).mono ?_); exact P4; rintro e w6 ⟨rfl, rfl⟩)
                      | ((with_reducible refine (KVx.out _ vx2 vy2 ?_).mono ?_); exact P4; rintro e w7 ⟨rfl, hb7⟩; have P7 := P4.below hb7)
                      | ((with_reducible refine (KVy.out _ vx2 vy2 ?_).mono ?_); exact P7; rintro e w8 ⟨rfl, hb8⟩; have P8 := P7.below hb8))
                    go_roundw
                    case rel => exact ⟨k + 1, by omega, by go_num, by rw [Hfx.out, Hfy.out]; exact P8⟩
                    case measure => simp [intOf]; omega

                  · obtain ⟨bkx, ox, cx, ex, hblx, hxx⟩ := hv.full (by omega)
                    simp only [Value.slice.injEq] at ex
                    obtain ⟨rfl, _, rfl⟩ := ex
                    obtain ⟨ux, hx, hsx⟩ := hxx k hltx
                    obtain ⟨ax, capx, rfl⟩ := hsx.shape
                    have Hfx := Lib.hid (flat_succ l k hltx)
                    have hsmx : (flat l (k + 1)).length ≤ 100000 := by
                      have h1 := flat_le l (k + 1)
                      have h2 := Hsmall.out
                      omega
                    have hlkx : (flat l k).length + l[k].length ≤ 100000 := by rw [Hfx.out, List.length_append] at hsmx; exact hsmx
                    clear hxx hsmx
                    generalize l[k] = lx at *
                    have Hfy := Lib.hid (flat_over m k hlty)
                    have hlky : (flat m k).length ≤ 100000 := by
                      have h1 := flat_le m k
                      have h2 := Hsmall.out
                      omega
                    generalize flat l k = fx at *
                    generalize flat m k = fy at *
                    have HCx : Hid (∀ (W : World) (vx vy : Value) (p q r s : List UInt8), AS w W vx vy p q r s → W.cell? ⟨bkx, ox + k, none⟩ = some (.slice ax lx.length capx) ∧ Seg W (.slice ax lx.length capx) lx) :=
                      fun W vx vy p q r s P => ⟨(P.bel.cell (p := ⟨bkx, ox + k, none⟩) hblx).trans hx, hsx.below P.bel⟩
                    have C0x := (HCx.out _ _ _ _ _ _ _ has).1
                    clear hx hsx
                    obtain ⟨tx, htx⟩ : ∃ t, more 0#32 (nats (fx ++ lx)) = t := ⟨_, rfl⟩
                    obtain ⟨ty, hty⟩ : ∃ t, more 0#32 (nats fy) = t := ⟨_, rfl⟩
                    have K42x : Hid (∀ (W : World) (vx vy : Value), AS w W vx vy fx fx fy fy → Calls Try.prog 42 #[.pointer (some ⟨w.heap.size, 0, none⟩), .slice ax lx.length capx] W
                        fun e W' => e = .returned (.int .i64 (fx.length + lx.length)) ∧ AS w W' vx vy fx (fx ++ lx) fy fy) := fun W vx vy P =>
                      (add_any w.heap.size _ fx.length _ lx W P.gx (HCx.out _ _ _ _ _ _ _ P).2 (by omega) (by omega)).mono fun e W' ⟨h1, h2, h3⟩ => ⟨h1, P.addX h2 h3⟩
                    have K44x : Hid (∀ (W : World) (vx vy : Value), AS w W vx vy (fx ++ lx) (fx ++ lx) fy fy → Calls Try.prog 44 #[.pointer (some ⟨w.heap.size, 0, none⟩)] W
                        fun e W' => e = .returned (.int .u32 (tx.toNat : Int)) ∧ W = W') := fun W vx vy P => by
                      have h := digestSum_any w.heap.size _ _ W P.gx
                      rw [htx] at h
                      exact h
                    have K44y : Hid (∀ (W : World) (vx vy : Value), AS w W vx vy (fx ++ lx) (fx ++ lx) fy fy → Calls Try.prog 44 #[.pointer (some ⟨w.heap.size + 1, 0, none⟩)] W
                        fun e W' => e = .returned (.int .u32 (ty.toNat : Int)) ∧ W = W') := fun W vx vy P => by
                      have h := digestSum_any (w.heap.size + 1) _ _ W P.gy
                      rw [hty] at h
                      exact h
                    have KVx : Hid (∀ (W : World) (vx vy : Value), AS w W vx vy (fx ++ lx) (fx ++ lx) fy fy → Calls Try.prog 28 #[vx] W
                        fun e W' => e = .returned (.int .u32 (tx.toNat : Int)) ∧ Below W.heap.size W W') := fun W vx vy P => sum_lens W vx _ P.ox tx htx (by rw [List.length_append]; omega)
                    have KVy : Hid (∀ (W : World) (vx vy : Value), AS w W vx vy (fx ++ lx) (fx ++ lx) fy fy → Calls Try.prog 28 #[vy] W
                        fun e W' => e = .returned (.int .u32 (ty.toNat : Int)) ∧ Below W.heap.size W W') := fun W vx vy P => sum_lens W vy _ P.oy ty hty (by omega)
                    clear htx hty
                    go_wp2_with (first
                      | ((with_reducible refine (K42x.out _ u10 u11 ?_).mono ?_); exact has; rintro e w1 ⟨rfl, P1⟩; have C1x := (HCx.out _ _ _ _ _ _ _ P1).1)
                      | (refine wpList_append_many_at rfl _ _ 46 5 1 1 rfl slice46 (w.heap.size + 2) u10 fx.length (ucells fx) rfl P1.ox ax lx.length capx (ucells lx) rfl (by rw [ucells_length, Nat.mul_one]) (HCx.out _ _ _ _ _ _ _ P1).2.cells.2.1 (HCx.out _ _ _ _ _ _ _ P1).2.cells.2.2 (ucells_one lx) (by unfold maxLen; omega) (by omega) (by have := P1.gy.lt; omega) ?_; intro vx2 w2 hown2 hb2 hgr2 hloc2; have P2 := P1.appX hown2 hb2 hgr2 hloc2; clear hown2 hgr2 hloc2 hb2)
                      | ((with_reducible refine (K44x.out _ vx2 u11 ?_).mono ?_); exact P2; rintro e w5 ⟨rfl, rfl⟩)
                      | ((with_reducible refine (K44y.out _ vx2 u11 ?_).mono ?_); exact P2; rintro e w6 ⟨rfl, rfl⟩)
                      | ((with_reducible refine (KVx.out _ vx2 u11 ?_).mono ?_); exact P2; rintro e w7 ⟨rfl, hb7⟩; have P7 := P2.below hb7)
                      | ((with_reducible refine (KVy.out _ vx2 u11 ?_).mono ?_); exact P7; rintro e w8 ⟨rfl, hb8⟩; have P8 := P7.below hb8))
                    go_roundw
                    case rel => exact ⟨k + 1, by omega, by go_num, by rw [Hfx.out, Hfy.out]; exact P8⟩
                    case measure => simp [intOf]; omega

                · by_cases hlty : k < m.length
                  · have Hfx := Lib.hid (flat_over l k hltx)
                    have hlkx : (flat l k).length ≤ 100000 := by
                      have h1 := flat_le l k
                      have h2 := Hsmall.out
                      omega
                    obtain ⟨bky, oy, cy, ey, hbly, hxy⟩ := hu.full (by omega)
                    simp only [Value.slice.injEq] at ey
                    obtain ⟨rfl, _, rfl⟩ := ey
                    obtain ⟨uy, hy, hsy⟩ := hxy k hlty
                    obtain ⟨ay, capy, rfl⟩ := hsy.shape
                    have Hfy := Lib.hid (flat_succ m k hlty)
                    have hsmy : (flat m (k + 1)).length ≤ 100000 := by
                      have h1 := flat_le m (k + 1)
                      have h2 := Hsmall.out
                      omega
                    have hlky : (flat m k).length + m[k].length ≤ 100000 := by rw [Hfy.out, List.length_append] at hsmy; exact hsmy
                    clear hxy hsmy
                    generalize m[k] = ly at *
                    generalize flat l k = fx at *
                    generalize flat m k = fy at *
                    have HCy : Hid (∀ (W : World) (vx vy : Value) (p q r s : List UInt8), AS w W vx vy p q r s → W.cell? ⟨bky, oy + k, none⟩ = some (.slice ay ly.length capy) ∧ Seg W (.slice ay ly.length capy) ly) :=
                      fun W vx vy p q r s P => ⟨(P.bel.cell (p := ⟨bky, oy + k, none⟩) hbly).trans hy, hsy.below P.bel⟩
                    have C0y := (HCy.out _ _ _ _ _ _ _ has).1
                    clear hy hsy
                    obtain ⟨tx, htx⟩ : ∃ t, more 0#32 (nats fx) = t := ⟨_, rfl⟩
                    obtain ⟨ty, hty⟩ : ∃ t, more 0#32 (nats (fy ++ ly)) = t := ⟨_, rfl⟩
                    have K42y : Hid (∀ (W : World) (vx vy : Value), AS w W vx vy fx fx fy fy → Calls Try.prog 42 #[.pointer (some ⟨w.heap.size + 1, 0, none⟩), .slice ay ly.length capy] W
                        fun e W' => e = .returned (.int .i64 (fy.length + ly.length)) ∧ AS w W' vx vy fx fx fy (fy ++ ly)) := fun W vx vy P =>
                      (add_any (w.heap.size + 1) _ fy.length _ ly W P.gy (HCy.out _ _ _ _ _ _ _ P).2 (by omega) (by omega)).mono fun e W' ⟨h1, h2, h3⟩ => ⟨h1, P.addY h2 h3⟩
                    have K44x : Hid (∀ (W : World) (vx vy : Value), AS w W vx vy fx fx (fy ++ ly) (fy ++ ly) → Calls Try.prog 44 #[.pointer (some ⟨w.heap.size, 0, none⟩)] W
                        fun e W' => e = .returned (.int .u32 (tx.toNat : Int)) ∧ W = W') := fun W vx vy P => by
                      have h := digestSum_any w.heap.size _ _ W P.gx
                      rw [htx] at h
                      exact h
                    have K44y : Hid (∀ (W : World) (vx vy : Value), AS w W vx vy fx fx (fy ++ ly) (fy ++ ly) → Calls Try.prog 44 #[.pointer (some ⟨w.heap.size + 1, 0, none⟩)] W
                        fun e W' => e = .returned (.int .u32 (ty.toNat : Int)) ∧ W = W') := fun W vx vy P => by
                      have h := digestSum_any (w.heap.size + 1) _ _ W P.gy
                      rw [hty] at h
                      exact h
                    have KVx : Hid (∀ (W : World) (vx vy : Value), AS w W vx vy fx fx (fy ++ ly) (fy ++ ly) → Calls Try.prog 28 #[vx] W
                        fun e W' => e = .returned (.int .u32 (tx.toNat : Int)) ∧ Below W.heap.size W W') := fun W vx vy P => sum_lens W vx _ P.ox tx htx (by omega)
                    have KVy : Hid (∀ (W : World) (vx vy : Value), AS w W vx vy fx fx (fy ++ ly) (fy ++ ly) → Calls Try.prog 28 #[vy] W
                        fun e W' => e = .returned (.int .u32 (ty.toNat : Int)) ∧ Below W.heap.size W W') := fun W vx vy P => sum_lens W vy _ P.oy ty hty (by rw [List.length_append]; omega)
                    clear htx hty
                    go_wp2_with (first
                      | ((with_reducible refine (K42y.out _ u10 u11 ?_).mono ?_); exact has; rintro e w3 ⟨rfl, P3⟩; have C3y := (HCy.out _ _ _ _ _ _ _ P3).1)
                      | (refine wpList_append_many_at rfl _ _ 46 5 1 1 rfl slice46 (w.heap.size + 2) u11 fy.length (ucells fy) rfl P3.oy ay ly.length capy (ucells ly) rfl (by rw [ucells_length, Nat.mul_one]) (HCy.out _ _ _ _ _ _ _ P3).2.cells.2.1 (HCy.out _ _ _ _ _ _ _ P3).2.cells.2.2 (ucells_one ly) (by unfold maxLen; omega) (by omega) (by have := P3.gy.lt; omega) ?_; intro vy2 w4 hown4 hb4 hgr4 hloc4; have P4 := P3.appY hown4 hb4 hgr4 hloc4; clear hown4 hgr4 hloc4 hb4)
                      | ((with_reducible refine (K44x.out _ u10 vy2 ?_).mono ?_); exact P4; rintro e w5 ⟨rfl, rfl⟩)
                      | ((with_reducible refine (K44y.out _ u10 vy2 ?_).mono ?_); exact P4; rintro e w6 ⟨rfl, rfl⟩)
                      | ((with_reducible refine (KVx.out _ u10 vy2 ?_).mono ?_); exact P4; rintro e w7 ⟨rfl, hb7⟩; have P7 := P4.below hb7)
                      | ((with_reducible refine (KVy.out _ u10 vy2 ?_).mono ?_); exact P7; rintro e w8 ⟨rfl, hb8⟩; have P8 := P7.below hb8))
                    go_roundw
                    case rel => exact ⟨k + 1, by omega, by go_num, by rw [Hfx.out, Hfy.out]; exact P8⟩
                    case measure => simp [intOf]; omega

                  · have hb := has.bel
                    clear has
                    go_wp2
                    go_ret
                    exact ⟨rfl, hb⟩

set_option maxRecDepth 100000 in
theorem crcAlone_walk {H : Type} (w : World) (enc : TypeId × Value → H) (base : Nat) (v : Value) (d : DataW H) (ps : List MemPlace) (hok : Value.okWide Try.prog w .any base 66 v)
    (h : DataW.Trod enc Try.prog w 0 (fun _ => true) true 66 v d ps) (hw : ∀ n ∈ d.weights Try.prog 66, n ≤ reachBytes)
    (enc2 : TypeId × Value → H) (base2 : Nat) (v2 : Value) (d2 : DataW H) (ps2 : List MemPlace) (hok2 : Value.okWide Try.prog w .any base2 66 v2)
    (h2 : DataW.Trod enc2 Try.prog w 0 (fun _ => true) true 66 v2 d2 ps2) (hw2 : ∀ n ∈ d2.weights Try.prog 66, n ≤ reachBytes) :
    Calls Try.prog 14 #[v, v2] w fun e w' => e = .returned (.bool true) ∧ Below w.heap.size w w' := by
  obtain ⟨l, h1, h2', h3⟩ := segs_of_trod Try.underlying66 Try.underlying46 Try.underlying5 (by kernel_rfl) (by kernel_rfl) (by kernel_rfl) (of_decide_eq_true (by kernel_rfl)) hok h hw
  obtain ⟨m, h4, h5, h6⟩ := segs_of_trod Try.underlying66 Try.underlying46 Try.underlying5 (by kernel_rfl) (by kernel_rfl) (by kernel_rfl) (of_decide_eq_true (by kernel_rfl)) hok2 h2 hw2
  obtain ⟨a, cap, rfl⟩ := h1.shape
  obtain ⟨b, cap2, rfl⟩ := h4.shape
  exact crcAlone_main w a cap l h1 h2' h3 b cap2 m h4 h5 h6

end Go.Proofs.Ytjmnbpghfnageaa
