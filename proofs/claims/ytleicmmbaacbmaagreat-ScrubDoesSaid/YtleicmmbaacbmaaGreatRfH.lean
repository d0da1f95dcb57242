/- The document's bay: Cut that keeps nothing, New. -/
import Derived.Test.YtleicmmbaacbmaaGreatRfG
import Derived.Test.YtleicmmbaacbmaaGreatBayI
import Derived.Deep.RegionHeld3
set_option linter.unusedVariables false
namespace Go
/-- An append within a drawn region. -/
theorem wp_append_row {P : Program} {w : World} {o : Oper} {a : Act} {K : Act → World → Prop} {Q : Exit → Act → World → Prop} (s x : Operand) (t e : TypeId) (sz bytes : Nat)
    (ho : o.op = .call { callee := .builtin .append, args := #[s, x], argTypes := #[t, t] }) (hT : SliceOf P t e sz bytes)
    (B : Nat) (v : Value) (n : Nat) (xs : List Value) (hs : a.eval s = v) (hown : w.ownsRow B e sz v n xs)
    (ad : Addr) (m c : Nat) (news : List Value) (hx : a.eval x = .slice (some ad) m c) (hl : news.length = m * sz) (hnews : ∀ j u, news[j]? = some u → w.cell? (ad.add j) = some u) (h1 : ∀ u ∈ news, u.oneCell' = true)
    (h63 : n + m ≤ maxLen) (hbytes : (n + m) * bytes ≤ 140737488355328) (hbase : B ≤ w.heap.size) (hm : 0 < m)
    (h : ∀ v' w', w'.ownsRow B e sz v' (n + m) (xs ++ news) → (v'.ownBlock = v.ownBlock ∨ v'.ownBlock = some w.heap.size) → Chg (fun k => v.ownBlock = some k) w w' → K (a.put o.dst v') w') :
    o.wp P a w K Q := by
  obtain ⟨v', w', hr, h2, h3, h4, h5⟩ := run_append_keeps (P := P) w B t o.type e sz bytes hT v n xs hown ad m c news hl hnews h1 h63 hbytes hbase hm
  unfold Oper.wp execOp
  simp only [ho, resolve, invoke, builtin, Sem.run_bind, Sem.run_pure, Result.andThen_ok, List.map_toArray, List.map_cons, List.map_nil, hs, hx, hr]
  exact h v' w' h2 h3 h4
end Go
namespace Go.Proofs.YtleicmmbaacbmaaGreat
open Go.RowKit

/-- No disk is to come. -/
def BaySt.still (s : BaySt) : Prop := ∀ k, k < s.n → s.pos (k * 3 + 2) = none

theorem cutTo_step {s : BaySt} (hs : s.still) {k : Nat} (hk : k < s.n) : s.cutTo [] (k + 1) = match s.pos (k * 3) with | none => s.cutTo [] k | some x => (s.cutTo [] k).laid (k * 3) (x.crash []) := by
  show ((s.cutTo [] k).crashAt k (([] : List (List Bool)).getD k [])).come k = _
  have e0 : ([] : List (List Bool)).getD k [] = [] := by simp
  rw [e0]
  have hp : (s.cutTo [] k).pos (k * 3) = s.pos (k * 3) := cutTo_pos s [] k (k * 3) (by omega)
  have hp2 : (s.cutTo [] k).pos (k * 3 + 2) = none := by rw [cutTo_pos s [] k (k * 3 + 2) (by omega)]; exact hs k hk
  cases hx : s.pos (k * 3) with
  | none =>
    rw [hx] at hp
    rw [crashAt_none hp, come_none hp2]
  | some x =>
    rw [hx] at hp
    rw [crashAt_some hp]
    refine come_none ?_
    show (if k * 3 + 2 = k * 3 then _ else (s.cutTo [] k).pos (k * 3 + 2)) = none
    rw [if_neg (by omega)]
    exact hp2

set_option maxRecDepth 100000 in
set_option maxHeartbeats 4000000 in
theorem rbay_cut {w : World} {R : Nat → Prop} {c : Nat} {s : BaySt} (h : RBayAt w R c s) (hs : s.still) :
    Calls Tryz.prog 12 #[.pointer (some ⟨c, 0, none⟩), .slice none 0 0] w fun e w' => e = .returned (.tuple #[]) ∧ RBPost w R c (s.cut []) w' := by
  obtain ⟨gs, cap, ptr, D, h⟩ := h
  have hfew := h.few
  have HB := Lib.hid h
  have HS := Lib.hid hs
  clear h hs
  go_enter Tryz.func12, Tryz.ntmps12
  go_wp2
  go_loopw [4, 5] (fun q _ wx => ∃ (k : Nat) (R' : Nat → Prop) (D' : Nat → Nat → Prop), k ≤ s.n ∧ q = .int .i64 k ∧ RBayIn wx R' c (s.cutTo [] k) gs cap ptr D' ∧ (∀ q, R' q → R q ∨ w.heap.size ≤ q) ∧ Chg R w wx) (fun q _ _ => s.n - (intOf q).toNat)
  case atStart => exact ⟨0, R, D, by omega, rfl, HB.out, fun q hq => .inl hq, Chg.refl _ _⟩
  case round =>
    obtain ⟨k, R', D', hk, rfl, hin, hR, hch⟩ := hrel
    have HIN := Lib.hid hin
    have HR := Lib.hid hR
    have HCH := Lib.hid hch
    have hn : (s.cutTo [] k).n = s.n := cutTo_n s [] k
    have c0 : wr.cell? ⟨c, 0, none⟩ = some (.slice (some ⟨gs, 0, none⟩) s.n cap) := by rw [← hn]; exact hin.bay.cell 0
    by_cases hk2 : k < s.n
    · have K1 : Hid (k + 1 ≤ s.n) := hk2
      have p0 : wr.cell? ⟨gs, k * 6, none⟩ = some (pcell (ptr (k * 3))) := hin.cellP (by rw [hn]; exact hk2) 0 (by omega)
      have p2 : wr.cell? ⟨gs, k * 6 + 2, none⟩ = some (pcell (ptr (k * 3 + 2))) := hin.cellP (by rw [hn]; exact hk2) 2 (by omega)
      have hpn := hin.none' (k * 3 + 2) (by rw [hn]; omega) (by rw [cutTo_pos s [] k (k * 3 + 2) (by omega)]; exact HS.out k hk2)
      rw [hpn] at p2
      have hstep := cutTo_step HS.out hk2
      have hpos : (s.cutTo [] k).pos (k * 3) = s.pos (k * 3) := cutTo_pos s [] k (k * 3) (by omega)
      cases hx : s.pos (k * 3) with
      | none =>
        rw [hx] at hstep hpos
        have hp0 := hin.none' (k * 3) (by rw [hn]; omega) hpos
        rw [hp0] at p0
        unfold pcell at p0 p2
        rw [Option.map_none] at p0 p2
        have HST := Lib.hid hstep
        clear hin hR hch hn hpn hstep hpos hx hp0
        go_wp2
        go_roundw
        case rel => exact ⟨k + 1, R', D', K1.out, by go_num, by rw [HST.out]; exact HIN.out, HR.out, HCH.out⟩
        case measure => simp [intOf]; have := K1.out; omega
      | some x =>
        rw [hx] at hstep hpos
        obtain ⟨p, hp, hd⟩ := hin.some' (k * 3) (by rw [hn]; omega) x hpos
        obtain ⟨wl, wh⟩ := hin.wear (k * 3) (by rw [hn]; omega) x hpos
        rw [hp] at p0
        unfold pcell at p0 p2
        rw [Option.map_some] at p0
        rw [Option.map_none] at p2
        have HC : Hid (Calls Tryz.prog 40 #[.pointer (some ⟨p, 0, none⟩), .slice none 0 0] wr fun e w' => e = .returned (.tuple #[]) ∧ RBTurned wr R' c (s.cutTo [] (k + 1)) gs cap ptr w') :=
          (rdisk_crash hd).mono fun e w' ⟨q1, q2⟩ => ⟨q1, by rw [hstep]; exact hin.turn (y := x.crash []) (by rw [hn]; omega) hpos hp (by unfold wearOf Dev.crash; rfl) wl wh q2⟩
        have HGL : Hid (gs < wr.heap.size) := hin.lt gs hin.inS
        clear hin hR hch hn hpn hstep hpos hx hp hd wl wh
        go_wp2_with (first
          | (go_at_call 40; (with_reducible refine HC.out.mono ?_); rintro e w2 ⟨rfl, R2, D2, hin2, hR2, hch2⟩; have p2' : w2.cell? ⟨gs, k * 6 + 2, none⟩ = some (.pointer none) := by { have h1 := hin2.cellP (k := k) (by rw [cutTo_n]; exact hk2) 2 (by omega); rw [hin2.none' (k * 3 + 2) (by rw [cutTo_n]; omega) (by { rw [cutTo_step HS.out hk2]; have h3 := HS.out k hk2; have h4 := cutTo_pos s [] k (k * 3 + 2) (by omega); cases s.pos (k * 3) with | none => (show (s.cutTo [] k).pos (k * 3 + 2) = none; rw [h4, h3]) | some y => (show (if k * 3 + 2 = k * 3 then _ else (s.cutTo [] k).pos (k * 3 + 2)) = none; rw [if_neg (by omega), h4, h3]) })] at h1; exact h1 }; have HIN2 := Lib.hid hin2; have HR2 := Lib.hid hR2; have HCH2 := Lib.hid hch2; clear hin2 hR2 hch2 c0 p0 p2))
        go_roundw
        case rel =>
          refine ⟨k + 1, R2, D2, K1.out, by go_num, HIN2.out, fun q hq => ?_, chg_and HCH.out HCH2.out (fun q hq hs => (HR.out q hs).resolve_right (by omega))⟩
          rcases HR2.out q hq with h | h
          · exact HR.out q h
          · exact .inr (Nat.le_trans HCH.out.size h)
        case measure => simp [intOf]; have := K1.out; omega
    · obtain rfl : k = s.n := by omega
      have f1 := hin.bay.free 1
      have f2 := hin.bay.free 2
      have c1 : wr.cell? ⟨c, 1, none⟩ = some (.bool (s.cutTo [] s.n).dark) := hin.bay.cell 1
      have c2 : wr.cell? ⟨c, 2, none⟩ = some (.int .i64 (s.cutTo [] s.n).trip) := hin.bay.cell 2
      clear hin hR hch hn
      go_wp2
      go_end0
      obtain ⟨q1, q2⟩ := HIN.out.darkTo false
      refine ⟨rfl, R', ⟨gs, cap, ptr, D', ?_⟩, HR.out, chg_and HCH.out q2 (fun q hq hs => ?_)⟩
      · exact q1
      · subst hs
        exact HB.out.inB

/-- The beginning of New: so many slots are laid. -/
structure NewAt (w wx : World) (c : Nat) (l : List Nat) (k : Nat) (v : Value) (ptr : Nat → Option Nat) (D : Nat → Nat → Prop) : Prop where
  bay : At wx c #[v, .bool false, .int .i64 (-1), .int .i64 0, .int .i64 0, .int .i64 0] 61
  row : wx.ownsRow w.heap.size 91 6 v k (rslots ptr (fun _ => -1) k)
  disk : ∀ i, i < k → ∃ p, ptr (i * 3) = some p ∧ RDisk wx (D i) p (freshDsk (l.getD i 0))
  none' : ∀ i, i % 3 ≠ 0 → ptr i = none
  apart : ∀ i j, i < k → j < k → i ≠ j → ∀ q, D i q → ¬ D j q
  lo : ∀ i, i < k → ∀ q, D i q → w.heap.size ≤ q ∧ q ≠ c
  out : ∀ i, i < k → ∀ q, D i q → v.ownBlock ≠ some q
  cl : w.heap.size ≤ c
  cv : v.ownBlock ≠ some c
  below : Below w.heap.size w wx

/-- One slot more. -/
theorem NewAt.next {w wr w1 w2 w3 w4 w5 : World} {c : Nat} {l : List Nat} {k : Nat} {v v' : Value} {ptr : Nat → Option Nat} {D : Nat → Nat → Prop} (h : NewAt w wr c l k v ptr D) {sb p : Nat} {Dn : Nat → Prop}
    (hsb : wr.heap.size ≤ sb) (h1 : Chg (fun q => q = sb) wr w1) (hs1 : sb < w1.heap.size) (hd : RDisk w2 Dn p (freshDsk (l.getD k 0))) (hn : ∀ q, Dn q → w1.heap.size ≤ q) (h2 : Below w1.heap.size w1 w2)
    (h3 : Chg (fun q => q = sb) w2 w3) (h4 : Chg (fun _ => False) w3 w4) (h5 : Chg (fun q => v.ownBlock = some q) w4 w5)
    (hrow : w5.ownsRow w.heap.size 91 6 v' (k + 1) (rslots ptr (fun _ => -1) k ++ [.pointer (some ⟨p, 0, none⟩), .pointer none, .pointer none, .int .i64 (-1), .int .i64 (-1), .int .i64 (-1)]))
    (hv' : v'.ownBlock = v.ownBlock ∨ v'.ownBlock = some w4.heap.size) :
    NewAt w (w5.setCell ⟨c, 0, none⟩ v') c l (k + 1) v' (fun i => if i = k * 3 then some p else ptr i) (fun i => if i = k then Dn else D i) := by
  have hclt := h.bay.lt
  have s1 := h1.size
  have s2 := h2.size
  have s3 := h3.size
  have s4 := h4.size
  have s5 := h5.size
  have hw := h.below.size
  have hvlt : ∀ q, v.ownBlock = some q → w.heap.size ≤ q ∧ q < wr.heap.size := fun q hq => h.row.lt q hq
  have hcn : v'.ownBlock ≠ some c := fun e => by
    rcases hv' with e' | e'
    · exact h.cv (e' ▸ e)
    · rw [e'] at e
      have := Option.some.inj e
      omega
  have hset : Chg (fun q => q = c) w5 (w5.setCell ⟨c, 0, none⟩ v') := Chg.setCell (S := fun q => q = c) (Chg.refl _ _) ⟨c, 0, none⟩ (.inl rfl) _
  have hb5 : At w5 c #[v, .bool false, .int .i64 (-1), .int .i64 0, .int .i64 0, .int .i64 0] 61 :=
    ((((h.bay.mod h1 (by omega)).below h2 (by omega)).mod h3 (by omega)).mod h4 (fun e => e)).mod h5 h.cv
  have hlt : ∀ i, i < k → ∀ q, D i q → q < wr.heap.size := fun i hi q hq => by
    obtain ⟨_, _, hd⟩ := h.disk i hi
    exact hd.lt q hq
  have hdlt := hd.lt
  refine ⟨hb5.set 0 v', ?_, ?_, ?_, ?_, ?_, ?_, h.cl, hcn, ?_⟩
  · rw [rslots_snoc]
    have e : rslots (fun i => if i = k * 3 then some p else ptr i) (fun _ => -1) k = rslots ptr (fun _ => -1) k := rslots_congr (fun i hi => by rw [if_neg (by omega)]) (fun i hi => rfl)
    rw [e]
    have e0 : (if k * 3 = k * 3 then some p else ptr (k * 3)) = some p := if_pos rfl
    have e1 : (if k * 3 + 1 = k * 3 then some p else ptr (k * 3 + 1)) = none := by
      rw [if_neg (by omega)]; exact h.none' _ (by omega)
    have e2 : (if k * 3 + 2 = k * 3 then some p else ptr (k * 3 + 2)) = none := by
      rw [if_neg (by omega)]; exact h.none' _ (by omega)
    show World.ownsRow _ _ _ _ _ _ (_ ++ [pcell (if k * 3 = k * 3 then some p else ptr (k * 3)), pcell (if k * 3 + 1 = k * 3 then some p else ptr (k * 3 + 1)), pcell (if k * 3 + 2 = k * 3 then some p else ptr (k * 3 + 2)), _, _, _])
    rw [e0, e1, e2]
    exact ownsRow_chg hrow hset (fun q hq e => hcn (e ▸ hq))
  · intro i hi
    by_cases e : i = k
    · subst e
      refine ⟨p, if_pos rfl, ?_⟩
      rw [if_pos rfl]
      refine (((hd.keep h3 (fun q hq e => ?_)).keep h4 (fun q hq e => e)).keep h5 (fun q hq e => ?_)).keep hset (fun q hq e => ?_)
      · have := hn q hq; omega
      · have := (hvlt q e).2; have := hn q hq; omega
      · have := hn q hq; omega
    · obtain ⟨p', k1, k2⟩ := h.disk i (by omega)
      refine ⟨p', ?_, ?_⟩
      · show (if i * 3 = k * 3 then some p else ptr (i * 3)) = some p'
        rw [if_neg (by omega)]; exact k1
      · rw [if_neg e]
        have l0 := hlt i (by omega)
        have hk1 : RDisk w1 (D i) p' (freshDsk (l.getD i 0)) := k2.keep h1 (fun q hq e => by have := l0 q hq; omega)
        exact ((((hk1.below h2).keep h3 (fun q hq e => by have := l0 q hq; omega)).keep h4 (fun q hq e => e)).keep h5 (fun q hq e => h.out i (by omega) q hq e)).keep hset (fun q hq e => (h.lo i (by omega) q hq).2 e)
  · intro i hi
    show (if i = k * 3 then some p else ptr i) = none
    rw [if_neg (by omega)]
    exact h.none' i hi
  · intro i j hi hj hij q hqi hqj
    by_cases ei : i = k
    · have ej : j ≠ k := by omega
      rw [if_pos ei] at hqi
      rw [if_neg ej] at hqj
      have := hn q hqi
      have := hlt j (by omega) q hqj
      omega
    · rw [if_neg ei] at hqi
      by_cases ej : j = k
      · rw [if_pos ej] at hqj
        have := hn q hqj
        have := hlt i (by omega) q hqi
        omega
      · rw [if_neg ej] at hqj
        exact h.apart i j (by omega) (by omega) hij q hqi hqj
  · intro i hi q hq
    by_cases e : i = k
    · rw [if_pos e] at hq
      have := hn q hq
      exact ⟨by omega, by omega⟩
    · rw [if_neg e] at hq
      exact h.lo i (by omega) q hq
  · intro i hi q hq e'
    by_cases e : i = k
    · rw [if_pos e] at hq
      have h7 := hn q hq
      have h8 := hdlt q hq
      rcases hv' with e2 | e2
      · rw [e2] at e'; have := (hvlt q e').2; omega
      · rw [e2] at e'; have := Option.some.inj e'; omega
    · rw [if_neg e] at hq
      rcases hv' with e2 | e2
      · rw [e2] at e'; exact h.out i (by omega) q hq e'
      · rw [e2] at e'; have := Option.some.inj e'; have := hlt i (by omega) q hq; omega
  · have hb1 : Below w.heap.size w w1 := Chg.own h.below h1 (fun q hq => by omega)
    have hb2 : Below w.heap.size w w2 := hb1.trans (h2.mono hb1.size)
    have hb3 : Below w.heap.size w w3 := Chg.own hb2 h3 (fun q hq => by omega)
    have hb4 : Below w.heap.size w w4 := Chg.own hb3 h4 (fun q hq => hq.elim)
    have hb5 : Below w.heap.size w w5 := Chg.own hb4 h5 (fun q hq => (hvlt q hq).1)
    exact hb5.setCell (p := ⟨c, 0, none⟩) h.cl _

theorem NewAt.done {w wx : World} {c : Nat} {l : List Nat} {v : Value} {ptr : Nat → Option Nat} {D : Nat → Nat → Prop} (h : NewAt w wx c l l.length v ptr D) (h1 : 1 ≤ l.length) (h2 : l.length ≤ 17) (hl : ∀ x ∈ l, 0 < x ∧ x ≤ 8192) :
    RBayAt wx (fun q => w.heap.size ≤ q ∧ q < wx.heap.size) c (freshBay l l.length) := by
  obtain ⟨gs, cap, hv, hgs, hgl⟩ := ownsRow_full h.row (by omega)
  subst hv
  have hn : (freshBay l l.length).n = l.length := rfl
  have hpos : ∀ i, i < 3 * l.length → (freshBay l l.length).pos i = if i % 3 = 0 then some ⟨freshDsk (l.getD (i / 3) 0), false, 0⟩ else none := fun i hi => by
    have hlt : i / 3 < l.length := by omega
    have hg : 0 < l.getD (i / 3) 0 := by
      rw [List.getD_eq_getElem?_getD, List.getElem?_eq_getElem hlt]
      exact (hl _ (List.getElem_mem hlt)).1
    show (if i % 3 = 0 ∧ i / 3 < l.length ∧ 0 < l.getD (i / 3) 0 then _ else _) = _
    by_cases e : i % 3 = 0
    · rw [if_pos ⟨e, hlt, hg⟩, if_pos e]
    · rw [if_neg (fun h => e h.1), if_neg e]
  have hslot : ∀ i, i < 3 * l.length → (freshBay l l.length).pos i ≠ none → i % 3 = 0 ∧ i / 3 < l.length := fun i hi hne => by
    rw [hpos i hi] at hne
    by_cases e : i % 3 = 0
    · exact ⟨e, by omega⟩
    · rw [if_neg e] at hne; exact absurd rfl hne
  refine ⟨gs, cap, ptr, fun i => D (i / 3), ?_, ?_, ?_, ?_, ?_, ?_, ⟨h.cl, h.bay.lt⟩, ⟨hgs, hgl⟩, ?_, ?_, ?_, ?_, fun q hq => hq.2, h2, fun j => Int.le_refl 0, Int.le_refl _, by show (-1 : Int) ≤ _; omega, fun e => by cases e⟩
  · exact h.bay
  · have e : rslots ptr (fun i => wearOf ((freshBay l l.length).pos i)) l.length = rslots ptr (fun _ => -1) l.length := rslots_congr (fun i hi => rfl) (fun i hi => by
      rw [hpos i (by omega)]
      split <;> rfl)
    show wx.ownsRow 0 _ 6 _ l.length (rslots ptr (fun i => wearOf ((freshBay l l.length).pos i)) l.length)
    rw [e]
    exact ownsRow_lower0 h.row
  · intro i hi x hx
    have hi' : i < 3 * l.length := hi
    obtain ⟨e1, e2⟩ := hslot i hi' (by rw [hx]; simp)
    rw [hpos i hi', if_pos e1] at hx
    obtain rfl := Option.some.inj hx
    obtain ⟨p, k1, k2⟩ := h.disk (i / 3) e2
    exact ⟨p, by rw [show i = i / 3 * 3 by omega]; exact k1, k2⟩
  · intro i hi x hx
    have hi' : i < 3 * l.length := hi
    obtain ⟨e1, e2⟩ := hslot i hi' (by rw [hx]; simp)
    rw [hpos i hi', if_pos e1] at hx
    obtain rfl := Option.some.inj hx
    exact ⟨Int.le_refl _, by show (0 : Int) ≤ _; omega⟩
  · intro i hi hx
    have hi' : i < 3 * l.length := hi
    rw [hpos i hi'] at hx
    by_cases e : i % 3 = 0
    · rw [if_pos e] at hx; cases hx
    · exact h.none' i e
  · intro i j hi hj hij hni hnj q hqi hqj
    obtain ⟨e1, e2⟩ := hslot i hi hni
    obtain ⟨e3, e4⟩ := hslot j hj hnj
    exact h.apart (i / 3) (j / 3) e2 e4 (by omega) q hqi hqj
  · intro i hi hni q hq
    obtain ⟨e1, e2⟩ := hslot i hi hni
    obtain ⟨_, _, k2⟩ := h.disk (i / 3) e2
    exact ⟨(h.lo (i / 3) e2 q hq).1, k2.lt q hq⟩
  · intro i hi hni hq
    obtain ⟨e1, e2⟩ := hslot i hi hni
    exact (h.lo (i / 3) e2 c hq).2 rfl
  · intro i hi hni hq
    obtain ⟨e1, e2⟩ := hslot i hi hni
    exact h.out (i / 3) e2 gs hq rfl
  · intro e
    exact h.cv (by rw [e]; rfl)

theorem slice_rslots : SliceOf Tryz.prog 59 91 6 48 :=
  SliceOf.mk' (z := .agg #[.pointer none, .pointer none, .pointer none, .int .i64 0, .int .i64 0, .int .i64 0]) Tryz.underlying59 (by decide) (by kernel_rfl) (by kernel_rfl)

theorem new_six (w : World) (a b c d e f : Value) (t : TypeId) : ∀ ad : Addr, some (⟨w.heap.size, 0, none⟩ : Addr) = some ad → ∀ j u, [a, b, c, d, e, f][j]? = some u → (w.alloc (.cells #[a, b, c, d, e, f] t)).cell? (ad.add j) = some u := by
  intro ad had j u hu
  obtain rfl := Option.some.inj had
  rw [Addr.add_lit, Nat.zero_add]
  have h := (At.new w #[a, b, c, d, e, f] t).cell j
  rw [h]
  simpa using hu

end Go.Proofs.YtleicmmbaacbmaaGreat
