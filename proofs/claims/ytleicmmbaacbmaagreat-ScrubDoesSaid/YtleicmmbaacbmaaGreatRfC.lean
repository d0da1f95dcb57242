/- The document's bay: how it lies in memory. -/
import Derived.Test.YtleicmmbaacbmaaGreatMrg3
import Derived.Test.YtleicmmbaacbmaaGreatBayH
set_option linter.unusedVariables false
namespace Go.Proofs.YtleicmmbaacbmaaGreat
open Go.RowKit

/-- How the document writes down wear. -/
def wearOf (p : Option Dev) : Int := match p with | none => -1 | some x => if x.worn = true then x.left else -1

/-- The cells of the document's slots. -/
def rcell (ptr : Nat → Option Nat) (we : Nat → Int) (i : Nat) : Value := if i % 6 < 3 then pcell (ptr (i / 6 * 3 + i % 6)) else .int .i64 (we (i / 6 * 3 + i % 6 - 3))
def rslots (ptr : Nat → Option Nat) (we : Nat → Int) (n : Nat) : List Value := (List.range (n * 6)).map (rcell ptr we)
theorem rslots_length (ptr : Nat → Option Nat) (we : Nat → Int) (n : Nat) : (rslots ptr we n).length = n * 6 := by simp [rslots]
theorem rslots_at (ptr : Nat → Option Nat) (we : Nat → Int) (n i : Nat) (h : i < n * 6) : (rslots ptr we n)[i]? = some (rcell ptr we i) := by simp [rslots, h]
theorem rcell_ptr (ptr : Nat → Option Nat) (we : Nat → Int) (k j : Nat) (hj : j < 3) : rcell ptr we (k * 6 + j) = pcell (ptr (k * 3 + j)) := by
  unfold rcell
  rw [show (k * 6 + j) % 6 = j by omega, show (k * 6 + j) / 6 = k by omega, if_pos hj]
theorem rcell_wear (ptr : Nat → Option Nat) (we : Nat → Int) (k j : Nat) (hj : j < 3) : rcell ptr we (k * 6 + 3 + j) = .int .i64 (we (k * 3 + j)) := by
  unfold rcell
  rw [show (k * 6 + 3 + j) % 6 = 3 + j by omega, show (k * 6 + 3 + j) / 6 = k by omega, if_neg (by omega), show k * 3 + (3 + j) - 3 = k * 3 + j by omega]

/-- Another pointer, another wear. -/
theorem rslots_setPtr (ptr : Nat → Option Nat) (we : Nat → Int) (n k j : Nat) (hj : j < 3) (p : Option Nat) :
    (rslots ptr we n).set (k * 6 + j) (pcell p) = rslots (fun q => if q = k * 3 + j then p else ptr q) we n := by
  apply List.ext_getElem?
  intro i
  by_cases hi : i < n * 6
  · rw [rslots_at _ _ _ _ hi, List.getElem?_set, rslots_length, rslots_at _ _ _ _ hi]
    by_cases he : k * 6 + j = i
    · subst he
      rw [if_pos rfl, if_pos hi, rcell_ptr _ _ _ _ hj, if_pos rfl]
    · rw [if_neg he]
      unfold rcell
      by_cases h3 : i % 6 < 3
      · rw [if_pos h3, if_pos h3]
        show _ = some (pcell (if i / 6 * 3 + i % 6 = k * 3 + j then p else ptr (i / 6 * 3 + i % 6)))
        rw [if_neg (by omega)]
      · rw [if_neg h3, if_neg h3]
  · rw [List.getElem?_eq_none (by simp [rslots_length]; omega), List.getElem?_eq_none (by simp [rslots_length]; omega)]
theorem rslots_setWear (ptr : Nat → Option Nat) (we : Nat → Int) (n k j : Nat) (hj : j < 3) (z : Int) :
    (rslots ptr we n).set (k * 6 + 3 + j) (.int .i64 z) = rslots ptr (fun q => if q = k * 3 + j then z else we q) n := by
  apply List.ext_getElem?
  intro i
  by_cases hi : i < n * 6
  · rw [rslots_at _ _ _ _ hi, List.getElem?_set, rslots_length, rslots_at _ _ _ _ hi]
    by_cases he : k * 6 + 3 + j = i
    · subst he
      rw [if_pos rfl, if_pos hi, rcell_wear _ _ _ _ hj, if_pos rfl]
    · rw [if_neg he]
      unfold rcell
      by_cases h3 : i % 6 < 3
      · rw [if_pos h3, if_pos h3]
      · rw [if_neg h3, if_neg h3]
        show _ = some (Value.int .i64 (if i / 6 * 3 + i % 6 - 3 = k * 3 + j then z else we (i / 6 * 3 + i % 6 - 3)))
        rw [if_neg (by omega)]
  · rw [List.getElem?_eq_none (by simp [rslots_length]; omega), List.getElem?_eq_none (by simp [rslots_length]; omega)]
/-- What lies beyond does not matter. -/
theorem rslots_congr {ptr ptr' : Nat → Option Nat} {we we' : Nat → Int} {n : Nat} (h1 : ∀ i, i < n * 3 → ptr i = ptr' i) (h2 : ∀ i, i < n * 3 → we i = we' i) : rslots ptr we n = rslots ptr' we' n := by
  apply List.ext_getElem?
  intro i
  by_cases hi : i < n * 6
  · rw [rslots_at _ _ _ _ hi, rslots_at _ _ _ _ hi]
    unfold rcell
    by_cases h3 : i % 6 < 3
    · rw [if_pos h3, if_pos h3, h1 _ (by omega)]
    · rw [if_neg h3, if_neg h3, h2 _ (by omega)]
  · rw [List.getElem?_eq_none (by simp [rslots_length]; omega), List.getElem?_eq_none (by simp [rslots_length]; omega)]
/-- One slot more. -/
theorem rslots_snoc (ptr : Nat → Option Nat) (we : Nat → Int) (n : Nat) :
    rslots ptr we (n + 1) = rslots ptr we n ++ [pcell (ptr (n * 3)), pcell (ptr (n * 3 + 1)), pcell (ptr (n * 3 + 2)), .int .i64 (we (n * 3)), .int .i64 (we (n * 3 + 1)), .int .i64 (we (n * 3 + 2))] := by
  unfold rslots
  rw [show (n + 1) * 6 = n * 6 + 1 + 1 + 1 + 1 + 1 + 1 by omega]
  simp only [List.range_succ, List.map_append, List.map_cons, List.map_nil, List.append_assoc, List.cons_append, List.nil_append]
  have e0 := rcell_ptr ptr we n 0 (by omega)
  have e1 := rcell_ptr ptr we n 1 (by omega)
  have e2 := rcell_ptr ptr we n 2 (by omega)
  have e3 := rcell_wear ptr we n 0 (by omega)
  have e4 := rcell_wear ptr we n 1 (by omega)
  have e5 := rcell_wear ptr we n 2 (by omega)
  simp only [Nat.add_zero] at e0 e3
  rw [show n * 6 + 1 + 1 = n * 6 + 2 by omega, show n * 6 + 2 + 1 = n * 6 + 3 by omega, show n * 6 + 3 + 1 + 1 = n * 6 + 3 + 2 by omega, e0, e1, e2, e3, e4, e5]

/-- The document's bay s in block c; gs: the slots' row; ptr: the disks' blocks; D: each disk's own. -/
structure RBayIn (W : World) (R : Nat → Prop) (c : Nat) (s : BaySt) (gs cap : Nat) (ptr : Nat → Option Nat) (D : Nat → Nat → Prop) : Prop where
  bay : At W c #[.slice (some ⟨gs, 0, none⟩) s.n cap, .bool s.dark, .int .i64 s.trip, .int .i64 (s.cnt 0), .int .i64 (s.cnt 1), .int .i64 (s.cnt 2)] 61
  slots : W.ownsRow 0 91 6 (.slice (some ⟨gs, 0, none⟩) s.n cap) s.n (rslots ptr (fun i => wearOf (s.pos i)) s.n)
  some' : ∀ i, i < 3 * s.n → ∀ x, s.pos i = some x → ∃ p, ptr i = some p ∧ RDisk W (D i) p x.d
  wear : ∀ i, i < 3 * s.n → ∀ x, s.pos i = some x → 0 ≤ x.left ∧ x.left ≤ 9223372036854775807
  none' : ∀ i, i < 3 * s.n → s.pos i = none → ptr i = none
  apart : ∀ i j, i < 3 * s.n → j < 3 * s.n → i ≠ j → s.pos i ≠ none → s.pos j ≠ none → ∀ q, D i q → ¬ D j q
  inB : R c
  inS : R gs
  inD : ∀ i, i < 3 * s.n → s.pos i ≠ none → ∀ q, D i q → R q
  outB : ∀ i, i < 3 * s.n → s.pos i ≠ none → ¬ D i c
  outS : ∀ i, i < 3 * s.n → s.pos i ≠ none → ¬ D i gs
  ne : c ≠ gs
  lt : ∀ q, R q → q < W.heap.size
  few : s.n ≤ 17
  cl : ∀ j, 0 ≤ s.cnt j
  trl : -1 ≤ s.trip
  trh : s.trip ≤ 9223372036854775807
  lit : s.dark = true → s.trip = -1

def RBayAt (W : World) (R : Nat → Prop) (c : Nat) (s : BaySt) : Prop := ∃ gs cap ptr D, RBayIn W R c s gs cap ptr D

theorem RBayIn.keep {S : Nat → Prop} {W W' : World} {R : Nat → Prop} {c : Nat} {s : BaySt} {gs cap : Nat} {ptr : Nat → Option Nat} {D : Nat → Nat → Prop} (h : RBayIn W R c s gs cap ptr D) (hc : Chg S W W') (hS : ∀ k, R k → ¬ S k) : RBayIn W' R c s gs cap ptr D :=
  ⟨h.bay.mod hc (hS c h.inB), ownsRow_chg h.slots hc (fun g hg => by simp only [Value.ownBlock, Option.some.injEq] at hg; exact hS g (hg ▸ h.inS)),
    fun i hi x hx => by
      obtain ⟨p, h1, h2⟩ := h.some' i hi x hx
      exact ⟨p, h1, h2.keep hc (fun k hk => hS k (h.inD i hi (by rw [hx]; simp) k hk))⟩,
    h.wear, h.none', h.apart, h.inB, h.inS, h.inD, h.outB, h.outS, h.ne, fun q hq => Nat.lt_of_lt_of_le (h.lt q hq) hc.size, h.few, h.cl, h.trl, h.trh, h.lit⟩

theorem RBayAt.keep {S : Nat → Prop} {W W' : World} {R : Nat → Prop} {c : Nat} {s : BaySt} (h : RBayAt W R c s) (hc : Chg S W W') (hS : ∀ k, R k → ¬ S k) : RBayAt W' R c s := by
  obtain ⟨gs, cap, ptr, D, h⟩ := h
  exact ⟨gs, cap, ptr, D, h.keep hc hS⟩
theorem RBayAt.below {W W' : World} {R : Nat → Prop} {c : Nat} {s : BaySt} (h : RBayAt W R c s) (hb : Below W.heap.size W W') : RBayAt W' R c s :=
  h.keep (Chg.ofBelow hb (fun _ => False)) (fun _ _ h => h)
theorem RBayAt.lt {W : World} {R : Nat → Prop} {c : Nat} {s : BaySt} (h : RBayAt W R c s) : ∀ q, R q → q < W.heap.size := by
  obtain ⟨_, _, _, _, h⟩ := h
  exact h.lt
theorem RBayAt.inB {W : World} {R : Nat → Prop} {c : Nat} {s : BaySt} (h : RBayAt W R c s) : R c := by
  obtain ⟨_, _, _, _, h⟩ := h
  exact h.inB

/-- What an operation leaves of the document's bay. -/
def RBPost (w : World) (R : Nat → Prop) (c : Nat) (s' : BaySt) (w' : World) : Prop :=
  ∃ R', RBayAt w' R' c s' ∧ (∀ q, R' q → R q ∨ w.heap.size ≤ q) ∧ Chg R w w'

theorem RBPost.same {w w' : World} {R : Nat → Prop} {c : Nat} {s' : BaySt} (h : RBayAt w' R c s') (hc : Chg R w w') : RBPost w R c s' w' := ⟨R, h, fun _ h => .inl h, hc⟩
theorem RBPost.trans {w w1 w2 : World} {R R1 : Nat → Prop} {c : Nat} {s2 : BaySt} (h1 : ∀ q, R1 q → R q ∨ w.heap.size ≤ q) (hc : Chg R w w1) (h : RBPost w1 R1 c s2 w2) : RBPost w R c s2 w2 := by
  obtain ⟨R', k1, k2, k3⟩ := h
  refine ⟨R', k1, fun q hq => ?_, chg_and hc k3 (fun q hq hs => (h1 q hs).resolve_right (by omega))⟩
  rcases k2 q hq with k2 | k2
  · exact h1 q k2
  · exact .inr (Nat.le_trans hc.size k2)

/-- .. the slots' row, and where each disk is, as before. -/
def RBTurned (w : World) (R : Nat → Prop) (c : Nat) (s' : BaySt) (gs cap : Nat) (ptr : Nat → Option Nat) (w' : World) : Prop :=
  ∃ R' D', RBayIn w' R' c s' gs cap ptr D' ∧ (∀ q, R' q → R q ∨ w.heap.size ≤ q) ∧ Chg R w w'
theorem RBTurned.post {w w' : World} {R : Nat → Prop} {c : Nat} {s' : BaySt} {gs cap : Nat} {ptr : Nat → Option Nat} (h : RBTurned w R c s' gs cap ptr w') : RBPost w R c s' w' := by
  obtain ⟨R', D', h1, h2, h3⟩ := h
  exact ⟨R', ⟨gs, cap, ptr, D', h1⟩, h2, h3⟩

/-- Another disk (or the same) in a place. -/
theorem RBayIn.turn {W W' : World} {R : Nat → Prop} {c : Nat} {s : BaySt} {gs cap : Nat} {ptr : Nat → Option Nat} {D : Nat → Nat → Prop} (h : RBayIn W R c s gs cap ptr D) {i p : Nat} {x y : Dev} (hi : i < 3 * s.n) (hx : s.pos i = some x) (hp : ptr i = some p)
    (hw : wearOf (some y) = wearOf (some x)) (hyl : 0 ≤ y.left) (hyh : y.left ≤ 9223372036854775807) (hd : RDPost W (D i) p y.d W') :
    RBTurned W R c (s.laid i y) gs cap ptr W' := by
  obtain ⟨D', k1, k2, k3⟩ := hd
  have hne : s.pos i ≠ none := by rw [hx]; simp
  refine ⟨fun q => R q ∨ D' q, fun j => if j = i then D' else D j, ?_, ?_, k3.mono fun q hq => h.inD i hi hne q hq⟩
  · have hpos : ∀ j, (s.laid i y).pos j = if j = i then some y else s.pos j := fun j => rfl
    have hn0 : ∀ j, (s.laid i y).pos j ≠ none → s.pos j ≠ none := fun j hj => by
      rw [hpos] at hj
      by_cases e : j = i
      · rw [e]; exact hne
      · rwa [if_neg e] at hj
    refine ⟨h.bay.mod k3 (h.outB i hi hne), ?_, ?_, ?_, ?_, ?_, .inl h.inB, .inl h.inS, ?_, ?_, ?_, h.ne, ?_, h.few, h.cl, h.trl, h.trh, h.lit⟩
    · have e : rslots ptr (fun j => wearOf ((s.laid i y).pos j)) s.n = rslots ptr (fun j => wearOf (s.pos j)) s.n := by
        congr 1
        funext j
        rw [hpos]
        by_cases e : j = i
        · rw [if_pos e, hw, e, hx]
        · rw [if_neg e]
      show W'.ownsRow 0 _ 6 _ s.n (rslots ptr (fun j => wearOf ((s.laid i y).pos j)) s.n)
      rw [e]
      exact ownsRow_chg h.slots k3 (fun g hg => by simp only [Value.ownBlock, Option.some.injEq] at hg; exact hg ▸ h.outS i hi hne)
    · intro j hj z hz
      rw [hpos] at hz
      by_cases e : j = i
      · rw [if_pos e] at hz
        obtain rfl := Option.some.inj hz
        exact ⟨p, by rw [e]; exact hp, by rw [if_pos e]; exact k1⟩
      · rw [if_neg e] at hz
        obtain ⟨p', h1, h2⟩ := h.some' j hj z hz
        rw [if_neg e]
        exact ⟨p', h1, h2.keep k3 (fun q hq hi' => h.apart j i hj hi e (by rw [hz]; simp) hne q hq hi')⟩
    · intro j hj z hz
      rw [hpos] at hz
      by_cases e : j = i
      · rw [if_pos e] at hz
        obtain rfl := Option.some.inj hz
        exact ⟨hyl, hyh⟩
      · rw [if_neg e] at hz
        exact h.wear j hj z hz
    · intro j hj hz
      rw [hpos] at hz
      by_cases e : j = i
      · rw [if_pos e] at hz
        cases hz
      · rw [if_neg e] at hz
        exact h.none' j hj hz
    · intro a b ha hb hab hna hnb q hqa hqb
      have ha' := hn0 a hna
      have hb' := hn0 b hnb
      by_cases ea : a = i
      · have eb : b ≠ i := by omega
        rw [if_pos ea] at hqa
        rw [if_neg eb] at hqb
        have hlt := h.lt q (h.inD b hb hb' q hqb)
        exact h.apart i b hi hb (Ne.symm eb) hne hb' q ((k2 q hqa).resolve_right (by omega)) hqb
      · rw [if_neg ea] at hqa
        by_cases eb : b = i
        · rw [if_pos eb] at hqb
          have hlt := h.lt q (h.inD a ha ha' q hqa)
          exact h.apart i a hi ha (Ne.symm ea) hne ha' q ((k2 q hqb).resolve_right (by omega)) hqa
        · rw [if_neg eb] at hqb
          exact h.apart a b ha hb hab ha' hb' q hqa hqb
    · intro j hj hnj q hq
      by_cases e : j = i
      · rw [if_pos e] at hq; exact .inr hq
      · rw [if_neg e] at hq; exact .inl (h.inD j hj (hn0 j hnj) q hq)
    · intro j hj hnj
      by_cases e : j = i
      · rw [if_pos e]
        intro hq
        exact h.outB i hi hne ((k2 _ hq).resolve_right (by have := h.lt c h.inB; omega))
      · rw [if_neg e]; exact h.outB j hj (hn0 j hnj)
    · intro j hj hnj
      by_cases e : j = i
      · rw [if_pos e]
        intro hq
        exact h.outS i hi hne ((k2 _ hq).resolve_right (by have := h.lt gs h.inS; omega))
      · rw [if_neg e]; exact h.outS j hj (hn0 j hnj)
    · intro q hq
      rcases hq with hq | hq
      · exact Nat.lt_of_lt_of_le (h.lt q hq) k3.size
      · exact k1.lt q hq
  · intro q hq
    rcases hq with hq | hq
    · exact .inl hq
    · rcases k2 q hq with k2 | k2
      · exact .inl (h.inD i hi hne q k2)
      · exact .inr k2

/-- Other cells of the bay's own. -/
theorem RBayIn.cells {W W' : World} {R : Nat → Prop} {c : Nat} {s : BaySt} {gs cap : Nat} {ptr : Nat → Option Nat} {D : Nat → Nat → Prop} (h : RBayIn W R c s gs cap ptr D) (hc : Chg (fun q => q = c) W W') (dark : Bool) (trip : Int) (cnt : Nat → Int)
    (hb : At W' c #[.slice (some ⟨gs, 0, none⟩) s.n cap, .bool dark, .int .i64 trip, .int .i64 (cnt 0), .int .i64 (cnt 1), .int .i64 (cnt 2)] 61) (hcl : ∀ j, 0 ≤ cnt j) (h1 : -1 ≤ trip) (h2 : trip ≤ 9223372036854775807) (h3 : dark = true → trip = -1) :
    RBayIn W' R c ⟨s.n, s.pos, dark, trip, cnt⟩ gs cap ptr D :=
  ⟨hb, ownsRow_chg h.slots hc (fun g hg e => by simp only [Value.ownBlock, Option.some.injEq] at hg; exact h.ne (by rw [← e, hg])),
    fun i hi x hx => by
      obtain ⟨p, h1, h2⟩ := h.some' i hi x hx
      exact ⟨p, h1, h2.keep hc (fun k hk e => h.outB i hi (by rw [hx]; simp) (e ▸ hk))⟩,
    h.wear, h.none', h.apart, h.inB, h.inS, h.inD, h.outB, h.outS, h.ne, fun q hq => Nat.lt_of_lt_of_le (h.lt q hq) hc.size, h.few, hcl, h1, h2, h3⟩

theorem laid_laid (s : BaySt) (i : Nat) (x y : Dev) : (s.laid i x).laid i y = s.laid i y := by
  unfold BaySt.laid
  congr 1
  funext q
  by_cases h : q = i
  · simp only [if_pos h]
  · simp only [if_neg h]

/-- Another wear. -/
theorem RBayIn.worn {W : World} {R : Nat → Prop} {c : Nat} {s : BaySt} {gs cap : Nat} {ptr : Nat → Option Nat} {D : Nat → Nat → Prop} (h : RBayIn W R c s gs cap ptr D) {k : Nat} {x : Dev} (hk : k < s.n) (hx : s.pos (k * 3) = some x) (wo : Bool) (le : Int) (hl : 0 ≤ le) (hh : le ≤ 9223372036854775807) (z : Int) (hz : z = wearOf (some ⟨x.d, wo, le⟩)) :
    RBayIn (W.setCell ⟨gs, k * 6 + 3, none⟩ (.int .i64 z)) R c (s.laid (k * 3) ⟨x.d, wo, le⟩) gs cap ptr D ∧ Chg (fun q => q = gs) W (W.setCell ⟨gs, k * 6 + 3, none⟩ (.int .i64 z)) := by
  have hc : Chg (fun q => q = gs) W (W.setCell ⟨gs, k * 6 + 3, none⟩ (.int .i64 z)) := Chg.setCell (S := fun q => q = gs) (Chg.refl _ _) ⟨gs, k * 6 + 3, none⟩ (.inl rfl) _
  refine ⟨?_, hc⟩
  have hpos : ∀ j, (s.laid (k * 3) ⟨x.d, wo, le⟩).pos j = if j = k * 3 then some ⟨x.d, wo, le⟩ else s.pos j := fun j => rfl
  have hn : ∀ j, (s.laid (k * 3) ⟨x.d, wo, le⟩).pos j ≠ none → s.pos j ≠ none := fun j hj => by
    rw [hpos] at hj
    by_cases e : j = k * 3
    · rw [e, hx]; simp
    · rwa [if_neg e] at hj
  refine ⟨h.bay.mod hc h.ne, ?_, ?_, ?_, ?_, ?_, h.inB, h.inS, ?_, ?_, ?_, h.ne, fun q hq => Nat.lt_of_lt_of_le (h.lt q hq) hc.size, h.few, h.cl, h.trl, h.trh, h.lit⟩
  · have e := (h.slots.stored (k * 6 + 3) (.int .i64 z)).1
    have e2 := rslots_setWear ptr (fun i => wearOf (s.pos i)) s.n k 0 (by omega) z
    simp only [Nat.add_zero] at e2
    rw [e2] at e
    have e3 : (fun q => if q = k * 3 then z else wearOf (s.pos q)) = fun i => wearOf ((s.laid (k * 3) ⟨x.d, wo, le⟩).pos i) := by
      funext q
      rw [hpos]
      by_cases e : q = k * 3
      · rw [if_pos e, if_pos e, hz]
      · rw [if_neg e, if_neg e]
    rw [e3] at e
    exact e
  · intro j hj y hy
    rw [hpos] at hy
    by_cases e : j = k * 3
    · rw [if_pos e] at hy
      obtain rfl := Option.some.inj hy
      obtain ⟨p, h1, h2⟩ := h.some' j hj x (by rw [e]; exact hx)
      exact ⟨p, h1, h2.keep hc (fun q hq e' => h.outS j hj (by rw [e, hx]; simp) (e' ▸ hq))⟩
    · rw [if_neg e] at hy
      obtain ⟨p, h1, h2⟩ := h.some' j hj y hy
      exact ⟨p, h1, h2.keep hc (fun q hq e' => h.outS j hj (by rw [hy]; simp) (e' ▸ hq))⟩
  · intro j hj y hy
    rw [hpos] at hy
    by_cases e : j = k * 3
    · rw [if_pos e] at hy
      obtain rfl := Option.some.inj hy
      exact ⟨hl, hh⟩
    · rw [if_neg e] at hy
      exact h.wear j hj y hy
  · intro j hj hy
    rw [hpos] at hy
    by_cases e : j = k * 3
    · rw [if_pos e] at hy; cases hy
    · rw [if_neg e] at hy; exact h.none' j hj hy
  · exact fun a b ha hb hab hna hnb => h.apart a b ha hb hab (hn a hna) (hn b hnb)
  · exact fun j hj hnj => h.inD j hj (hn j hnj)
  · exact fun j hj hnj => h.outB j hj (hn j hnj)
  · exact fun j hj hnj => h.outS j hj (hn j hnj)

end Go.Proofs.YtleicmmbaacbmaaGreat
