/- A calm bay, plain: the power is on, a whole disk in each slot, none worn. -/
import Derived.Test.YtleicmmbaacbmaaGreatMrg10
set_option linter.unusedVariables false
namespace Go.Proofs.YtleicmmbaacbmaaGreat
open Go.RowKit

structure CalmDev (x : Dev) (n : Nat) : Prop where
  worn : x.worn = false
  failed : x.d.failed = false
  len : x.d.last.length = n
  secs : ∀ s ∈ x.d.last, s.length = 128
  csecs : ∀ y ∈ x.d.cache, y.2.length = 128
  cin : ∀ y ∈ x.d.cache, y.1 < x.d.last.length

/-- A whole disk of sz k sectors in slot k. -/
structure CalmBay (s : BaySt) (sz : Nat → Nat) : Prop where
  dark : s.dark = false
  trip : s.trip = -1
  dev : ∀ k, k < s.n → ∃ x, s.pos (k * 3) = some x ∧ CalmDev x (sz k)
  rest : ∀ q, q % 3 ≠ 0 → s.pos q = none

/-- What sector z of slot k reads as. -/
def BaySt.sec (s : BaySt) (k z : Nat) : Sec := match s.pos (k * 3) with
  | some x => x.d.cur z
  | none => zsec
/-- Nothing waits in slot k. -/
def BaySt.dry (s : BaySt) (k : Nat) : Prop := ∃ x, s.pos (k * 3) = some x ∧ x.d.cache = []

theorem sec_some {s : BaySt} {k z : Nat} {x : Dev} (h : s.pos (k * 3) = some x) : s.sec k z = x.d.cur z := by
  unfold BaySt.sec; rw [h]

theorem cur_length {x : Dev} {n : Nat} (h : CalmDev x n) (z : Nat) : (x.d.cur z).length = 128 := by
  unfold Dsk.cur
  cases hw : waits x.d.cache z with
  | some s =>
    unfold waits at hw
    cases hf : x.d.cache.reverse.find? (fun y => decide ((y.1 : Int) = z)) with
    | none => rw [hf] at hw; cases hw
    | some y =>
      rw [hf] at hw
      simp only [Option.map_some, Option.some.injEq] at hw
      have := List.mem_of_find?_eq_some hf
      show s.length = 128
      rw [← hw]
      exact h.csecs y (List.mem_reverse.1 this)
  | none =>
    show (x.d.last.getD z zsec).length = 128
    rw [List.getD_eq_getElem?_getD]
    cases hz : x.d.last[z]? with
    | none => simp [zsec]
    | some s => exact h.secs s (List.mem_of_getElem? hz)

theorem CalmBay.sec_length {s : BaySt} {sz : Nat → Nat} (h : CalmBay s sz) (k z : Nat) (hk : k < s.n) : (s.sec k z).length = 128 := by
  obtain ⟨x, h1, h2⟩ := h.dev k hk
  rw [sec_some h1]
  exact cur_length h2 z

/-- So many operations more of a kind. -/
def BaySt.ticks (s : BaySt) (j c : Nat) : BaySt := { s with cnt := fun q => if q = j then s.cnt j + c else s.cnt q }
theorem ticks_zero (s : BaySt) (j : Nat) : s.ticks j 0 = s := by
  unfold BaySt.ticks
  have e : (fun q => if q = j then s.cnt j + ((0 : Nat) : Int) else s.cnt q) = s.cnt := by
    funext q
    by_cases hq : q = j
    · subst hq; rw [if_pos rfl]; omega
    · rw [if_neg hq]
  rw [e]
theorem ticks_ticks (s : BaySt) (j a c : Nat) : (s.ticks j a).ticks j c = s.ticks j (a + c) := by
  unfold BaySt.ticks
  congr 1
  funext q
  show (if q = j then (if j = j then s.cnt j + (a : Int) else s.cnt j) + (c : Int) else if q = j then s.cnt j + (a : Int) else s.cnt q) = _
  by_cases hq : q = j
  · rw [if_pos hq, if_pos rfl, if_pos hq]; omega
  · rw [if_neg hq, if_neg hq, if_neg hq]
theorem CalmBay.ticks {s : BaySt} {sz : Nat → Nat} (h : CalmBay s sz) (j c : Nat) : CalmBay (s.ticks j c) sz := ⟨h.dark, h.trip, h.dev, h.rest⟩
theorem sec_ticks (s : BaySt) (j c : Nat) : (s.ticks j c).sec = s.sec := rfl
theorem cnt_ticks (s : BaySt) (j c : Nat) : (s.ticks j c).cnt j = s.cnt j + c := if_pos rfl
theorem cnt_ticks_ne (s : BaySt) (j c q : Nat) (h : q ≠ j) : (s.ticks j c).cnt q = s.cnt q := if_neg h

theorem use_calm {x : Dev} {n : Nat} (h : CalmDev x n) : x.use = x := by
  unfold Dev.use
  rw [if_pos h.worn]

theorem begun_calm {s : BaySt} {sz : Nat → Nat} (h : CalmBay s sz) (j i : Nat) {x : Dev} (hx : s.pos i = some x) : s.begun j i x = s.ticks j 1 := by
  unfold BaySt.begun BaySt.ticks
  have e : (fun q => if q = i then some x else s.pos q) = s.pos := by
    funext q
    by_cases hq : q = i
    · subst hq; rw [if_pos rfl, hx]
    · rw [if_neg hq]
  rw [e, h.trip, if_neg (by omega)]
  rfl

theorem start_calm {s : BaySt} {sz : Nat → Nat} (h : CalmBay s sz) (j k : Nat) (hk : k < s.n) {x : Dev} (hx : s.pos (k * 3) = some x) (hd : CalmDev x (sz k)) : s.start j k = (s.ticks j 1, .inr x) := by
  unfold BaySt.start
  rw [if_neg (by omega), if_neg (by rw [h.trip]; omega), if_neg (by rw [h.dark]; simp), show ((k : Int)).toNat = k by omega, hx]
  show (s.begun j (k * 3) x.use, _) = _
  rw [use_calm hd, begun_calm h j _ hx]

theorem may_calm {x : Dev} {n z : Nat} (h : CalmDev x n) (hz : z < n) : x.d.may z = 0 := by
  unfold Dsk.may
  rw [h.failed, if_neg (by simp), if_neg (by rw [h.len]; omega)]

theorem read_calm {s : BaySt} {sz : Nat → Nat} (h : CalmBay s sz) (k z : Nat) (hk : k < s.n) (hz : z < sz k) : s.read k z = (0, some (s.sec k z), s.ticks 0 1) := by
  obtain ⟨x, h1, h2⟩ := h.dev k hk
  unfold BaySt.read
  rw [start_calm h 0 k hk h1 h2, sec_some h1]
  show ((x.d.read z).1, (x.d.read z).2, s.ticks 0 1) = _
  unfold Dsk.read
  rw [if_pos (may_calm h2 hz)]
  rfl

/-- The sum of the first k sectors, but for one. -/
def xorTo (f : Nat → Sec) (but : Int) : Nat → Nat → UInt8
  | 0 => fun _ => 0
  | k + 1 => if (k : Int) = but then xorTo f but k else fun i => xorTo f but k i ^^^ (f k).getD i 0
/-- So many of the first k are not left out. -/
def handed (but : Int) : Nat → Nat
  | 0 => 0
  | k + 1 => if (k : Int) = but then handed but k else handed but k + 1

theorem handed_all (but : Int) : ∀ k : Nat, (but < 0 ∨ (k : Int) ≤ but) → handed but k = k
  | 0, _ => rfl
  | k + 1, h => by
    show (if (k : Int) = but then handed but k else handed but k + 1) = k + 1
    rw [if_neg (by omega), handed_all but k (by omega)]
theorem handed_but (but : Int) : ∀ k : Nat, 0 ≤ but → but < k → handed but k + 1 = k
  | 0, h1, h2 => by omega
  | k + 1, h1, h2 => by
    show (if (k : Int) = but then handed but k else handed but k + 1) + 1 = k + 1
    by_cases h : (k : Int) = but
    · rw [if_pos h, handed_all but k (.inr (by omega))]
    · rw [if_neg h, handed_but but k h1 (by omega)]

theorem hand_calm {s : BaySt} {sz : Nat → Nat} (h : CalmBay s sz) (z : Nat) (but : Int) : ∀ k, k ≤ s.n → (∀ j, j < k → z < sz j) → s.hand z but k = ⟨none, xorTo (fun m => s.sec m z) but k, s.ticks 0 (handed but k)⟩
  | 0, _, _ => by
    show (⟨none, fun _ => 0, s⟩ : Handed) = ⟨none, _, s.ticks 0 0⟩
    rw [ticks_zero]
    rfl
  | k + 1, hk, hz => by
    have ih := hand_calm h z but k (by omega) (fun j hj => hz j (by omega))
    by_cases hb : (k : Int) = but
    · rw [hand_but s z but k hb, ih]
      show _ = (⟨none, (if (k : Int) = but then xorTo (fun m => s.sec m z) but k else _), s.ticks 0 (if (k : Int) = but then handed but k else handed but k + 1)⟩ : Handed)
      rw [if_pos hb, if_pos hb]
    · have hr := read_calm (h.ticks 0 (handed but k)) k z (by show k < s.n; omega) (hz k (by omega))
      rw [sec_ticks, ticks_ticks] at hr
      rw [hand_ok s z but k (by rw [ih]) hb (s.sec k z) (by rw [ih]; show ((s.ticks 0 (handed but k)).read k z).2.1 = _; rw [hr]), ih]
      show (⟨none, _, ((s.ticks 0 (handed but k)).read k z).2.2⟩ : Handed) = ⟨none, (if (k : Int) = but then xorTo (fun m => s.sec m z) but k else _), s.ticks 0 (if (k : Int) = but then handed but k else handed but k + 1)⟩
      rw [hr, if_neg hb, if_neg hb]

/-- The rows of the first r that are not even. -/
def uneven (s : BaySt) (M : Nat) : Nat → List Nat
  | 0 => []
  | r + 1 => if allZero (xorTo (fun m => s.sec m (1 + r)) (-1) M) 128 then uneven s M r else uneven s M r ++ [r]

theorem uneven_ticks (s : BaySt) (j c M : Nat) : ∀ r, uneven (s.ticks j c) M r = uneven s M r
  | 0 => rfl
  | r + 1 => by
    unfold uneven
    rw [sec_ticks, uneven_ticks s j c M r]

theorem look_calm {s : BaySt} {sz : Nat → Nat} (h : CalmBay s sz) (M : Nat) (hM : M ≤ s.n) : ∀ r, (∀ j, j < M → r < sz j) → s.look M r = ⟨none, uneven s M r, s.ticks 0 (r * M)⟩
  | 0, _ => by
    show (⟨none, [], s⟩ : Looked) = ⟨none, [], s.ticks 0 (0 * M)⟩
    rw [Nat.zero_mul, ticks_zero]
  | r + 1, hr => by
    have ih := look_calm h M hM r (fun j hj => by have := hr j hj; omega)
    have hh := hand_calm (h.ticks 0 (r * M)) (1 + r) (-1) M (by show M ≤ s.n; omega) (fun j hj => by have := hr j hj; omega)
    rw [sec_ticks, ticks_ticks, handed_all (-1) M (by omega)] at hh
    rw [look_ok s M r (by rw [ih]) (by rw [ih]; show ((s.ticks 0 (r * M)).hand _ _ _).t = _; rw [hh]), ih]
    show (⟨none, (if allZero ((s.ticks 0 (r * M)).hand _ _ _).f 128 then uneven s M r else uneven s M r ++ [r]), ((s.ticks 0 (r * M)).hand _ _ _).s⟩ : Looked) = ⟨none, (if allZero (xorTo (fun m => s.sec m (1 + r)) (-1) M) 128 then uneven s M r else uneven s M r ++ [r]), s.ticks 0 ((r + 1) * M)⟩
    rw [hh, Nat.succ_mul]

/-- A device's place has another whole disk in it. -/
theorem CalmBay.laid {s : BaySt} {sz : Nat → Nat} (h : CalmBay s sz) (k : Nat) {y : Dev} (hy : CalmDev y (sz k)) : CalmBay (s.laid (k * 3) y) sz := by
  refine ⟨h.dark, h.trip, fun j hj => ?_, fun q hq => ?_⟩
  · by_cases hjk : j = k
    · subst hjk; exact ⟨y, if_pos rfl, hy⟩
    · obtain ⟨x, h1, h2⟩ := h.dev j hj
      exact ⟨x, (if_neg (by omega)).trans h1, h2⟩
  · exact (if_neg (by omega)).trans (h.rest q hq)
theorem sec_laid_same (s : BaySt) (k z : Nat) (y : Dev) : (s.laid (k * 3) y).sec k z = y.d.cur z := sec_some (if_pos rfl)
theorem sec_laid_other (s : BaySt) (k j z : Nat) (y : Dev) (h : j ≠ k) : (s.laid (k * 3) y).sec j z = s.sec j z := by
  unfold BaySt.sec
  have : (s.laid (k * 3) y).pos (j * 3) = s.pos (j * 3) := if_neg (by omega)
  rw [this]
theorem dry_laid_other {s : BaySt} {k j : Nat} {y : Dev} (h : j ≠ k) : (s.laid (k * 3) y).dry j ↔ s.dry j := by
  unfold BaySt.dry
  have : (s.laid (k * 3) y).pos (j * 3) = s.pos (j * 3) := if_neg (by omega)
  rw [this]
theorem dry_laid_same {s : BaySt} {k : Nat} {y : Dev} (h : y.d.cache = []) : (s.laid (k * 3) y).dry k := ⟨y, if_pos rfl, h⟩

/-- What any write to a calm bay leaves. -/
structure Wrote (s s' : BaySt) (sz : Nat → Nat) : Prop where
  calm : CalmBay s' sz
  n : s'.n = s.n
  small : ∀ m, s.small m → s'.small (m + 1)
  lo : s.cnt 1 ≤ s'.cnt 1
  hi : s'.cnt 1 ≤ s.cnt 1 + 1
  c0 : s'.cnt 0 = s.cnt 0
  c2 : s'.cnt 2 = s.cnt 2

theorem write_dev_bad {x : Dev} {z : Int} {l : List UInt8} (hc : ¬ (x.d.may z = 0 ∧ l.length = 128)) : (⟨(x.d.write z l).2, x.worn, x.left⟩ : Dev) = x := by
  unfold Dsk.write
  by_cases h1 : x.d.may z ≠ 0
  · rw [if_pos h1]
  · rw [if_neg h1, if_pos (fun e => hc ⟨by omega, e⟩)]
theorem write_dev_ok {x : Dev} {z : Nat} {l : List UInt8} (h1 : x.d.may z = 0) (h2 : l.length = 128) : x.d.write z l = (0, { x.d with cache := x.d.cache ++ [(z, l)] }) := by
  unfold Dsk.write
  rw [if_neg (by omega), if_neg (by omega)]
  rfl
theorem CalmDev.written {x : Dev} {n z : Nat} {l : List UInt8} (h : CalmDev x n) (hz : z < n) (hl : l.length = 128) : CalmDev ⟨{ x.d with cache := x.d.cache ++ [(z, l)] }, x.worn, x.left⟩ n := by
  refine ⟨h.worn, h.failed, h.len, h.secs, fun y hy => ?_, fun y hy => ?_⟩
  · rcases List.mem_append.1 hy with hy | hy
    · exact h.csecs y hy
    · obtain rfl := List.mem_singleton.1 hy; exact hl
  · rcases List.mem_append.1 hy with hy | hy
    · exact h.cin y hy
    · obtain rfl := List.mem_singleton.1 hy
      show z < x.d.last.length
      rw [h.len]; exact hz
theorem cur_written (x : Dsk) (z q : Nat) (l : List UInt8) : ({ x with cache := x.cache ++ [(z, l)] } : Dsk).cur q = if q = z then l else x.cur q := by
  unfold Dsk.cur
  show (waits (x.cache ++ [(z, l)]) q).getD _ = _
  rw [waits_snoc]
  by_cases h : q = z
  · subst h; rw [if_pos rfl, if_pos rfl]; rfl
  · rw [if_neg (fun e => h (by omega)), if_neg h]

theorem laid_calm {s : BaySt} {i : Nat} {x : Dev} (hx : s.pos i = some x) : s.laid i x = s := by
  unfold BaySt.laid
  have e : (fun q => if q = i then some x else s.pos q) = s.pos := by
    funext q
    by_cases hq : q = i
    · subst hq; rw [if_pos rfl, hx]
    · rw [if_neg hq]
  rw [e]

theorem write_calm {s : BaySt} {sz : Nat → Nat} (h : CalmBay s sz) (k z : Nat) (l : List UInt8) (hk : k < s.n) (hz : z < sz k) (hl : l.length = 128) :
    ∃ s', s.write k z l = (0, s') ∧ Wrote s s' sz ∧ (∀ j q, s'.sec j q = if j = k ∧ q = z then l else s.sec j q) ∧ (∀ j, j ≠ k → s.dry j → s'.dry j) ∧ s'.cnt 1 = s.cnt 1 + 1 := by
  obtain ⟨x, h1, h2⟩ := h.dev k hk
  have hw := write_dev_ok (may_calm h2 hz) hl
  refine ⟨(s.ticks 1 1).laid (k * 3) ⟨{ x.d with cache := x.d.cache ++ [(z, l)] }, x.worn, x.left⟩, ?_, ⟨(h.ticks 1 1).laid k (h2.written hz hl), rfl, fun m hm => ?_, ?_, ?_, rfl, rfl⟩, fun j q => ?_, fun j hj hd => ?_, cnt_ticks s 1 1⟩
  · unfold BaySt.write
    rw [start_calm h 1 k hk h1 h2]
    show ((x.d.write z l).1, (s.ticks 1 1).laid (((k : Int)).toNat * 3) ⟨(x.d.write z l).2, x.worn, x.left⟩) = _
    rw [hw, show ((k : Int)).toNat = k by omega]
  · refine small_pos (s := s) (i := k * 3) (y := ⟨{ x.d with cache := x.d.cache ++ [(z, l)] }, x.worn, x.left⟩) (fun i hi y hy => Nat.le_succ_of_le (hm i hi y hy)) ?_ _ rfl rfl
    have := hm (k * 3) (by omega) x h1
    simp only [List.length_append, List.length_singleton]
    omega
  · show s.cnt 1 ≤ (if 1 = 1 then s.cnt 1 + ((1 : Nat) : Int) else s.cnt 1)
    rw [if_pos rfl]; omega
  · show (if 1 = 1 then s.cnt 1 + ((1 : Nat) : Int) else s.cnt 1) ≤ _
    rw [if_pos rfl]; omega
  · by_cases hj : j = k
    · subst hj
      rw [sec_laid_same]
      show ({ x.d with cache := x.d.cache ++ [(z, l)] } : Dsk).cur q = _
      rw [cur_written, sec_some h1]
      by_cases hq : q = z
      · rw [if_pos hq, if_pos ⟨rfl, hq⟩]
      · rw [if_neg hq, if_neg (fun e => hq e.2)]
    · rw [sec_laid_other _ _ _ _ _ hj, if_neg (fun e => hj e.1)]
      rfl
  · exact (dry_laid_other hj).2 hd

theorem write_any {s : BaySt} {sz : Nat → Nat} (h : CalmBay s sz) (k z : Int) (l : List UInt8) : Wrote s (s.write k z l).2 sz := by
  by_cases hk : 0 ≤ k ∧ k < (s.n : Int)
  · obtain ⟨k, rfl⟩ : ∃ q : Nat, k = q := ⟨k.toNat, by omega⟩
    have hkn : k < s.n := by omega
    obtain ⟨x, h1, h2⟩ := h.dev k hkn
    by_cases hc : x.d.may z = 0 ∧ l.length = 128
    · obtain ⟨-, i, rfl, hi⟩ := may_ok hc.1
      obtain ⟨s', e, hw, -, -, -⟩ := write_calm h k i l hkn (by rw [← h2.len]; exact hi) hc.2
      rw [e]; exact hw
    · have e : (s.write k z l).2 = s.ticks 1 1 := by
        unfold BaySt.write
        rw [start_calm h 1 k hkn h1 h2]
        show (s.ticks 1 1).laid (((k : Int)).toNat * 3) ⟨(x.d.write z l).2, x.worn, x.left⟩ = _
        rw [write_dev_bad hc, show ((k : Int)).toNat = k by omega]
        exact laid_calm h1
      rw [e]
      refine ⟨h.ticks 1 1, rfl, fun m hm i hi y hy => Nat.le_succ_of_le (hm i hi y hy), ?_, ?_, rfl, rfl⟩
      · rw [cnt_ticks]; omega
      · rw [cnt_ticks]; omega
  · have e : (s.write k z l).2 = s := by
      unfold BaySt.write BaySt.start
      rw [if_pos (by simpa using hk)]
    rw [e]
    exact ⟨h, rfl, fun m hm i hi y hy => Nat.le_succ_of_le (hm i hi y hy), by omega, by omega, rfl, rfl⟩

/-- What a flush of a slot of a calm bay leaves. -/
structure Flushed (s s' : BaySt) (sz : Nat → Nat) (k : Nat) : Prop where
  calm : CalmBay s' sz
  n : s'.n = s.n
  small : ∀ m, s.small m → s'.small m
  hi : s'.cnt 2 = s.cnt 2 + 1
  c0 : s'.cnt 0 = s.cnt 0
  c1 : s'.cnt 1 = s.cnt 1
  sec : ∀ j q, j < s.n → q < sz j → s'.sec j q = s.sec j q
  dry : s'.dry k
  rest : ∀ j, j ≠ k → s.dry j → s'.dry j

theorem settled_calm {x : Dev} {n : Nat} (h : CalmDev x n) (a : Nat) (ha : a < n) : x.d.settled.cur a = x.d.cur a := by
  have := settleTo_cur x.d.last x.d.cache h.cin a (by rw [h.len]; exact ha) x.d.cache.length (Nat.le_refl _)
  rw [List.take_length] at this
  unfold Dsk.cur Dsk.settled
  simp only [waits_nil, Option.getD_none]
  exact this
theorem CalmDev.settled {x : Dev} {n : Nat} (h : CalmDev x n) (keep : Nat → Bool) : CalmDev ⟨⟨settleTo x.d.last x.d.cache keep x.d.cache.length, [], x.d.failed⟩, x.worn, x.left⟩ n :=
  ⟨h.worn, h.failed, (settleTo_length _ _ _ _).trans h.len, settleTo_all h.secs h.csecs _ _, fun y hy => (by cases hy), fun y hy => (by cases hy)⟩

theorem flush_calm {s : BaySt} {sz : Nat → Nat} (h : CalmBay s sz) (k : Nat) (hk : k < s.n) : ∃ s', s.flush k = (0, s') ∧ Flushed s s' sz k := by
  obtain ⟨x, h1, h2⟩ := h.dev k hk
  refine ⟨(s.ticks 2 1).laid (k * 3) ⟨x.d.settled, x.worn, x.left⟩, ?_, ⟨(h.ticks 2 1).laid k (h2.settled _), rfl, fun m hm => small_pos (s := s) (i := k * 3) (y := ⟨x.d.settled, x.worn, x.left⟩) hm (by show 0 ≤ m; omega) _ rfl rfl, cnt_ticks s 2 1, rfl, rfl, fun j q hj hq => ?_, dry_laid_same rfl, fun j hj hd => (dry_laid_other hj).2 hd⟩⟩
  · unfold BaySt.flush
    rw [start_calm h 2 k hk h1 h2]
    show ((x.d.flush).1, (s.ticks 2 1).laid (((k : Int)).toNat * 3) ⟨(x.d.flush).2, x.worn, x.left⟩) = _
    have : x.d.flush = (0, x.d.settled) := by unfold Dsk.flush; rw [h2.failed, if_neg (by simp)]
    rw [this, show ((k : Int)).toNat = k by omega]
  · by_cases hjk : j = k
    · subst hjk
      rw [sec_laid_same, sec_some h1]
      exact settled_calm h2 q hq
    · rw [sec_laid_other _ _ _ _ _ hjk]
      rfl

/-- What a cut that keeps nothing leaves of a calm bay. -/
structure CutOff (s s' : BaySt) (sz : Nat → Nat) : Prop where
  calm : CalmBay s' sz
  n : s'.n = s.n
  small : ∀ m, s'.small m
  cnt : s'.cnt = s.cnt
  sec : ∀ j q, j < s.n → s.dry j → s'.sec j q = s.sec j q
  dry : ∀ j, j < s.n → s'.dry j

theorem settle_nil (last : List Sec) (c : List (Nat × Sec)) : ∀ i, settleTo last c (fun i => ([] : List Bool).getD i false) i = last
  | 0 => rfl
  | i + 1 => by
    unfold settleTo
    split
    · rw [if_neg (by simp)]; exact settle_nil last c i
    · exact settle_nil last c i

theorem crash_nil (d : Dsk) : d.crash [] = ⟨d.last, [], d.failed⟩ := by
  unfold Dsk.crash
  rw [settle_nil]

theorem cutTo_calm {s : BaySt} {sz : Nat → Nat} (h : CalmBay s sz) : ∀ k, k ≤ s.n → ∀ q, (s.cutTo [] k).pos q = if q % 3 = 0 ∧ q / 3 < k then (s.pos q).map (·.crash []) else s.pos q
  | 0, _, q => by
    rw [if_neg (by omega)]
    rfl
  | k + 1, hk, q => by
    have ih := cutTo_calm h k (by omega)
    obtain ⟨x, h1, h2⟩ := h.dev k hk
    have hc : ((s.cutTo [] k).crashAt k (([] : List (List Bool)).getD k [])).pos (k * 3 + 2) = none := by
      show (if k * 3 + 2 = k * 3 then _ else (s.cutTo [] k).pos (k * 3 + 2)) = none
      rw [if_neg (by omega), ih, if_neg (by omega)]
      exact h.rest _ (by omega)
    show (((s.cutTo [] k).crashAt k (([] : List (List Bool)).getD k [])).come k).pos q = _
    rw [come_none hc]
    show (if q = k * 3 then ((s.cutTo [] k).pos (k * 3)).map (·.crash (([] : List (List Bool)).getD k [])) else (s.cutTo [] k).pos q) = _
    by_cases hq : q = k * 3
    · subst hq
      rw [if_pos rfl, if_pos (by omega), ih, if_neg (by omega)]
      rfl
    · rw [if_neg hq, ih]
      by_cases h3 : q % 3 = 0 ∧ q / 3 < k
      · rw [if_pos h3, if_pos (by omega)]
      · rw [if_neg h3, if_neg (by omega)]

theorem cut_calm {s : BaySt} {sz : Nat → Nat} (h : CalmBay s sz) : CutOff s (s.cut []) sz := by
  have hn : (s.cut []).n = s.n := cutTo_n s [] s.n
  have hp : ∀ q, (s.cut []).pos q = if q % 3 = 0 ∧ q / 3 < s.n then (s.pos q).map (·.crash []) else s.pos q := cutTo_calm h s.n (Nat.le_refl _)
  have hk : ∀ k, k < s.n → ∀ x, s.pos (k * 3) = some x → (s.cut []).pos (k * 3) = some ⟨⟨x.d.last, [], x.d.failed⟩, x.worn, x.left⟩ := fun k hkn x hx => by
    rw [hp, if_pos (by omega), hx]
    show some (x.crash []) = _
    unfold Dev.crash
    rw [crash_nil]
  refine ⟨⟨rfl, rfl, fun k hk' => ?_, fun q hq => ?_⟩, hn, fun m q hq x hx => ?_, cutTo_cnt s [] s.n, fun j q hj hd => ?_, fun j hj => ?_⟩
  · rw [hn] at hk'
    obtain ⟨x, h1, h2⟩ := h.dev k hk'
    exact ⟨_, hk k hk' x h1, h2.worn, h2.failed, h2.len, h2.secs, fun y hy => (by cases hy), fun y hy => (by cases hy)⟩
  · rw [hp, if_neg (by omega)]
    exact h.rest q hq
  · rw [hp] at hx
    rw [hn] at hq
    by_cases h3 : q % 3 = 0
    · rw [if_pos (by omega)] at hx
      cases hy : s.pos q with
      | none => rw [hy] at hx; cases hx
      | some y =>
        rw [hy] at hx
        simp only [Option.map_some, Option.some.injEq] at hx
        subst hx
        show 0 ≤ m
        omega
    · rw [if_neg (by omega), h.rest q h3] at hx
      cases hx
  · obtain ⟨x, h1, h2⟩ := hd
    rw [sec_some (hk j hj x h1), sec_some h1]
    unfold Dsk.cur
    rw [h2]
  · obtain ⟨x, h1, h2⟩ := h.dev j hj
    exact ⟨_, hk j hj x h1, rfl⟩

/-- A bay of new disks. -/
theorem fresh_calm (l : List Nat) (hl : ∀ x ∈ l, 0 < x) : CalmBay (freshBay l l.length) (fun k => l.getD k 0) := by
  refine ⟨rfl, rfl, fun k hk => ?_, fun q hq => if_neg (fun e => hq e.1)⟩
  have hk' : k < l.length := hk
  have h0 : 0 < l.getD k 0 := by rw [List.getD_eq_getElem?_getD, List.getElem?_eq_getElem hk']; exact hl _ (List.getElem_mem hk')
  refine ⟨⟨freshDsk (l.getD k 0), false, 0⟩, ?_, rfl, rfl, ?_, fun s hs => ?_, fun y hy => (by cases hy), fun y hy => (by cases hy)⟩
  · show (if k * 3 % 3 = 0 ∧ k * 3 / 3 < l.length ∧ 0 < l.getD (k * 3 / 3) 0 then some (⟨freshDsk (l.getD (k * 3 / 3) 0), false, 0⟩ : Dev) else none) = _
    rw [show k * 3 / 3 = k by omega, if_pos ⟨by omega, hk', h0⟩]
  · show (List.replicate _ zsec).length = _
    rw [List.length_replicate]
  · obtain rfl := List.eq_of_mem_replicate (show s ∈ List.replicate _ zsec from hs)
    simp [zsec]
theorem fresh_sec (l : List Nat) (k z : Nat) (hk : k < l.length) (h0 : 0 < l.getD k 0) : (freshBay l l.length).sec k z = zsec := by
  have : (freshBay l l.length).pos (k * 3) = some ⟨freshDsk (l.getD k 0), false, 0⟩ := by
    show (if k * 3 % 3 = 0 ∧ k * 3 / 3 < l.length ∧ 0 < l.getD (k * 3 / 3) 0 then some (⟨freshDsk (l.getD (k * 3 / 3) 0), false, 0⟩ : Dev) else none) = _
    rw [show k * 3 / 3 = k by omega, if_pos ⟨by omega, hk, h0⟩]
  rw [sec_some this]
  unfold Dsk.cur
  show ((waits [] z).getD ((List.replicate _ zsec).getD z zsec)) = zsec
  rw [waits_nil, Option.getD_none, List.getD_eq_getElem?_getD, List.getElem?_replicate]
  split <;> rfl
theorem fresh_small (l : List Nat) (m : Nat) : (freshBay l l.length).small m := fun q hq x hx => by
  change (if q % 3 = 0 ∧ q / 3 < l.length ∧ 0 < l.getD (q / 3) 0 then some (⟨freshDsk (l.getD (q / 3) 0), false, 0⟩ : Dev) else none) = some x at hx
  split at hx
  · simp only [Option.some.injEq] at hx
    subst hx
    show 0 ≤ m
    omega
  · cases hx

end Go.Proofs.YtleicmmbaacbmaaGreat
