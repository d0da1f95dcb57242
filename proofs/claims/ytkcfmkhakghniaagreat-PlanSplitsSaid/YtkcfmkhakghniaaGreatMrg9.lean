/- Several texts in one: PlzA, PlwU. -/
import Derived.Test.YtkcfmkhakghniaaGreatMrg8
import Derived.Test.YtkcfmkhakghniaaGreatMrg4
import Derived.Test.YtkcfmkhakghniaaGreatDiskB
import Derived.Test.YtkcfmkhakghniaaGreatPlwP
/- What is lent: bytes, with marks behind; whole; spoilt. -/
set_option linter.unusedVariables false
namespace Go.Proofs.YtkcfmkhakghniaaGreat
open Go.RowKit

def lentCells (l : List UInt8) : Array Value := (ucells l ++ [Value.int .u8 91, Value.int .u8 92]).toArray

/-- Such a slice, lent, in a block from lo on: its two marks stand behind. -/
def Lent (w : World) (lo : Nat) (v : Value) (l : List UInt8) : Prop := ∃ g, lo ≤ g ∧ v = .slice (some ⟨g, 0, none⟩) l.length (l.length + 2) ∧ At w g (lentCells l) 5

theorem Lent.seg {w : World} {lo : Nat} {v : Value} {l : List UInt8} (h : Lent w lo v l) : Seg w v l := by
  obtain ⟨g, -, rfl, h⟩ := h
  refine ⟨_, _, rfl, ⟨fun h => by simp at h, by omega⟩, .inr ⟨g, 0, rfl, h.lt, fun j hj => ?_⟩⟩
  rw [h.cell (0 + j), Nat.zero_add]
  simp [lentCells, ucells, List.getElem?_append, hj]
theorem Lent.below {w w' : World} {lo : Nat} {v : Value} {l : List UInt8} (h : Lent w lo v l) (hb : Below w.heap.size w w') : Lent w' lo v l := by
  obtain ⟨g, hg, rfl, h⟩ := h
  exact ⟨g, hg, rfl, h.below hb h.lt⟩
theorem Lent.mod {S : Nat → Prop} {w w' : World} {lo : Nat} {v : Value} {l : List UInt8} (h : Lent w lo v l) (hc : Chg S w w') (hS : ∀ g, v.ownBlock = some g → ¬ S g) : Lent w' lo v l := by
  obtain ⟨g, hg, rfl, h⟩ := h
  exact ⟨g, hg, rfl, h.mod hc (hS g rfl)⟩
theorem Lent.lower {w : World} {lo lo' : Nat} {v : Value} {l : List UInt8} (h : Lent w lo v l) (hl : lo' ≤ lo) : Lent w lo' v l := by
  obtain ⟨g, hg, rfl, h⟩ := h
  exact ⟨g, Nat.le_trans hl hg, rfl, h⟩
theorem Lent.block {w : World} {lo : Nat} {v : Value} {l : List UInt8} (h : Lent w lo v l) {g : Nat} (hv : v.ownBlock = some g) : ∃ cs, At w g cs 5 := by
  obtain ⟨g', hg, rfl, h⟩ := h
  obtain rfl : g' = g := by simpa [Value.ownBlock] using hv
  exact ⟨_, h⟩
theorem lentCells_mark (l : List UInt8) : (lentCells l)[l.length]? = some (.int .u8 91) ∧ (lentCells l)[l.length + 1]? = some (.int .u8 92) := by
  constructor <;> simp [lentCells, ucells]
theorem lentCells_size (l : List UInt8) : (lentCells l).size = l.length + 2 := by simp [lentCells, ucells]

set_option maxRecDepth 100000 in
set_option maxHeartbeats 1000000 in
theorem lent_bytes (v : Value) (l : List UInt8) (w : World) (hl : l.length ≤ 140737488355000) (hv : Seg w v l) :
    Calls Tryz.prog 92 #[v] w fun e w' => e = .returned (.slice (some ⟨w.heap.size, 0, none⟩) l.length (l.length + 2)) ∧ At w' w.heap.size (lentCells l) 5 ∧ Below w.heap.size w w' := by
  obtain ⟨ao, cap, rfl, hv'⟩ := id hv
  clear hv'
  go_enter Tryz.func92, Tryz.ntmps92
  go_wp2_with (first
    | (refine wpList_make_room rfl _ _ 53 5 1 1 rfl slice_bytes _ _ _ (l.length + 2) rfl rfl (by omega) (by omega) (by unfold maxLen; omega) ?_; intro w1 hown1 hb1 hlt1; have HC := Lib.hid (hv.below hb1).cells; clear hv)
    | (refine wpList_append_room rfl _ _ 53 5 1 1 rfl slice_bytes w.heap.size w.heap.size 0 (l.length + 2) [] rfl hown1 ao l.length cap (ucells l) rfl (by rw [ucells_length, Nat.mul_one]) HC.out.2.1 HC.out.2.2 (ucells_one l) (by omega) ?_; intro w2 hown2 hb2; rw [Nat.zero_add, List.nil_append] at hown2)
    | (refine wpList_append_room rfl _ _ 53 5 1 1 rfl slice_bytes w.heap.size w.heap.size l.length (l.length + 2) (ucells l) rfl (hown2.alloc _) _ 2 2 [Value.int .u8 91, Value.int .u8 92] rfl rfl (by intro h; cases h) (fun ad h => by cases h; exact cell_two_new _ _ _ _) (by simp; exact ⟨rfl, rfl⟩) (Nat.le_refl _) ?_; intro w3 hown3 hb3))
  go_ret
  exact ⟨rfl, at_of_owns hown3, ((hb1.trans hb2).alloc (Nat.le_trans hb1.size hb2.size) _).trans hb3⟩

set_option maxRecDepth 100000 in
set_option maxHeartbeats 1000000 in
theorem whole_bytes (lo : Nat) (u v : Value) (l : List UInt8) (w : World) (hl : l.length ≤ 140737488355000) (hu : Lent w lo u l) (hv : Seg w v l) :
    Calls Tryz.prog 99 #[u, v] w fun e w' => e = .returned (.bool true) ∧ Below w.heap.size w w' := by
  have hcall : Hid (Calls Tryz.prog 18 #[u, v] w fun e w' => e = .returned (.bool true) ∧ Below w.heap.size w w') := (same_any u v l l w (by omega) (by omega) hu.seg hv).mono fun e w' ⟨x1, x2⟩ => ⟨by rw [x1]; simp, x2⟩
  obtain ⟨g, -, rfl, hat⟩ := hu
  have c1 := (hat.cell l.length).trans (lentCells_mark l).1
  have c2 := (hat.cell (l.length + 1)).trans (lentCells_mark l).2
  obtain ⟨b, d, rfl⟩ := hv.shape
  clear hv hat
  go_enter Tryz.func99, Tryz.ntmps99
  go_wp2_with (go_at_call 18; refine hcall.out.mono ?_; rintro e w' ⟨rfl, hb1⟩)
  go_ret
  exact ⟨rfl, hb1⟩

set_option maxRecDepth 100000 in
set_option maxHeartbeats 1000000 in
theorem spoil_bytes (g n c : Nat) (cs : Array Value) (w : World) (hc : c ≤ 140737488355328) (hn : n ≤ c) (hat : At w g cs 5) (hs : cs.size = c) :
    Calls Tryz.prog 100 #[.slice (some ⟨g, 0, none⟩) n c] w fun e w' => e = .returned (.tuple #[]) ∧ Chg (fun k => k = g) w w' ∧ ∃ cs', At w' g cs' 5 ∧ cs'.size = c := by
  have HA := Lib.hid hat
  clear hat
  go_enter Tryz.func100, Tryz.ntmps100
  go_wp2
  go_loopw [3] (fun q wx => ∃ k : Nat, k ≤ c ∧ q = .int .i64 k ∧ Chg (fun z => z = g) w wx ∧ ∃ cs', At wx g cs' 5 ∧ cs'.size = c) (fun q _ => c - (intOf q).toNat)
  case atStart => exact ⟨0, by omega, rfl, Chg.refl _ _, cs, HA.out, hs⟩
  case round =>
    obtain ⟨k, hk, rfl, hch, cs', hat, hs'⟩ := hrel
    have HC := Lib.hid hch
    have HA' := Lib.hid hat
    have HS' := Lib.hid hs'
    clear HA hs hch hs'
    by_cases hkc : k < c
    · have K1 : Hid (k + 1 ≤ c) := hkc
      have f0 := hat.free k
      obtain ⟨u, d0⟩ : ∃ u, wr.cell? ⟨g, k, none⟩ = some u := ⟨_, (hat.cell k).trans (Array.getElem?_eq_getElem (by rw [HS'.out]; exact hkc))⟩
      clear hat
      go_wp2
      go_roundw
      case measure => simp [intOf]; omega
      exact ⟨k + 1, K1.out, by go_num, HC.out.trans (Chg.setCell (S := fun z => z = g) (Chg.refl _ _) ⟨g, k, none⟩ (.inl rfl) _), _, HA'.out.set k _, by rw [Array.size_setIfInBounds]; exact HS'.out⟩
    · clear hat
      go_wp2
      go_end0
      exact ⟨rfl, HC.out, cs', HA'.out, HS'.out⟩

end Go.Proofs.YtkcfmkhakghniaaGreat

/- Batches of the call's own: rows of blocks to be put, whose bytes an argument has. No program in sight. -/
set_option linter.unusedVariables false
namespace Go.Proofs.YtkcfmkhakghniaaGreat
open Go.RowKit

theorem slice_puts : SliceOf Tryz.prog 68 167 2 32 := SliceOf.mk' (z := .agg #[.int .i64 0, .slice none 0 0]) Tryz.underlying68 (by decide) (by kernel_rfl) rfl
theorem new_two (W : World) (x y : Value) (t : TypeId) (ad : Addr) (had : ad = ⟨W.heap.size, 0, none⟩) : ∀ j u, [x, y][j]? = some u → (W.alloc (.cells #[x, y] t)).cell? (ad.add j) = some u := by
  intro j u hj
  subst had
  rw [Go.WideShapes.add_plain, Nat.zero_add, (At.new W #[x, y] t).cell j, List.getElem?_toArray]
  exact hj
theorem own_cell2 {w : World} {B g n c : Nat} {e : TypeId} {f : Nat → List Value} (h : w.ownsRow B e 2 (.slice (some ⟨g, 0, none⟩) n c) n (elems f n)) (hf : ∀ k, (f k).length = 2) (j i : Nat) (hj : j < n) (hi : i < 2) : w.cell? ⟨g, j * 2 + i, none⟩ = (f j)[i]? := by
  have hx := elems_at hf n j i hj hi
  have hlen : i < (f j).length := by rw [hf]; exact hi
  rw [List.getElem?_eq_getElem hlen] at hx ⊢
  have := h.cells (g := g) rfl (j * 2 + i) _ hx
  rw [Go.WideShapes.add_plain, Nat.zero_add] at this
  exact this

/-- What is put: where its bytes lie; the block, the bytes. -/
abbrev OU := Value × Int × List UInt8
def ou0 : OU := (.slice none 0 0, 0, [])
def ouCells (x : OU) : List Value := [.int .i64 x.2.1, x.1]
def ouRow (Y : List OU) : List Value := elems (fun i => ouCells (Y.getD i ou0)) Y.length

structure URow (w0 w : World) (v : Value) (Y : List OU) : Prop where
  row : w.ownsRow w0.heap.size 167 2 v Y.length (ouRow Y)
  dat : ∀ x ∈ Y, Seg w0 x.1 x.2.2

theorem URow.nil (w0 w : World) : URow w0 w (.slice none 0 0) [] := ⟨World.ownsRow_nil _ _ _ _, fun x hx => by simp at hx⟩
theorem URow.mod {S : Nat → Prop} {w0 w w' : World} {v : Value} {Y : List OU} (h : URow w0 w v Y) (hc : Chg S w w') (h1 : ∀ g, v.ownBlock = some g → ¬ S g) : URow w0 w' v Y := ⟨ownsRow_mod h.row hc h1, h.dat⟩
theorem URow.below {w0 w w' : World} {v : Value} {Y : List OU} (h : URow w0 w v Y) (hb : Below w.heap.size w w') : URow w0 w' v Y := ⟨ownsRow_below h.row hb (Nat.le_refl _), h.dat⟩

theorem ouRow_at (Y : List OU) (j i : Nat) (hj : j < Y.length) (hi : i < 2) : (ouRow Y)[j * 2 + i]? = (ouCells (Y[j]'hj))[i]? := by
  unfold ouRow
  rw [elems_at (sz := 2) (fun k => rfl) Y.length j i hj hi, List.getD_eq_getElem?_getD, List.getElem?_eq_getElem hj]
  rfl
theorem ouRow_len (Y : List OU) : (ouRow Y).length = Y.length * 2 := elems_length (sz := 2) (fun k => rfl) _
theorem ouRow_app (Y Z : List OU) : ouRow (Y ++ Z) = ouRow Y ++ ouRow Z := by
  refine List.ext_getElem? fun q => ?_
  by_cases hq : q < (Y.length + Z.length) * 2
  · have hq2 : q / 2 < Y.length + Z.length := by omega
    have e : q = q / 2 * 2 + q % 2 := by omega
    by_cases h1 : q / 2 < Y.length
    · rw [List.getElem?_append_left (by rw [ouRow_len]; omega), e, ouRow_at _ _ _ (by rw [List.length_append]; exact hq2) (by omega), ouRow_at _ _ _ h1 (by omega), List.getElem_append_left h1]
    · have e3 : q - Y.length * 2 = (q / 2 - Y.length) * 2 + q % 2 := by omega
      rw [List.getElem?_append_right (by rw [ouRow_len]; omega), ouRow_len, e3, ouRow_at Z _ _ (by omega) (by omega)]
      conv => lhs; rw [e]
      rw [ouRow_at _ _ _ (by rw [List.length_append]; exact hq2) (by omega), List.getElem_append_right (by omega)]
  · rw [List.getElem?_eq_none (by rw [ouRow_len, List.length_append]; omega), List.getElem?_eq_none (by rw [List.length_append, ouRow_len, ouRow_len]; omega)]
theorem ouRow_one (x : OU) : ouRow [x] = ouCells x := by
  unfold ouRow elems
  simp

theorem URow.pseg {w0 w : World} {v : Value} {Y : List OU} {us : List (Int × List UInt8)} (h : URow w0 w v Y) (hb : Below w0.heap.size w0 w) (hf : Y.length ≤ 1000) (hm : ∀ y ∈ Y, y.2 ∈ us) (hl : ∀ u ∈ us, u.2.length ≤ 140737488355000) : PutSeg w v (Y.map (·.2)) := by
  obtain ⟨a, c, rfl⟩ := ownsRow_shape h.row
  refine ⟨a, c, by rw [List.length_map], by rw [List.length_map]; omega, fun p hp => ?_, ?_⟩
  · obtain ⟨y, hy, rfl⟩ := List.mem_map.1 hp
    exact hl _ (hm y hy)
  · by_cases hl : Y.length = 0
    · left
      rw [List.eq_nil_of_length_eq_zero hl]
      rfl
    · obtain ⟨g, cap, hv, hB, hg⟩ := ownsRow_full h.row (by omega)
      simp only [Value.slice.injEq] at hv
      obtain ⟨rfl, -, rfl⟩ := hv
      refine .inr ⟨g, 0, rfl, hg, fun j hj => ?_⟩
      rw [List.length_map] at hj
      have e : Y.getD j ou0 = Y[j] := by rw [List.getD_eq_getElem?_getD, List.getElem?_eq_getElem hj]; rfl
      have hr := h.row
      unfold ouRow at hr
      have c0 := own_cell2 hr (fun k => rfl) j 0 hj (by omega)
      have c1 := own_cell2 hr (fun k => rfl) j 1 hj (by omega)
      rw [e] at c0 c1
      rw [Nat.zero_add, List.getElem_map]
      exact ⟨by rw [show j * 2 = j * 2 + 0 by omega, c0]; rfl, _, by rw [c1]; rfl, (h.dat _ (List.getElem_mem hj)).below hb⟩

/-- Only the blocks before the last one count. -/
def hasTo (Y : List OU) (b : Int) (k : Nat) : Bool := (Y.take k).any fun y => decide (y.2.1 = b)
theorem hasTo_zero (Y : List OU) (b : Int) : hasTo Y b 0 = false := by simp [hasTo]
theorem hasTo_step (Y : List OU) (b : Int) (k : Nat) (hk : k < Y.length) : hasTo Y b (k + 1) = (hasTo Y b k || decide ((Y[k]'hk).2.1 = b)) := by
  unfold hasTo
  rw [List.take_succ_eq_append_getElem hk, List.any_append]
  simp
theorem hasTo_none {Y : List OU} {b : Int} (h : hasTo Y b Y.length = false) : ∀ y ∈ Y, y.2.1 ≠ b := by
  unfold hasTo at h
  rw [List.take_length, List.any_eq_false] at h
  intro y hy
  simpa using h y hy
theorem unlike_snoc {Y : List OU} {x : OU} (h : Unlike (Y.map (·.2))) (hx : ∀ y ∈ Y, y.2.1 ≠ x.2.1) : Unlike ((Y ++ [x]).map (·.2)) := by
  unfold Unlike at h ⊢
  rw [List.map_append, List.pairwise_append]
  refine ⟨h, List.pairwise_singleton _ _, fun a ha b hb => ?_⟩
  obtain ⟨y, hy, rfl⟩ := List.mem_map.1 ha
  obtain rfl : b = x.2 := by simpa using hb
  exact hx y hy
theorem unlike_rev {us : List (Int × List UInt8)} (h : Unlike us) : Unlike us.reverse := by
  unfold Unlike at h ⊢
  rw [List.pairwise_reverse]
  exact h.imp fun {a b} h e => h e.symm

theorem splitCode_rev (m c s : Int) (us : List (Int × List UInt8)) : splitCode m c s us.reverse = splitCode m c s us := by
  unfold splitCode
  rw [List.length_reverse, List.any_reverse, List.any_reverse]

/-- Both orders make the same rows. -/
theorem split_order {M C S : Nat} {us : List (Int × List UInt8)} {L L' : List (Value × List OP)} (ok : BatchOk M C S us) (hu : Unlike us) (h : SplitIs M C S us L) (h' : SplitIs M C S us.reverse L') : L.map (fun x => x.2.map (·.1)) = L'.map (fun x => x.2.map (·.1)) := by
  unfold SplitIs at h h'
  rw [h, h']
  have e : tabAll M C us = tabAll M C us.reverse := tab_order ok.hg ok.there hu (unlike_rev hu) fun u => List.mem_reverse.symm
  rw [e]

theorem firstSum_le' (L : List (Value × List OP)) (k : Nat) (hk : k ≤ L.length) : firstSum L k ≤ firstSum L L.length := by
  unfold firstSum
  rw [List.take_length]
  have e : L.map (fun x => x.2.length) = (L.take k).map (fun x => x.2.length) ++ (L.drop k).map (fun x => x.2.length) := by rw [← List.map_append, List.take_append_drop]
  rw [e, List.sum_append]
  omega
/-- All patches together. -/
theorem split_count {M C S : Nat} {us : List (Int × List UInt8)} {L : List (Value × List OP)} (ok : BatchOk M C S us) (hu : Unlike us) (h : SplitIs M C S us L) : firstSum L L.length = us.length := by
  have h1 := split_most h
  have h2 := congrArg List.length h
  rw [List.length_map, List.length_map] at h2
  unfold mostIn at h1
  rw [cells_sum] at h1
  have h3 : cellsIn M (S * C) (tabAll M C us) = us.length := cells_unlike ok.hg ok.there hu (Nat.le_refl _)
  omega

/-- Each patch is a block, in its place. -/
theorem split_patch {M C S : Nat} {us : List (Int × List UInt8)} {L : List (Value × List OP)} (ok : BatchOk M C S us) (hu : Unlike us) (h : SplitIs M C S us L) {x : Value × List OP} (hx : x ∈ L) {p : Pat} (hp : p ∈ x.2.map (·.1)) :
    ∃ r m : Nat, p.r = (r : Int) ∧ p.m = (m : Int) ∧ r < S * C ∧ m < M ∧ m ≠ parOf M C r ∧ p.d.length = 128 ∧ ∃ u ∈ us, u.1 = ((blockAt M C m r : Nat) : Int) ∧ u.2 = p.d := by
  unfold SplitIs at h
  have h1 : x.2.map (·.1) ∈ L.map fun x => x.2.map (·.1) := List.mem_map_of_mem hx
  rw [h] at h1
  obtain ⟨r, hr, e⟩ := List.mem_map.1 h1
  rw [← e] at hp
  obtain ⟨m, hm, rfl⟩ := List.mem_map.1 hp
  obtain ⟨hm1, hm2⟩ := which_mem.1 hm
  obtain ⟨hr1, hr2⟩ := which_mem.1 hr
  obtain ⟨d, hd⟩ := Option.isSome_iff_exists.1 hm2
  obtain ⟨u, hu1, hu2, hu3, hu4⟩ := (tab_iff ok.hg ok.there hu).1 hd
  obtain ⟨n, hn, hn2⟩ := there_nat (ok.there _ hu1) ok.hg
  rw [hn] at hu2 hu3
  have e1 : m = membOf M C n := by simpa using Int.ofNat_inj.1 hu3
  have e2 : r = rowOf M C n := by simpa using Int.ofNat_inj.1 hu2
  refine ⟨r, m, rfl, rfl, hr1, hm1, ?_, ?_, u, hu1, ?_, ?_⟩
  · rw [e1, e2]; exact not_par ok.hg hn2
  · show ((tabAll M C us (r : Int) (m : Int)).getD []).length = 128
    rw [hd, Option.getD_some, hu4]
    exact ok.len _ hu1
  · rw [e1, e2, block_at ok.hg hn2, hn]
  · show u.2 = (tabAll M C us (r : Int) (m : Int)).getD []
    rw [hd, Option.getD_some, hu4]

/-- Is a block among those that are put, with such bytes? -/
def foundTo (us : List (Int × List UInt8)) (b : Int) (d : List UInt8) (k : Nat) : Bool := (us.take k).any fun u => decide (u.1 = b ∧ u.2 = d)
theorem foundTo_zero (us : List (Int × List UInt8)) (b : Int) (d : List UInt8) : foundTo us b d 0 = false := by simp [foundTo]
theorem foundTo_step (us : List (Int × List UInt8)) (b : Int) (d : List UInt8) (k : Nat) (hk : k < us.length) : foundTo us b d (k + 1) = (foundTo us b d k || decide ((us[k]'hk).1 = b ∧ (us[k]'hk).2 = d)) := by
  unfold foundTo
  rw [List.take_succ_eq_append_getElem hk, List.any_append]
  simp
theorem foundTo_all {us : List (Int × List UInt8)} {b : Int} {d : List UInt8} (h : ∃ u ∈ us, u.1 = b ∧ u.2 = d) : foundTo us b d us.length = true := by
  unfold foundTo
  rw [List.take_length, List.any_eq_true]
  obtain ⟨u, h1, h2⟩ := h
  exact ⟨u, h1, decide_eq_true h2⟩

end Go.Proofs.YtkcfmkhakghniaaGreat
