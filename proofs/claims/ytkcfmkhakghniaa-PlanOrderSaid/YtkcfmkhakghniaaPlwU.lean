/- Batches of the call's own: rows of blocks to be put, whose bytes an argument has. No program in sight. -/
import Derived.Test.YtkcfmkhakghniaaPlwP
set_option linter.unusedVariables false
namespace Go.Proofs.Ytkcfmkhakghniaa
open Go.RowKit

theorem slice_puts : SliceOf Try.prog 57 60 2 32 := SliceOf.mk' (z := .agg #[.int .i64 0, .slice none 0 0]) Try.underlying57 (by decide) (by kernel_rfl) rfl
theorem new_two (W : World) (x y : Value) (t : TypeId) (ad : Addr) (had : ad = ⟨W.heap.size, 0, none⟩) : ∀ j u, [x, y][j]? = some u → (W.alloc (.cells #[x, y] t)).cell? (ad.add j) = some u := by
  intro j u hj
  subst had
  rw [Go.WideShapes.add_plain, Nat.zero_add, (At.new W #[x, y] t).cell j, List.getElem?_toArray]
  exact hj
theorem own_cell2 {w : World} {B g n c : Nat} {e : TypeId} {f : Nat → List Value} (h : w.ownsRow B e 2 (.slice (some ⟨g, 0, none⟩) n c) n (elems f n)) (hf : ∀ k, (f k).length = 2) (j i : Nat) (hj : j < n) (hi : i < 2) : w.cell? ⟨g, j * 2 + i, none⟩ = (f j)[i]? := by
  have hx := elems_at hf n j i hj hi
  have hlen : i < (f j).length := by rw [hf]; exact hi
  rw [List.getElem?_eq_getElem hlen] at hx ⊢
  have := h.cells (g := g) rfl (j * 2 + i) _ hx
  rw [Go.WideShapes.add_plain, Nat.zero_add] at this
  exact this

/-- What is put: where its bytes lie; the block, the bytes. -/
abbrev OU := Value × Int × List UInt8
def ou0 : OU := (.slice none 0 0, 0, [])
def ouCells (x : OU) : List Value := [.int .i64 x.2.1, x.1]
def ouRow (Y : List OU) : List Value := elems (fun i => ouCells (Y.getD i ou0)) Y.length

structure URow (w0 w : World) (v : Value) (Y : List OU) : Prop where
  row : w.ownsRow w0.heap.size 60 2 v Y.length (ouRow Y)
  dat : ∀ x ∈ Y, Seg w0 x.1 x.2.2

theorem URow.nil (w0 w : World) : URow w0 w (.slice none 0 0) [] := ⟨World.ownsRow_nil _ _ _ _, fun x hx => by simp at hx⟩
theorem URow.mod {S : Nat → Prop} {w0 w w' : World} {v : Value} {Y : List OU} (h : URow w0 w v Y) (hc : Chg S w w') (h1 : ∀ g, v.ownBlock = some g → ¬ S g) : URow w0 w' v Y := ⟨ownsRow_mod h.row hc h1, h.dat⟩
theorem URow.below {w0 w w' : World} {v : Value} {Y : List OU} (h : URow w0 w v Y) (hb : Below w.heap.size w w') : URow w0 w' v Y := ⟨ownsRow_below h.row hb (Nat.le_refl _), h.dat⟩

theorem ouRow_at (Y : List OU) (j i : Nat) (hj : j < Y.length) (hi : i < 2) : (ouRow Y)[j * 2 + i]? = (ouCells (Y[j]'hj))[i]? := by
  unfold ouRow
  rw [elems_at (sz := 2) (fun k => rfl) Y.length j i hj hi, List.getD_eq_getElem?_getD, List.getElem?_eq_getElem hj]
  rfl
theorem ouRow_len (Y : List OU) : (ouRow Y).length = Y.length * 2 := elems_length (sz := 2) (fun k => rfl) _
theorem ouRow_app (Y Z : List OU) : ouRow (Y ++ Z) = ouRow Y ++ ouRow Z := by
  refine List.ext_getElem? fun q => ?_
  by_cases hq : q < (Y.length + Z.length) * 2
  · have hq2 : q / 2 < Y.length + Z.length := by omega
    have e : q = q / 2 * 2 + q % 2 := by omega
    by_cases h1 : q / 2 < Y.length
    · rw [List.getElem?_append_left (by rw [ouRow_len]; omega), e, ouRow_at _ _ _ (by rw [List.length_append]; exact hq2) (by omega), ouRow_at _ _ _ h1 (by omega), List.getElem_append_left h1]
    · have e3 : q - Y.length * 2 = (q / 2 - Y.length) * 2 + q % 2 := by omega
      rw [List.getElem?_append_right (by rw [ouRow_len]; omega), ouRow_len, e3, ouRow_at Z _ _ (by omega) (by omega)]
      conv => lhs; rw [e]
      rw [ouRow_at _ _ _ (by rw [List.length_append]; exact hq2) (by omega), List.getElem_append_right (by omega)]
  · rw [List.getElem?_eq_none (by rw [ouRow_len, List.length_append]; omega), List.getElem?_eq_none (by rw [List.length_append, ouRow_len, ouRow_len]; omega)]
theorem ouRow_one (x : OU) : ouRow [x] = ouCells x := by
  unfold ouRow elems
  simp

theorem URow.pseg {w0 w : World} {v : Value} {Y : List OU} {us : List (Int × List UInt8)} (h : URow w0 w v Y) (hb : Below w0.heap.size w0 w) (hf : Y.length ≤ 1000) (hm : ∀ y ∈ Y, y.2 ∈ us) (hl : ∀ u ∈ us, u.2.length ≤ 140737488355000) : PutSeg w v (Y.map (·.2)) := by
  obtain ⟨a, c, rfl⟩ := ownsRow_shape h.row
  refine ⟨a, c, by rw [List.length_map], by rw [List.length_map]; omega, fun p hp => ?_, ?_⟩
  · obtain ⟨y, hy, rfl⟩ := List.mem_map.1 hp
    exact hl _ (hm y hy)
  · by_cases hl : Y.length = 0
    · left
      rw [List.eq_nil_of_length_eq_zero hl]
      rfl
    · obtain ⟨g, cap, hv, hB, hg⟩ := ownsRow_full h.row (by omega)
      simp only [Value.slice.injEq] at hv
      obtain ⟨rfl, -, rfl⟩ := hv
      refine .inr ⟨g, 0, rfl, hg, fun j hj => ?_⟩
      rw [List.length_map] at hj
      have e : Y.getD j ou0 = Y[j] := by rw [List.getD_eq_getElem?_getD, List.getElem?_eq_getElem hj]; rfl
      have hr := h.row
      unfold ouRow at hr
      have c0 := own_cell2 hr (fun k => rfl) j 0 hj (by omega)
      have c1 := own_cell2 hr (fun k => rfl) j 1 hj (by omega)
      rw [e] at c0 c1
      rw [Nat.zero_add, List.getElem_map]
      exact ⟨by rw [show j * 2 = j * 2 + 0 by omega, c0]; rfl, _, by rw [c1]; rfl, (h.dat _ (List.getElem_mem hj)).below hb⟩

/-- Only the blocks before the last one count. -/
def hasTo (Y : List OU) (b : Int) (k : Nat) : Bool := (Y.take k).any fun y => decide (y.2.1 = b)
theorem hasTo_zero (Y : List OU) (b : Int) : hasTo Y b 0 = false := by simp [hasTo]
theorem hasTo_step (Y : List OU) (b : Int) (k : Nat) (hk : k < Y.length) : hasTo Y b (k + 1) = (hasTo Y b k || decide ((Y[k]'hk).2.1 = b)) := by
  unfold hasTo
  rw [List.take_succ_eq_append_getElem hk, List.any_append]
  simp
theorem hasTo_none {Y : List OU} {b : Int} (h : hasTo Y b Y.length = false) : ∀ y ∈ Y, y.2.1 ≠ b := by
  unfold hasTo at h
  rw [List.take_length, List.any_eq_false] at h
  intro y hy
  simpa using h y hy
theorem unlike_snoc {Y : List OU} {x : OU} (h : Unlike (Y.map (·.2))) (hx : ∀ y ∈ Y, y.2.1 ≠ x.2.1) : Unlike ((Y ++ [x]).map (·.2)) := by
  unfold Unlike at h ⊢
  rw [List.map_append, List.pairwise_append]
  refine ⟨h, List.pairwise_singleton _ _, fun a ha b hb => ?_⟩
  obtain ⟨y, hy, rfl⟩ := List.mem_map.1 ha
  obtain rfl : b = x.2 := by simpa using hb
  exact hx y hy
theorem unlike_rev {us : List (Int × List UInt8)} (h : Unlike us) : Unlike us.reverse := by
  unfold Unlike at h ⊢
  rw [List.pairwise_reverse]
  exact h.imp fun {a b} h e => h e.symm

theorem splitCode_rev (m c s : Int) (us : List (Int × List UInt8)) : splitCode m c s us.reverse = splitCode m c s us := by
  unfold splitCode
  rw [List.length_reverse, List.any_reverse, List.any_reverse]

/-- Both orders make the same rows. -/
theorem split_order {M C S : Nat} {us : List (Int × List UInt8)} {L L' : List (Value × List OP)} (ok : BatchOk M C S us) (hu : Unlike us) (h : SplitIs M C S us L) (h' : SplitIs M C S us.reverse L') : L.map (fun x => x.2.map (·.1)) = L'.map (fun x => x.2.map (·.1)) := by
  unfold SplitIs at h h'
  rw [h, h']
  have e : tabAll M C us = tabAll M C us.reverse := tab_order ok.hg ok.there hu (unlike_rev hu) fun u => List.mem_reverse.symm
  rw [e]

theorem firstSum_le' (L : List (Value × List OP)) (k : Nat) (hk : k ≤ L.length) : firstSum L k ≤ firstSum L L.length := by
  unfold firstSum
  rw [List.take_length]
  have e : L.map (fun x => x.2.length) = (L.take k).map (fun x => x.2.length) ++ (L.drop k).map (fun x => x.2.length) := by rw [← List.map_append, List.take_append_drop]
  rw [e, List.sum_append]
  omega
/-- All patches together. -/
theorem split_count {M C S : Nat} {us : List (Int × List UInt8)} {L : List (Value × List OP)} (ok : BatchOk M C S us) (hu : Unlike us) (h : SplitIs M C S us L) : firstSum L L.length = us.length := by
  have h1 := split_most h
  have h2 := congrArg List.length h
  rw [List.length_map, List.length_map] at h2
  unfold mostIn at h1
  rw [cells_sum] at h1
  have h3 : cellsIn M (S * C) (tabAll M C us) = us.length := cells_unlike ok.hg ok.there hu (Nat.le_refl _)
  omega

/-- Each patch is a block, in its place. -/
theorem split_patch {M C S : Nat} {us : List (Int × List UInt8)} {L : List (Value × List OP)} (ok : BatchOk M C S us) (hu : Unlike us) (h : SplitIs M C S us L) {x : Value × List OP} (hx : x ∈ L) {p : Pat} (hp : p ∈ x.2.map (·.1)) :
    ∃ r m : Nat, p.r = (r : Int) ∧ p.m = (m : Int) ∧ r < S * C ∧ m < M ∧ m ≠ parOf M C r ∧ p.d.length = 128 ∧ ∃ u ∈ us, u.1 = ((blockAt M C m r : Nat) : Int) ∧ u.2 = p.d := by
  unfold SplitIs at h
  have h1 : x.2.map (·.1) ∈ L.map fun x => x.2.map (·.1) := List.mem_map_of_mem hx
  rw [h] at h1
  obtain ⟨r, hr, e⟩ := List.mem_map.1 h1
  rw [← e] at hp
  obtain ⟨m, hm, rfl⟩ := List.mem_map.1 hp
  obtain ⟨hm1, hm2⟩ := which_mem.1 hm
  obtain ⟨hr1, hr2⟩ := which_mem.1 hr
  obtain ⟨d, hd⟩ := Option.isSome_iff_exists.1 hm2
  obtain ⟨u, hu1, hu2, hu3, hu4⟩ := (tab_iff ok.hg ok.there hu).1 hd
  obtain ⟨n, hn, hn2⟩ := there_nat (ok.there _ hu1) ok.hg
  rw [hn] at hu2 hu3
  have e1 : m = membOf M C n := by simpa using Int.ofNat_inj.1 hu3
  have e2 : r = rowOf M C n := by simpa using Int.ofNat_inj.1 hu2
  refine ⟨r, m, rfl, rfl, hr1, hm1, ?_, ?_, u, hu1, ?_, ?_⟩
  · rw [e1, e2]; exact not_par ok.hg hn2
  · show ((tabAll M C us (r : Int) (m : Int)).getD []).length = 128
    rw [hd, Option.getD_some, hu4]
    exact ok.len _ hu1
  · rw [e1, e2, block_at ok.hg hn2, hn]
  · show u.2 = (tabAll M C us (r : Int) (m : Int)).getD []
    rw [hd, Option.getD_some, hu4]

/-- Is a block among those that are put, with such bytes? -/
def foundTo (us : List (Int × List UInt8)) (b : Int) (d : List UInt8) (k : Nat) : Bool := (us.take k).any fun u => decide (u.1 = b ∧ u.2 = d)
theorem foundTo_zero (us : List (Int × List UInt8)) (b : Int) (d : List UInt8) : foundTo us b d 0 = false := by simp [foundTo]
theorem foundTo_step (us : List (Int × List UInt8)) (b : Int) (d : List UInt8) (k : Nat) (hk : k < us.length) : foundTo us b d (k + 1) = (foundTo us b d k || decide ((us[k]'hk).1 = b ∧ (us[k]'hk).2 = d)) := by
  unfold foundTo
  rw [List.take_succ_eq_append_getElem hk, List.any_append]
  simp
theorem foundTo_all {us : List (Int × List UInt8)} {b : Int} {d : List UInt8} (h : ∃ u ∈ us, u.1 = b ∧ u.2 = d) : foundTo us b d us.length = true := by
  unfold foundTo
  rw [List.take_length, List.any_eq_true]
  obtain ⟨u, h1, h2⟩ := h
  exact ⟨u, h1, decide_eq_true h2⟩

end Go.Proofs.Ytkcfmkhakghniaa
