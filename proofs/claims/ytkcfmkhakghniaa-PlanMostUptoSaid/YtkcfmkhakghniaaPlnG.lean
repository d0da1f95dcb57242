/- The library's sort of patches by their members; the sorted keys of a map from numbers. -/
import Derived.Test.YtkcfmkhakghniaaPlnE
import Derived.Test.YtkcfmkhakghniaaLay
set_option linter.unusedVariables false
namespace Go.Proofs.Ytkcfmkhakghniaa
open Go.RowKit Go.Sort

/-- A patch's cells, its member being small. -/
abbrev SP := Fin 64 × Int × Option Addr × Nat × Nat
def encSP (x : SP) : List Value := [.int .i64 (x.1.val : Int), .int .i64 x.2.1, .slice x.2.2.1 x.2.2.2.1 x.2.2.2.2]
def cmpSP (x y : SP) : Int := (x.1.val : Int) - (y.1.val : Int)

set_option maxHeartbeats 1000000 in
theorem work_cmp (x y : SP) (W : World) : Calls Try.prog 72 #[.agg (encSP x).toArray, .agg (encSP y).toArray] W fun e w' => e = .returned (.int .i64 (cmpSP x y)) ∧ ∃ q os', w' = Go.Sort.grow (W.drewN q) os' := by
  obtain ⟨⟨a, ha⟩, b, c⟩ := x
  obtain ⟨⟨a', ha'⟩, b', c'⟩ := y
  unfold encSP cmpSP
  obtain ⟨c0, c1, c2⟩ := c
  obtain ⟨c0', c1', c2'⟩ := c'
  simp only
  go_enter Try.func72, Try.ntmps72
  go_wp2
  go_ret
  exact ⟨by go_num, 0, _, by rw [alloc_eq_grow, alloc_eq_grow, grow_grow]; rfl⟩

theorem swoSP : SWO (ltOf cmpSP) where
  irrefl x := by unfold ltOf cmpSP; simp
  trans x y z h1 h2 := by unfold ltOf cmpSP at *; simp at *; omega
  ntrans x y z h1 h2 := by unfold ltOf cmpSP at *; simp at *; omega

theorem elemsSP_at (d : Array SP) (i c : Nat) (hi : i < d.size) (hc : c < 3) : (elems (fun j => encSP d[j]!) d.size)[i * 3 + c]? = (encSP d[i]!)[c]? :=
  elems_at (sz := 3) (fun k => rfl) d.size i c hi hc

theorem elemsSP_flat (d : Array SP) (t : Nat) (ht : t < d.size * 3) : (elems (fun j => encSP d[j]!) d.size)[t]? = some (flatK encSP 3 d)[t]! := by
  have h1 : t / 3 < d.size := by omega
  have h2 : t % 3 < 3 := by omega
  have := elemsSP_at d (t / 3) (t % 3) h1 h2
  rw [show t / 3 * 3 + t % 3 = t by omega] at this
  rw [this, get_flatK _ _ _ _ ht]
  have hl : t % 3 < (encSP d[t / 3]!).length := h2
  rw [List.getElem?_eq_getElem hl, getElem!_pos (encSP d[t / 3]!) (t % 3) hl]

set_option maxRecDepth 100000 in
set_option maxHeartbeats 2000000 in
/-- The sort of patches by their members. -/
theorem sort_pats (g cap B : Nat) (d : Array SP) (w : World) (h : w.ownsRow B 69 3 (.slice (some ⟨g, 0, none⟩) d.size cap) d.size (elems (fun j => encSP d[j]!) d.size)) (hsz : d.size ≤ 100000) :
    Calls Try.prog 71 #[.slice (some ⟨g, 0, none⟩) d.size cap, .func (.func 72) #[] #[]] w fun e w' => e = .returned (.tuple #[]) ∧
      ∃ d' : Array SP, d'.size = d.size ∧ d'.toList.Perm d.toList ∧ (∀ i j, i < j → j < d.size → d'[i]!.1.val ≤ d'[j]!.1.val) ∧
        w'.ownsRow B 69 3 (.slice (some ⟨g, 0, none⟩) d.size cap) d.size (elems (fun j => encSP d'[j]!) d.size) ∧ Chg (fun q => q = g) w w' := by
  have eg : ∀ args w, (callFunc 72 args).run Try.prog w = .ok (.enter 72 args) w := enters_of Try.func72 (by kernel_rfl) rfl
  have hown := h
  obtain ⟨hl, hh⟩ := h
  rcases hh with ⟨hh, _⟩ | ⟨g', cap', cur, hv, hB, hg, hc1, hc2, hs, ht⟩
  · cases hh
  simp only [Value.slice.injEq, Option.some.injEq, Addr.mk.injEq, true_and] at hv
  obtain ⟨⟨rfl, -⟩, rfl⟩ := hv
  have hglt : g < w.heap.size := lt_of_block hg
  have hH : HoldsK encSP 3 w g 0 d := by
    intro t ht'
    rw [size_flatK] at ht'
    have e := elemsSP_flat d t ht'
    have := hown.cells (g := g) rfl t _ e
    rw [Go.WideShapes.add_plain] at this
    exact ⟨this, by simp [World.frozen?, hg]⟩
  have hcon := AnyQ.slices_SortFunc Try.sortPatch 3 Try.isAgg69 Try.sizeOf69 encSP (fun _ => rfl) (fun x v hv => by simp [encSP] at hv; rcases hv with rfl | rfl | rfl <;> rfl) cmpSP swoSP 72 #[] g 0 cap d w eg (fun _ _ _ _ x y => work_cmp x y _) hH hglt (by omega)
  change Calls Try.prog 71 _ _ _ at hcon
  refine hcon.mono fun e w' ⟨he, d', n, os, hp, hsd, hw⟩ => ⟨he, d', hp.1, ?_, fun i j hij hj => ?_, ?_, ?_⟩
  · obtain ⟨h1, h2, h3⟩ := hp
    have e1 : d'.extract 0 d.size = d' := by rw [← h1]; simp
    have e2 : d.extract 0 d.size = d := by simp
    rw [e1, e2] at h3
    exact h3
  · have := hsd i j (Nat.zero_le _) hij hj
    unfold ltOf cmpSP at this
    simp at this
    omega
  · subst hw
    have hd := hp.1
    have hb : (sortWorldK encSP 3 w g 0 n d' os).heap[g]? = some (.cells (putCells id 0 (flatK encSP 3 d') cur) 69 (0, 0)) := by
      unfold sortWorldK
      rw [heap_grow_old _ _ (by unfold putRowK; simpa [putRow, mapBlock, Sort.ahead] using hglt)]
      simp [putRowK, putRow, mapBlock, Sort.ahead, Array.getElem?_modify, hg, onCells]
    refine ⟨by rw [elems_length (sz := 3) (fun k => rfl)], .inr ⟨g, cap, _, rfl, hB, hb, hc1, hc2, by simp [putCells, hs], ?_⟩⟩
    apply List.ext_getElem?
    intro t
    by_cases ht3 : t < d.size * 3
    · rw [List.getElem?_take_of_lt ht3, Array.getElem?_toList]
      have hcur : t < cur.size := by
        have := Nat.mul_le_mul_right 3 hc1
        omega
      have e := elemsSP_flat d' t (by rw [hd]; exact ht3)
      rw [hd] at e
      rw [e]
      simp [putCells, hcur, hd, ht3]
    · rw [List.getElem?_eq_none (by simp; omega), List.getElem?_eq_none (by rw [elems_length (sz := 3) (fun k => rfl)]; omega)]
  · subst hw
    refine ⟨rfl, rfl, rfl, ?_, fun q hq hne => ?_⟩
    · unfold sortWorldK putRowK
      simp [Go.Sort.grow, putRow, mapBlock, Sort.ahead]
    · unfold sortWorldK
      rw [heap_grow_old _ _ (by unfold putRowK; simpa [putRow, mapBlock, Sort.ahead] using hq)]
      simp [putRowK, putRow, mapBlock, Sort.ahead, Array.getElem?_modify, Ne.symm hne]

end Go.Proofs.Ytkcfmkhakghniaa
