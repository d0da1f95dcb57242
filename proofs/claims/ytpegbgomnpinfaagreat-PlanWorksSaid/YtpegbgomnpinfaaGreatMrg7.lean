/- Several texts in one: PlnG, PlnH. -/
import Derived.Test.YtpegbgomnpinfaaGreatMrg6
import Derived.Test.YtpegbgomnpinfaaGreatLay
/- The library's sort of patches by their members; the sorted keys of a map from numbers. -/
set_option linter.unusedVariables false
namespace Go.Proofs.YtpegbgomnpinfaaGreat
open Go.RowKit Go.Sort

/-- A patch's cells, its member being small. -/
abbrev SP := Fin 64 × Int × Option Addr × Nat × Nat
def encSP (x : SP) : List Value := [.int .i64 (x.1.val : Int), .int .i64 x.2.1, .slice x.2.2.1 x.2.2.2.1 x.2.2.2.2]
def cmpSP (x y : SP) : Int := (x.1.val : Int) - (y.1.val : Int)

set_option maxHeartbeats 1000000 in
theorem work_cmp (x y : SP) (W : World) : Calls Tryz.prog 107 #[.agg (encSP x).toArray, .agg (encSP y).toArray] W fun e w' => e = .returned (.int .i64 (cmpSP x y)) ∧ ∃ q os', w' = Go.Sort.grow (W.drewN q) os' := by
  obtain ⟨⟨a, ha⟩, b, c⟩ := x
  obtain ⟨⟨a', ha'⟩, b', c'⟩ := y
  unfold encSP cmpSP
  obtain ⟨c0, c1, c2⟩ := c
  obtain ⟨c0', c1', c2'⟩ := c'
  simp only
  go_enter Tryz.func107, Tryz.ntmps107
  go_wp2
  go_ret
  exact ⟨by go_num, 0, _, by rw [alloc_eq_grow, alloc_eq_grow, grow_grow]; rfl⟩

theorem swoSP : SWO (ltOf cmpSP) where
  irrefl x := by unfold ltOf cmpSP; simp
  trans x y z h1 h2 := by unfold ltOf cmpSP at *; simp at *; omega
  ntrans x y z h1 h2 := by unfold ltOf cmpSP at *; simp at *; omega

theorem elemsSP_at (d : Array SP) (i c : Nat) (hi : i < d.size) (hc : c < 3) : (elems (fun j => encSP d[j]!) d.size)[i * 3 + c]? = (encSP d[i]!)[c]? :=
  elems_at (sz := 3) (fun k => rfl) d.size i c hi hc

theorem elemsSP_flat (d : Array SP) (t : Nat) (ht : t < d.size * 3) : (elems (fun j => encSP d[j]!) d.size)[t]? = some (flatK encSP 3 d)[t]! := by
  have h1 : t / 3 < d.size := by omega
  have h2 : t % 3 < 3 := by omega
  have := elemsSP_at d (t / 3) (t % 3) h1 h2
  rw [show t / 3 * 3 + t % 3 = t by omega] at this
  rw [this, get_flatK _ _ _ _ ht]
  have hl : t % 3 < (encSP d[t / 3]!).length := h2
  rw [List.getElem?_eq_getElem hl, getElem!_pos (encSP d[t / 3]!) (t % 3) hl]

set_option maxRecDepth 100000 in
set_option maxHeartbeats 2000000 in
/-- The sort of patches by their members. -/
theorem sort_pats (g cap B : Nat) (d : Array SP) (w : World) (h : w.ownsRow B 153 3 (.slice (some ⟨g, 0, none⟩) d.size cap) d.size (elems (fun j => encSP d[j]!) d.size)) (hsz : d.size ≤ 100000) :
    Calls Tryz.prog 106 #[.slice (some ⟨g, 0, none⟩) d.size cap, .func (.func 107) #[] #[]] w fun e w' => e = .returned (.tuple #[]) ∧
      ∃ d' : Array SP, d'.size = d.size ∧ d'.toList.Perm d.toList ∧ (∀ i j, i < j → j < d.size → d'[i]!.1.val ≤ d'[j]!.1.val) ∧
        w'.ownsRow B 153 3 (.slice (some ⟨g, 0, none⟩) d.size cap) d.size (elems (fun j => encSP d'[j]!) d.size) ∧ Chg (fun q => q = g) w w' := by
  have eg : ∀ args w, (callFunc 107 args).run Tryz.prog w = .ok (.enter 107 args) w := enters_of Tryz.func107 (by kernel_rfl) rfl
  have hown := h
  obtain ⟨hl, hh⟩ := h
  rcases hh with ⟨hh, _⟩ | ⟨g', cap', cur, hv, hB, hg, hc1, hc2, hs, ht⟩
  · cases hh
  simp only [Value.slice.injEq, Option.some.injEq, Addr.mk.injEq, true_and] at hv
  obtain ⟨⟨rfl, -⟩, rfl⟩ := hv
  have hglt : g < w.heap.size := lt_of_block hg
  have hH : HoldsK encSP 3 w g 0 d := by
    intro t ht'
    rw [size_flatK] at ht'
    have e := elemsSP_flat d t ht'
    have := hown.cells (g := g) rfl t _ e
    rw [Go.WideShapes.add_plain] at this
    exact ⟨this, by simp [World.frozen?, hg]⟩
  have hcon := AnyQ.slices_SortFunc Tryz.sortPatch 3 Tryz.isAgg153 Tryz.sizeOf153 encSP (fun _ => rfl) (fun x v hv => by simp [encSP] at hv; rcases hv with rfl | rfl | rfl <;> rfl) cmpSP swoSP 107 #[] g 0 cap d w eg (fun _ _ _ _ x y => work_cmp x y _) hH hglt (by omega)
  change Calls Tryz.prog 106 _ _ _ at hcon
  refine hcon.mono fun e w' ⟨he, d', n, os, hp, hsd, hw⟩ => ⟨he, d', hp.1, ?_, fun i j hij hj => ?_, ?_, ?_⟩
  · obtain ⟨h1, h2, h3⟩ := hp
    have e1 : d'.extract 0 d.size = d' := by rw [← h1]; simp
    have e2 : d.extract 0 d.size = d := by simp
    rw [e1, e2] at h3
    exact h3
  · have := hsd i j (Nat.zero_le _) hij hj
    unfold ltOf cmpSP at this
    simp at this
    omega
  · subst hw
    have hd := hp.1
    have hb : (sortWorldK encSP 3 w g 0 n d' os).heap[g]? = some (.cells (putCells id 0 (flatK encSP 3 d') cur) 153 (0, 0)) := by
      unfold sortWorldK
      rw [heap_grow_old _ _ (by unfold putRowK; simpa [putRow, mapBlock, Sort.ahead] using hglt)]
      simp [putRowK, putRow, mapBlock, Sort.ahead, Array.getElem?_modify, hg, onCells]
    refine ⟨by rw [elems_length (sz := 3) (fun k => rfl)], .inr ⟨g, cap, _, rfl, hB, hb, hc1, hc2, by simp [putCells, hs], ?_⟩⟩
    apply List.ext_getElem?
    intro t
    by_cases ht3 : t < d.size * 3
    · rw [List.getElem?_take_of_lt ht3, Array.getElem?_toList]
      have hcur : t < cur.size := by
        have := Nat.mul_le_mul_right 3 hc1
        omega
      have e := elemsSP_flat d' t (by rw [hd]; exact ht3)
      rw [hd] at e
      rw [e]
      simp [putCells, hcur, hd, ht3]
    · rw [List.getElem?_eq_none (by simp; omega), List.getElem?_eq_none (by rw [elems_length (sz := 3) (fun k => rfl)]; omega)]
  · subst hw
    refine ⟨rfl, rfl, rfl, ?_, fun q hq hne => ?_⟩
    · unfold sortWorldK putRowK
      simp [Go.Sort.grow, putRow, mapBlock, Sort.ahead]
    · unfold sortWorldK
      rw [heap_grow_old _ _ (by unfold putRowK; simpa [putRow, mapBlock, Sort.ahead] using hq)]
      simp [putRowK, putRow, mapBlock, Sort.ahead, Array.getElem?_modify, Ne.symm hne]

end Go.Proofs.YtpegbgomnpinfaaGreat

/- The sorted keys of a map from numbers. -/
set_option linter.unusedVariables false
namespace Go.Proofs.YtpegbgomnpinfaaGreat
open Go.RowKit Go.Sort Go.Maps

theorem mem_keys {H : Type} {P : Program} {k : TypeId} {R : Value → Option (DataW H × List MemPlace)} {w : World} {b n : Nat} {D : DataW H} (hown : w.ownsMap P k R b n D) (hk : P.underlying k = some (.int .i64)) (x : Int) :
    x ∈ intKeys D ↔ Go.Maps.has D (.int .i64 x) = true := by
  obtain ⟨es, rfl, hko⟩ := hown.keysOf
  rw [has_eq, List.any_eq_true]
  show x ∈ es.map _ ↔ _
  rw [List.mem_map]
  constructor
  · rintro ⟨p, hp, rfl⟩
    obtain ⟨v, hv⟩ := hko p hp
    obtain ⟨a, -, ha, -⟩ := Go.Maps.keyOf_i64 hk hv
    exact ⟨p, hp, by rw [ha]; simp [Lit.sameKey, Go.intOf]⟩
  · rintro ⟨p, hp, hs⟩
    obtain ⟨v, hv⟩ := hko p hp
    obtain ⟨a, -, ha, -⟩ := Go.Maps.keyOf_i64 hk hv
    rw [ha] at hs
    exact ⟨p, hp, by rw [ha]; simpa [Lit.sameKey, Go.intOf] using hs⟩

theorem nodup_keys {H : Type} {P : Program} {k : TypeId} {R : Value → Option (DataW H × List MemPlace)} {w : World} {b n : Nat} {D : DataW H} (hown : w.ownsMap P k R b n D) (hk : P.underlying k = some (.int .i64)) : (intKeys D).Nodup := by
  obtain ⟨es, hD, hpw, _⟩ := hown.entries (int_keyed hk)
  obtain ⟨es', hD', hko⟩ := hown.keysOf
  obtain rfl : es = es' := by rw [hD] at hD'; simpa using hD'
  subst hD
  show (es.map _).Nodup
  refine List.pairwise_map.2 (hpw.imp_of_mem fun {p q} hp hq hne e => hne ?_)
  obtain ⟨v, hv⟩ := hko p hp
  obtain ⟨u, hu⟩ := hko q hq
  obtain ⟨a, -, ha, -⟩ := Go.Maps.keyOf_i64 hk hv
  obtain ⟨c, -, hc, -⟩ := Go.Maps.keyOf_i64 hk hu
  rw [ha, hc] at e ⊢
  simp [Go.intOf] at e
  rw [e]

/-- The numbers at which f leads somewhere, rising. -/
def KeysOfFn (f : Int → Option Value) (l : List Int) : Prop := l.Pairwise (· < ·) ∧ ∀ x, x ∈ l ↔ ((Lit.int .i64 x).wf = true ∧ (f x).isSome = true)

theorem keysOfFn_sort {P : Program} {k : TypeId} {w : World} {b n : Nat} {f : Int → Option Value} {D : DataW Value} (hown : w.ownsMap P k rawElem b n D) (hk : P.underlying k = some (.int .i64))
    (hf : ∀ z, (Lit.int .i64 z).wf = true → Go.Maps.has D (.int .i64 z) = (f z).isSome) {ss : List Int} (hp : ss.Perm (intKeys D)) : KeysOfFn f (ss.mergeSort fun x y => decide (x ≤ y)) := by
  have hnd : ss.Nodup := hp.nodup_iff.2 (nodup_keys hown hk)
  have tr : ∀ a b c : Int, decide (a ≤ b) = true → decide (b ≤ c) = true → decide (a ≤ c) = true := fun a b c h1 h2 => by simp only [decide_eq_true_eq] at *; omega
  have to : ∀ a b : Int, (decide (a ≤ b) || decide (b ≤ a)) = true := fun a b => by simp only [Bool.or_eq_true, decide_eq_true_eq]; omega
  have hs := List.pairwise_mergeSort tr to ss
  have hnd' : (ss.mergeSort fun x y => decide (x ≤ y)).Nodup := (List.mergeSort_perm ss _).nodup_iff.2 hnd
  refine ⟨(hs.and hnd').imp fun {a b} h => ?_, fun x => ?_⟩
  · obtain ⟨h1, h2⟩ := h
    simp only [decide_eq_true_eq] at h1
    omega
  · rw [(List.mergeSort_perm ss _).mem_iff, hp.mem_iff]
    constructor
    · intro hx
      have hwf := intKeys_wf hown hk x hx
      exact ⟨hwf, by rw [← hf x hwf]; exact (mem_keys hown hk x).1 hx⟩
    · rintro ⟨hwf, hx⟩
      rw [← hf x hwf] at hx
      exact (mem_keys hown hk x).2 hx

theorem sorts_ints (m : Nat) : AnyZI.SortsIn Tryz.prog Tryz.sortedA_ren Fence.wide m :=
  ⟨fun blk off cap ss W hH hblk hsz => callsIn_wide.2 (AnyM.slices_Sort_int Tryz.sortInt blk off cap ss W hH hblk hsz),
   fun p cap W => callsIn_wide.2 (AnyM.slices_Sort_int_none Tryz.sortInt p cap W)⟩

theorem keysA_call (mb : Option Nat) (W : World) : Calls Tryz.prog 173 #[.map mb] W fun e w' => e = .returned (.func (.func 191) #[] #[.pointer (some ⟨W.heap.size, 0, none⟩)]) ∧ w' = W.alloc (.cells #[.map mb] 256) :=
  (callsIn_wide (n := 5)).1 (AnyZI.keys_in Tryz.keysA Fence.wide 5 trivial rfl mb W)

set_option maxHeartbeats 1000000 in
theorem sortedA_call {w : World} {b n : Nat} {f : Int → Option Value} (h : w.vmap Tryz.prog 3 .i64 b n f) (hn : n ≤ 1000000) :
    Calls Tryz.prog 172 #[.func (.func 191) #[] #[.pointer (some ⟨w.heap.size, 0, none⟩)]] (w.alloc (.cells #[.map (some b)] 256)) fun e w' =>
      ∃ v l, e = .returned v ∧ KeysOfFn f l ∧ l.length ≤ n ∧ w'.ownsRow (w.heap.size + 1) 3 1 v l.length (l.map (Value.int .i64)) ∧ Below (w.heap.size + 1) (w.alloc (.cells #[.map (some b)] 256)) w' := by
  obtain ⟨D, hown, hf⟩ := h
  have hsz := hown.size_le
  have hbl := hown.lt
  have hseq : SeqGives Fence.wide 2 Tryz.prog 191 #[.pointer (some ⟨w.heap.size, 0, none⟩)] encZ (fun ss => ss.Perm (intKeys D)) (Maps.size D) (w.alloc (.cells #[.map (some b)] 256)) :=
    AnyZI.keys_gives (ρ := Tryz.keysA_ren) { Tryz.keysA with } Fence.wide _ trivial rfl (by omega) w.heap.size b n D _ (by simp) (by simp) (by
      obtain ⟨es, clock, hb, Ft, hs, hD⟩ := hown
      exact ⟨es, clock, (Below.heap_alloc _ _ b hbl).trans hb, Ft, hs, hD⟩)
  have cS := AnyZI.sorted_in Tryz.sortedA Fence.wide 5 trivial trivial trivial trivial rfl (by omega) (sorts_ints _) (enters_of Tryz.func190 (by kernel_rfl) rfl) 191 #[.pointer (some ⟨w.heap.size, 0, none⟩)] trivial (enters_of Tryz.func191 (by kernel_rfl) rfl) _ _ (by unfold maxLen; omega) (by omega) _ hseq
  change CallsIn _ _ Tryz.prog 172 _ _ _ at cS
  refine (callsIn_wide.1 cS).mono fun e w' ⟨v, ss, he, hS, hrow, hnil, hb⟩ => ⟨v, _, he, keysOfFn_sort hown Tryz.underlying3 (fun z hz => (hf z hz).1) hS, ?_, ?_, ?_⟩
  · rw [List.length_mergeSort, hS.length_eq]
    obtain ⟨es, rfl, _⟩ := hown.keysOf
    simpa [intKeys, Maps.size] using hsz
  · rw [List.length_mergeSort]
    rw [size_alloc] at hrow
    exact hrow
  · rw [size_alloc] at hb
    exact hb

theorem keysB_call (mb : Option Nat) (W : World) : Calls Tryz.prog 174 #[.map mb] W fun e w' => e = .returned (.func (.func 192) #[] #[.pointer (some ⟨W.heap.size, 0, none⟩)]) ∧ w' = W.alloc (.cells #[.map mb] 261) :=
  (callsIn_wide (n := 5)).1 (AnyZI.keys_in Tryz.keysB Fence.wide 5 trivial rfl mb W)

set_option maxHeartbeats 1000000 in
theorem sortedB_call {w : World} {b n : Nat} {f : Int → Option Value} (h : w.vmap Tryz.prog 3 .i64 b n f) (hn : n ≤ 1000000) :
    Calls Tryz.prog 172 #[.func (.func 192) #[] #[.pointer (some ⟨w.heap.size, 0, none⟩)]] (w.alloc (.cells #[.map (some b)] 261)) fun e w' =>
      ∃ v l, e = .returned v ∧ KeysOfFn f l ∧ l.length ≤ n ∧ w'.ownsRow (w.heap.size + 1) 3 1 v l.length (l.map (Value.int .i64)) ∧ Below (w.heap.size + 1) (w.alloc (.cells #[.map (some b)] 261)) w' := by
  obtain ⟨D, hown, hf⟩ := h
  have hsz := hown.size_le
  have hbl := hown.lt
  have hseq : SeqGives Fence.wide 2 Tryz.prog 192 #[.pointer (some ⟨w.heap.size, 0, none⟩)] encZ (fun ss => ss.Perm (intKeys D)) (Maps.size D) (w.alloc (.cells #[.map (some b)] 261)) :=
    AnyZI.keys_gives (ρ := Tryz.keysB_ren) { Tryz.keysB with } Fence.wide _ trivial rfl (by omega) w.heap.size b n D _ (by simp) (by simp) (by
      obtain ⟨es, clock, hb, Ft, hs, hD⟩ := hown
      exact ⟨es, clock, (Below.heap_alloc _ _ b hbl).trans hb, Ft, hs, hD⟩)
  have cS := AnyZI.sorted_in Tryz.sortedA Fence.wide 5 trivial trivial trivial trivial rfl (by omega) (sorts_ints _) (enters_of Tryz.func190 (by kernel_rfl) rfl) 192 #[.pointer (some ⟨w.heap.size, 0, none⟩)] trivial (enters_of Tryz.func192 (by kernel_rfl) rfl) _ _ (by unfold maxLen; omega) (by omega) _ hseq
  change CallsIn _ _ Tryz.prog 172 _ _ _ at cS
  refine (callsIn_wide.1 cS).mono fun e w' ⟨v, ss, he, hS, hrow, hnil, hb⟩ => ⟨v, _, he, keysOfFn_sort hown Tryz.underlying3 (fun z hz => (hf z hz).1) hS, ?_, ?_, ?_⟩
  · rw [List.length_mergeSort, hS.length_eq]
    obtain ⟨es, rfl, _⟩ := hown.keysOf
    simpa [intKeys, Maps.size] using hsz
  · rw [List.length_mergeSort]
    rw [size_alloc] at hrow
    exact hrow
  · rw [size_alloc] at hb
    exact hb

end Go.Proofs.YtpegbgomnpinfaaGreat
