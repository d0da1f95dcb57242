/- The sorted keys of a map from numbers. -/
import Derived.Test.YtkcfmkhakghniaaPlnG
set_option linter.unusedVariables false
namespace Go.Proofs.Ytkcfmkhakghniaa
open Go.RowKit Go.Sort Go.Maps

theorem mem_keys {H : Type} {P : Program} {k : TypeId} {R : Value → Option (DataW H × List MemPlace)} {w : World} {b n : Nat} {D : DataW H} (hown : w.ownsMap P k R b n D) (hk : P.underlying k = some (.int .i64)) (x : Int) :
    x ∈ intKeys D ↔ Go.Maps.has D (.int .i64 x) = true := by
  obtain ⟨es, rfl, hko⟩ := hown.keysOf
  rw [has_eq, List.any_eq_true]
  show x ∈ es.map _ ↔ _
  rw [List.mem_map]
  constructor
  · rintro ⟨p, hp, rfl⟩
    obtain ⟨v, hv⟩ := hko p hp
    obtain ⟨a, -, ha, -⟩ := Go.Maps.keyOf_i64 hk hv
    exact ⟨p, hp, by rw [ha]; simp [Lit.sameKey, Go.intOf]⟩
  · rintro ⟨p, hp, hs⟩
    obtain ⟨v, hv⟩ := hko p hp
    obtain ⟨a, -, ha, -⟩ := Go.Maps.keyOf_i64 hk hv
    rw [ha] at hs
    exact ⟨p, hp, by rw [ha]; simpa [Lit.sameKey, Go.intOf] using hs⟩

theorem nodup_keys {H : Type} {P : Program} {k : TypeId} {R : Value → Option (DataW H × List MemPlace)} {w : World} {b n : Nat} {D : DataW H} (hown : w.ownsMap P k R b n D) (hk : P.underlying k = some (.int .i64)) : (intKeys D).Nodup := by
  obtain ⟨es, hD, hpw, _⟩ := hown.entries (int_keyed hk)
  obtain ⟨es', hD', hko⟩ := hown.keysOf
  obtain rfl : es = es' := by rw [hD] at hD'; simpa using hD'
  subst hD
  show (es.map _).Nodup
  refine List.pairwise_map.2 (hpw.imp_of_mem fun {p q} hp hq hne e => hne ?_)
  obtain ⟨v, hv⟩ := hko p hp
  obtain ⟨u, hu⟩ := hko q hq
  obtain ⟨a, -, ha, -⟩ := Go.Maps.keyOf_i64 hk hv
  obtain ⟨c, -, hc, -⟩ := Go.Maps.keyOf_i64 hk hu
  rw [ha, hc] at e ⊢
  simp [Go.intOf] at e
  rw [e]

/-- The numbers at which f leads somewhere, rising. -/
def KeysOfFn (f : Int → Option Value) (l : List Int) : Prop := l.Pairwise (· < ·) ∧ ∀ x, x ∈ l ↔ ((Lit.int .i64 x).wf = true ∧ (f x).isSome = true)

theorem keysOfFn_sort {P : Program} {k : TypeId} {w : World} {b n : Nat} {f : Int → Option Value} {D : DataW Value} (hown : w.ownsMap P k rawElem b n D) (hk : P.underlying k = some (.int .i64))
    (hf : ∀ z, (Lit.int .i64 z).wf = true → Go.Maps.has D (.int .i64 z) = (f z).isSome) {ss : List Int} (hp : ss.Perm (intKeys D)) : KeysOfFn f (ss.mergeSort fun x y => decide (x ≤ y)) := by
  have hnd : ss.Nodup := hp.nodup_iff.2 (nodup_keys hown hk)
  have tr : ∀ a b c : Int, decide (a ≤ b) = true → decide (b ≤ c) = true → decide (a ≤ c) = true := fun a b c h1 h2 => by simp only [decide_eq_true_eq] at *; omega
  have to : ∀ a b : Int, (decide (a ≤ b) || decide (b ≤ a)) = true := fun a b => by simp only [Bool.or_eq_true, decide_eq_true_eq]; omega
  have hs := List.pairwise_mergeSort tr to ss
  have hnd' : (ss.mergeSort fun x y => decide (x ≤ y)).Nodup := (List.mergeSort_perm ss _).nodup_iff.2 hnd
  refine ⟨(hs.and hnd').imp fun {a b} h => ?_, fun x => ?_⟩
  · obtain ⟨h1, h2⟩ := h
    simp only [decide_eq_true_eq] at h1
    omega
  · rw [(List.mergeSort_perm ss _).mem_iff, hp.mem_iff]
    constructor
    · intro hx
      have hwf := intKeys_wf hown hk x hx
      exact ⟨hwf, by rw [← hf x hwf]; exact (mem_keys hown hk x).1 hx⟩
    · rintro ⟨hwf, hx⟩
      rw [← hf x hwf] at hx
      exact (mem_keys hown hk x).2 hx

theorem sorts_ints (m : Nat) : AnyZI.SortsIn Try.prog Try.sortedA_ren Fence.wide m :=
  ⟨fun blk off cap ss W hH hblk hsz => callsIn_wide.2 (AnyM.slices_Sort_int Try.sortInt blk off cap ss W hH hblk hsz),
   fun p cap W => callsIn_wide.2 (AnyM.slices_Sort_int_none Try.sortInt p cap W)⟩

theorem keysA_call (mb : Option Nat) (W : World) : Calls Try.prog 61 #[.map mb] W fun e w' => e = .returned (.func (.func 92) #[] #[.pointer (some ⟨W.heap.size, 0, none⟩)]) ∧ w' = W.alloc (.cells #[.map mb] 120) :=
  (callsIn_wide (n := 5)).1 (AnyZI.keys_in Try.keysA Fence.wide 5 trivial rfl mb W)

set_option maxHeartbeats 1000000 in
theorem sortedA_call {w : World} {b n : Nat} {f : Int → Option Value} (h : w.vmap Try.prog 3 .i64 b n f) (hn : n ≤ 1000000) :
    Calls Try.prog 60 #[.func (.func 92) #[] #[.pointer (some ⟨w.heap.size, 0, none⟩)]] (w.alloc (.cells #[.map (some b)] 120)) fun e w' =>
      ∃ v l, e = .returned v ∧ KeysOfFn f l ∧ l.length ≤ n ∧ w'.ownsRow (w.heap.size + 1) 3 1 v l.length (l.map (Value.int .i64)) ∧ Below (w.heap.size + 1) (w.alloc (.cells #[.map (some b)] 120)) w' := by
  obtain ⟨D, hown, hf⟩ := h
  have hsz := hown.size_le
  have hbl := hown.lt
  have hseq : SeqGives Fence.wide 2 Try.prog 92 #[.pointer (some ⟨w.heap.size, 0, none⟩)] encZ (fun ss => ss.Perm (intKeys D)) (Maps.size D) (w.alloc (.cells #[.map (some b)] 120)) :=
    AnyZI.keys_gives (ρ := Try.keysA_ren) { Try.keysA with } Fence.wide _ trivial rfl (by omega) w.heap.size b n D _ (by simp) (by simp) (by
      obtain ⟨es, clock, hb, Ft, hs, hD⟩ := hown
      exact ⟨es, clock, (Below.heap_alloc _ _ b hbl).trans hb, Ft, hs, hD⟩)
  have cS := AnyZI.sorted_in Try.sortedA Fence.wide 5 trivial trivial trivial trivial rfl (by omega) (sorts_ints _) (enters_of Try.func91 (by kernel_rfl) rfl) 92 #[.pointer (some ⟨w.heap.size, 0, none⟩)] trivial (enters_of Try.func92 (by kernel_rfl) rfl) _ _ (by unfold maxLen; omega) (by omega) _ hseq
  change CallsIn _ _ Try.prog 60 _ _ _ at cS
  refine (callsIn_wide.1 cS).mono fun e w' ⟨v, ss, he, hS, hrow, hnil, hb⟩ => ⟨v, _, he, keysOfFn_sort hown Try.underlying3 (fun z hz => (hf z hz).1) hS, ?_, ?_, ?_⟩
  · rw [List.length_mergeSort, hS.length_eq]
    obtain ⟨es, rfl, _⟩ := hown.keysOf
    simpa [intKeys, Maps.size] using hsz
  · rw [List.length_mergeSort]
    rw [size_alloc] at hrow
    exact hrow
  · rw [size_alloc] at hb
    exact hb

theorem keysB_call (mb : Option Nat) (W : World) : Calls Try.prog 62 #[.map mb] W fun e w' => e = .returned (.func (.func 93) #[] #[.pointer (some ⟨W.heap.size, 0, none⟩)]) ∧ w' = W.alloc (.cells #[.map mb] 125) :=
  (callsIn_wide (n := 5)).1 (AnyZI.keys_in Try.keysB Fence.wide 5 trivial rfl mb W)

set_option maxHeartbeats 1000000 in
theorem sortedB_call {w : World} {b n : Nat} {f : Int → Option Value} (h : w.vmap Try.prog 3 .i64 b n f) (hn : n ≤ 1000000) :
    Calls Try.prog 60 #[.func (.func 93) #[] #[.pointer (some ⟨w.heap.size, 0, none⟩)]] (w.alloc (.cells #[.map (some b)] 125)) fun e w' =>
      ∃ v l, e = .returned v ∧ KeysOfFn f l ∧ l.length ≤ n ∧ w'.ownsRow (w.heap.size + 1) 3 1 v l.length (l.map (Value.int .i64)) ∧ Below (w.heap.size + 1) (w.alloc (.cells #[.map (some b)] 125)) w' := by
  obtain ⟨D, hown, hf⟩ := h
  have hsz := hown.size_le
  have hbl := hown.lt
  have hseq : SeqGives Fence.wide 2 Try.prog 93 #[.pointer (some ⟨w.heap.size, 0, none⟩)] encZ (fun ss => ss.Perm (intKeys D)) (Maps.size D) (w.alloc (.cells #[.map (some b)] 125)) :=
    AnyZI.keys_gives (ρ := Try.keysB_ren) { Try.keysB with } Fence.wide _ trivial rfl (by omega) w.heap.size b n D _ (by simp) (by simp) (by
      obtain ⟨es, clock, hb, Ft, hs, hD⟩ := hown
      exact ⟨es, clock, (Below.heap_alloc _ _ b hbl).trans hb, Ft, hs, hD⟩)
  have cS := AnyZI.sorted_in Try.sortedA Fence.wide 5 trivial trivial trivial trivial rfl (by omega) (sorts_ints _) (enters_of Try.func91 (by kernel_rfl) rfl) 93 #[.pointer (some ⟨w.heap.size, 0, none⟩)] trivial (enters_of Try.func93 (by kernel_rfl) rfl) _ _ (by unfold maxLen; omega) (by omega) _ hseq
  change CallsIn _ _ Try.prog 60 _ _ _ at cS
  refine (callsIn_wide.1 cS).mono fun e w' ⟨v, ss, he, hS, hrow, hnil, hb⟩ => ⟨v, _, he, keysOfFn_sort hown Try.underlying3 (fun z hz => (hf z hz).1) hS, ?_, ?_, ?_⟩
  · rw [List.length_mergeSort, hS.length_eq]
    obtain ⟨es, rfl, _⟩ := hown.keysOf
    simpa [intKeys, Maps.size] using hsz
  · rw [List.length_mergeSort]
    rw [size_alloc] at hrow
    exact hrow
  · rw [size_alloc] at hb
    exact hb

end Go.Proofs.Ytkcfmkhakghniaa
