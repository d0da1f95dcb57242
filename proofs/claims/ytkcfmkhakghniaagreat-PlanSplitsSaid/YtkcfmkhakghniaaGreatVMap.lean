/- A map from numbers to values of any kind that the call has made, told as a function. No program in sight. -/
import Derived.Test.YtkcfmkhakghniaaGreatIMap
set_option linter.unusedVariables false
namespace Go
open Go.RowKit Go.Maps Go.ChangeMaps Go.MapKept

/-- An element reads as itself. -/
def rawElem (v : Value) : Option (DataW Value × List MemPlace) := some (.held v, [])

/-- Block b is a map of at most n entries; f says what each number leads to. -/
def World.vmap (w : World) (P : Program) (k : TypeId) (κ : IntKind) (b n : Nat) (f : Int → Option Value) : Prop :=
  ∃ D : DataW Value, w.ownsMap P k rawElem b n D ∧ ∀ z, (Lit.int κ z).wf = true → Go.Maps.has D (.int κ z) = (f z).isSome ∧ ∀ v, f z = some v → D.atKey (.int κ z) (.held undef) = .held v

section
variable {P : Program} {k e : TypeId} {κ : IntKind} {w w' : World} {b n : Nat} {f : Int → Option Value}

theorem World.vmap.lt (h : w.vmap P k κ b n f) : b < w.heap.size := by
  obtain ⟨D, h, _⟩ := h
  exact h.lt

theorem World.vmap_made (w : World) (P : Program) (k : TypeId) (κ : IntKind) : (w.alloc (.map #[] 0)).vmap P k κ w.heap.size 0 (fun _ => none) :=
  ⟨.map [], World.ownsMap_made w P k _, fun z _ => ⟨rfl, fun v h => by cases h⟩⟩

theorem World.vmap.mod {S : Nat → Prop} (h : w.vmap P k κ b n f) (hc : Chg S w w') (hS : ¬ S b) : w'.vmap P k κ b n f := by
  obtain ⟨D, ⟨es, clock, h1, h2⟩, h3⟩ := h
  exact ⟨D, ⟨es, clock, (hc.block b (lt_of_block h1) hS).trans h1, h2⟩, h3⟩

theorem World.vmap.below (h : w.vmap P k κ b n f) (hb : Below w.heap.size w w') : w'.vmap P k κ b n f := h.mod (Chg.ofBelow hb (fun _ => False)) (fun h => h)

theorem World.vmap.mono (h : w.vmap P k κ b n f) {m : Nat} (hm : n ≤ m) : w.vmap P k κ b m f := by
  obtain ⟨D, h1, h3⟩ := h
  exact ⟨D, h1.mono hm, h3⟩

theorem atKey_zero {D : DataW Value} (hM : IsMap D) {kl : Lit} (h : Go.Maps.has D kl = true) (u v : DataW Value) : D.atKey kl u = D.atKey kl v := by
  obtain ⟨es, rfl⟩ := hM
  rw [has_eq] at h
  unfold DataW.atKey
  cases hf : es.find? (fun p => p.1.sameKey kl) with
  | some p => simp [hf]
  | none =>
    rw [List.find?_eq_none] at hf
    obtain ⟨p, hp, hp2⟩ := List.any_eq_true.1 h
    exact absurd hp2 (hf p hp)

section
variable {ops : Array Oper} {rest : List Oper} {o : Oper} {a : Act} {Q : Exit → Act → World → Prop}

/-- 'm[x]'. -/
theorem wpList_vmap_at (hg : o.guard = none) (m x : Operand) (t : TypeId) (hop : o.op = Op.lookup t m x false) (ht : P.underlying t = some (.map k e)) (hk : P.underlying k = some (.int κ)) (z0 : Value) (hz : (zeroValue e).run P w = .ok z0 w)
    (hm : a.eval m = .map (some b)) (hown : w.vmap P k κ b n f) (z : Int) (hx : a.eval x = .int κ z) (hwf : (Lit.int κ z).wf = true)
    (hK : wpList P ops Q rest (a.put o.dst ((f z).getD z0)) w) :
    wpList P ops Q (o :: rest) a w := by
  obtain ⟨D, h1, h2⟩ := hown
  refine wpList_plain hg fun K' hK' => ?_
  have hz' : (zeroValue e).run P w = .ok z0 w := hz
  obtain ⟨v, ps, hrun, hv⟩ := h1.lookup (int_keyed hk) ht hz (zd := .held z0) (zp := []) rfl (keyOf_int_mk hk hwf)
  obtain ⟨h3, h4⟩ := h2 z hwf
  have hval : v = (f z).getD z0 := by
    simp only [rawElem, Option.some.injEq, Prod.mk.injEq] at hv
    obtain ⟨hv, -⟩ := hv
    cases hf : f z with
    | none =>
      rw [hf] at h3
      rw [Go.Maps.atKey_of_not_has h3] at hv
      simpa using hv
    | some y =>
      rw [hf] at h3
      have := h4 y hf
      rw [atKey_zero h1.isMap h3 _ (.held undef), this] at hv
      simpa using hv
  unfold Oper.wp
  simp [execOp, hop, hm, hx, hrun, Result.andThen]
  rw [hval]
  exact hK' _ _ hK

/-- .. it being there. -/
theorem wpList_vmap_some (hg : o.guard = none) (m x : Operand) (t : TypeId) (hop : o.op = Op.lookup t m x false) (ht : P.underlying t = some (.map k e)) (hk : P.underlying k = some (.int κ)) (z0 : Value) (hz : (zeroValue e).run P w = .ok z0 w)
    (hm : a.eval m = .map (some b)) (hown : w.vmap P k κ b n f) (z : Int) (hx : a.eval x = .int κ z) (hwf : (Lit.int κ z).wf = true) (y : Value) (hf : f z = some y)
    (hK : wpList P ops Q rest (a.put o.dst y) w) : wpList P ops Q (o :: rest) a w :=
  wpList_vmap_at hg m x t hop ht hk z0 hz hm hown z hx hwf (by rw [hf]; exact hK)

/-- .. it not being there. -/
theorem wpList_vmap_none (hg : o.guard = none) (m x : Operand) (t : TypeId) (hop : o.op = Op.lookup t m x false) (ht : P.underlying t = some (.map k e)) (hk : P.underlying k = some (.int κ)) (z0 : Value) (hz : (zeroValue e).run P w = .ok z0 w)
    (hm : a.eval m = .map (some b)) (hown : w.vmap P k κ b n f) (z : Int) (hx : a.eval x = .int κ z) (hwf : (Lit.int κ z).wf = true) (hf : f z = none)
    (hK : wpList P ops Q rest (a.put o.dst z0) w) : wpList P ops Q (o :: rest) a w :=
  wpList_vmap_at hg m x t hop ht hk z0 hz hm hown z hx hwf (by rw [hf]; exact hK)

/-- A look-up's run. -/
theorem World.vmap.run {t : TypeId} (hown : w.vmap P k κ b n f) (ht : P.underlying t = some (.map k e)) (hk : P.underlying k = some (.int κ)) (z0 : Value) (hz : (zeroValue e).run P w = .ok z0 w) (z : Int) (hwf : (Lit.int κ z).wf = true) (y : Value) (hf : f z = some y) :
    (Instr.lookup t (.map (some b)) (.int κ z) false).run P w = .ok y w := by
  obtain ⟨D, h1, h2⟩ := hown
  obtain ⟨v, ps, hrun, hv⟩ := h1.lookup (int_keyed hk) ht hz (zd := .held z0) (zp := []) rfl (keyOf_int_mk hk hwf)
  obtain ⟨h3, h4⟩ := h2 z hwf
  rw [hf] at h3
  have h5 := h4 y hf
  simp only [rawElem, Option.some.injEq, Prod.mk.injEq] at hv
  obtain ⟨hv, -⟩ := hv
  rw [atKey_zero h1.isMap h3 _ (.held undef), h5] at hv
  simp only [DataW.held.injEq] at hv
  rw [hrun, hv]

/-- A store's run. -/
theorem World.vmap.store {t : TypeId} (hown : w.vmap P k κ b n f) (ht : P.underlying t = some (.map k e)) (hk : P.underlying k = some (.int κ)) (hn : n < maxLen) (z : Int) (hwf : (Lit.int κ z).wf = true) (y : Value) :
    ∃ w', (Instr.mapUpdate t (.map (some b)) (.int κ z) y).run P w = .ok () w' ∧ w'.vmap P k κ b (n + 1) (fun i => if i = z then some y else f i) ∧ Chg (fun x => x = b) w w' := by
  obtain ⟨D, h1, h2⟩ := hown
  obtain ⟨w', hrun, h3, h4⟩ := h1.store (int_keyed hk) ht hn (val := y) (d := .held y) (ps := []) (keyOf_int_mk hk hwf) rfl
  refine ⟨w', hrun, ⟨_, h3, fun i hi => ?_⟩, mapTurned_chg h4⟩
  by_cases hiz : i = z
  · subst hiz
    simp only [if_pos]
    refine ⟨Go.Maps.has_put_same (k := .int κ i) h1.isMap trivial _, fun v hv => ?_⟩
    cases hv
    exact Go.Maps.atKey_put_same (k := .int κ i) h1.isMap trivial _ _
  · simp only [if_neg hiz]
    have hne : (Lit.int κ i) ≠ Lit.int κ z := fun h => hiz (by simpa using h)
    obtain ⟨k1, k2⟩ := h2 i hi
    exact ⟨(Go.Maps.has_put_other hne _).trans k1, fun v hv => (Go.Maps.atKey_put_other hne _ _).trans (k2 v hv)⟩

/-- 'm[x] = v'. -/
theorem wpList_vmap_set (hg : o.guard = none) (m x v : Operand) (t : TypeId) (hop : o.op = Op.mapUpdate t m x v) (ht : P.underlying t = some (.map k e)) (hk : P.underlying k = some (.int κ))
    (hm : a.eval m = .map (some b)) (hown : w.vmap P k κ b n f) (hn : n < maxLen) (z : Int) (y : Value) (hx : a.eval x = .int κ z) (hv : a.eval v = y) (hwf : (Lit.int κ z).wf = true)
    (hK : ∀ w', w'.vmap P k κ b (n + 1) (fun i => if i = z then some y else f i) → Chg (fun x => x = b) w w' → wpList P ops Q rest (a.put o.dst undef) w') :
    wpList P ops Q (o :: rest) a w := by
  obtain ⟨D, h1, h2⟩ := hown
  refine wpList_mapUpdate_in w hg m x v t hop k e (int_keyed hk) ht rawElem b n D hm h1 hn (.int κ z) y (.int κ z) hx hv (keyOf_int_mk hk hwf) (.held y) [] rfl fun w' h3 h4 => ?_
  refine hK w' ⟨_, h3, fun i hi => ?_⟩ (mapTurned_chg h4)
  by_cases hiz : i = z
  · subst hiz
    simp only [if_pos]
    refine ⟨Go.Maps.has_put_same (k := .int κ i) h1.isMap trivial _, fun v hv => ?_⟩
    cases hv
    exact Go.Maps.atKey_put_same (k := .int κ i) h1.isMap trivial _ _
  · simp only [if_neg hiz]
    have hne : (Lit.int κ i) ≠ Lit.int κ z := fun h => hiz (by simpa using h)
    obtain ⟨k1, k2⟩ := h2 i hi
    exact ⟨(Go.Maps.has_put_other hne _).trans k1, fun v hv => (Go.Maps.atKey_put_other hne _ _).trans (k2 v hv)⟩
/-- An entry of 'map[K]T{..}'. -/
theorem wpList_vmap_insert (hg : o.guard = none) (m x v : Operand) (t : TypeId) (hop : o.op = Op.insert t m x v) (ht : P.underlying t = some (.map k e)) (hk : P.underlying k = some (.int κ))
    (hm : a.eval m = .map (some b)) (hown : w.vmap P k κ b n f) (hn : n < maxLen) (z : Int) (y : Value) (hx : a.eval x = .int κ z) (hv : a.eval v = y) (hwf : (Lit.int κ z).wf = true)
    (hK : ∀ w', w'.vmap P k κ b (n + 1) (fun i => if i = z then some y else f i) → Chg (fun x => x = b) w w' → wpList P ops Q rest (a.put o.dst undef) w') :
    wpList P ops Q (o :: rest) a w := by
  obtain ⟨D, h1, h2⟩ := hown
  refine wpList_plain hg fun K' hK' => ?_
  obtain ⟨w', hrun, h3, h4⟩ := h1.store (int_keyed hk) ht hn (val := y) (d := .held y) (ps := []) (keyOf_int_mk hk hwf) rfl
  unfold Oper.wp
  simp [execOp, hop, hm, hx, hv, hrun, Result.andThen]
  refine hK' _ _ (hK w' ⟨_, h3, fun i hi => ?_⟩ (mapTurned_chg h4))
  by_cases hiz : i = z
  · subst hiz
    simp only [if_pos]
    refine ⟨Go.Maps.has_put_same (k := .int κ i) h1.isMap trivial _, fun v hv => ?_⟩
    cases hv
    exact Go.Maps.atKey_put_same (k := .int κ i) h1.isMap trivial _ _
  · simp only [if_neg hiz]
    have hne : (Lit.int κ i) ≠ Lit.int κ z := fun h => hiz (by simpa using h)
    obtain ⟨k1, k2⟩ := h2 i hi
    exact ⟨(Go.Maps.has_put_other hne _).trans k1, fun v hv => (Go.Maps.atKey_put_other hne _ _).trans (k2 v hv)⟩
end
end
end Go
