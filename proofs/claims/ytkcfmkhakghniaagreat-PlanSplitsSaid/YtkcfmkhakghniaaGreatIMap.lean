/- A map from numbers to numbers that the call has made, told as a function. No program in sight. -/
import Derived.Test.YtkcfmkhakghniaaGreatRag
import Derived.Maps.OwnSet
import Derived.Maps.OwnOps
import Derived.MapFrom
set_option linter.unusedVariables false
namespace Go
open Go.RowKit Go.Maps Go.ChangeMaps Go.MapKept

/-- Block b is a map of at most n entries; f says what each number leads to. -/
def World.imap (w : World) (P : Program) (k e : TypeId) (b n : Nat) (f : Int → Option Int) : Prop :=
  ∃ D : DataW Unit, w.ownsMap P k (plainElem P e) b n D ∧ ∀ z, (Lit.int .i64 z).wf = true → Go.Maps.has D (.int .i64 z) = (f z).isSome ∧ ∀ v, f z = some v → D.atKey (.int .i64 z) (.lit (.int .i64 0)) = .lit (.int .i64 v)

section
variable {P : Program} {k e : TypeId} {w w' : World} {b n : Nat} {f : Int → Option Int}

theorem World.imap.lt (h : w.imap P k e b n f) : b < w.heap.size := by
  obtain ⟨D, h, _⟩ := h
  exact h.lt

theorem World.imap_made (w : World) (P : Program) (k e : TypeId) : (w.alloc (.map #[] 0)).imap P k e w.heap.size 0 (fun _ => none) :=
  ⟨.map [], World.ownsMap_made w P k _, fun z _ => ⟨rfl, fun v h => by cases h⟩⟩

theorem World.imap.mod {S : Nat → Prop} (h : w.imap P k e b n f) (hc : Chg S w w') (hS : ¬ S b) : w'.imap P k e b n f := by
  obtain ⟨D, ⟨es, clock, h1, h2⟩, h3⟩ := h
  exact ⟨D, ⟨es, clock, (hc.block b (lt_of_block h1) hS).trans h1, h2⟩, h3⟩

theorem World.imap.mono (h : w.imap P k e b n f) {m : Nat} (hm : n ≤ m) : w.imap P k e b m f := by
  obtain ⟨D, h1, h3⟩ := h
  exact ⟨D, h1.mono hm, h3⟩

/-- It is a map's block: no cells lie there. -/
theorem World.imap.noCells (h : w.imap P k e b n f) {cs : Array Value} {t : TypeId} : ¬ At w b cs t := by
  intro ha
  obtain ⟨D, ⟨es, clock, h1, _⟩, _⟩ := h
  unfold At at ha
  rw [h1] at ha
  cases ha

theorem World.imap.noRow (h : w.imap P k e b n f) {B : Nat} {t : TypeId} {sz : Nat} {v : Value} {m : Nat} {xs : List Value} (hr : w.ownsRow B t sz v m xs) : v.ownBlock ≠ some b := by
  intro hv
  rcases hr.2 with ⟨rfl, _⟩ | ⟨g, cap, cur, rfl, _, hg, _⟩
  · cases hv
  · simp only [Value.ownBlock, Option.some.injEq] at hv
    subst hv
    exact h.noCells hg

theorem World.imap.noCell (h : w.imap P k e b n f) {o : Nat} {u : Value} : w.cell? ⟨b, o, none⟩ ≠ some u := by
  intro hc
  obtain ⟨D, ⟨es, clock, h1, _⟩, _⟩ := h
  simp [World.cell?, h1] at hc

theorem mapTurned_chg {b : Nat} (h : w.mapTurned w' b) : Chg (fun x => x = b) w w' :=
  Chg.ofGrown (World.mapTurned.grown h) (fun x hx => .inl (by simpa using hx.symm))

section
variable {ops : Array Oper} {rest : List Oper} {o : Oper} {a : Act} {Q : Exit → Act → World → Prop}

/-- 'v, ok := m[x]'. -/
theorem wpList_imap_look (hg : o.guard = none) (m x : Operand) (t : TypeId) (hop : o.op = Op.lookup t m x true) (ht : P.underlying t = some (.map k e)) (hk : P.underlying k = some (.int .i64)) (he : P.underlying e = some (.int .i64)) (hz : (zeroValue e).run P w = .ok (.int .i64 0) w)
    (hm : a.eval m = .map (some b)) (hown : w.imap P k e b n f) (z : Int) (hx : a.eval x = .int .i64 z) (hwf : (Lit.int .i64 z).wf = true)
    (hK : wpList P ops Q rest (a.put o.dst (.tuple #[.int .i64 ((f z).getD 0), .bool (f z).isSome])) w) (hK0 : f z = none → ∀ c, wpList P ops Q rest (a.put o.dst (.tuple #[.int .i64 c, .bool false])) w) :
    wpList P ops Q (o :: rest) a w := by
  obtain ⟨D, h1, h2⟩ := hown
  refine wpList_lookup_own_ok_int w hg m x t hop k e .i64 (int_keyed hk) ht he hz b n D hm h1 (.int .i64 z) (.int .i64 z) hx (keyOf_int_mk hk hwf) fun c hc hwc => ?_
  obtain ⟨h3, h4⟩ := h2 z hwf
  rw [h3]
  cases hf : f z with
  | none => exact hK0 hf c
  | some v =>
    rw [hf] at hK
    have := h4 v hf
    rw [this] at hc
    simp only [DataW.lit.injEq, Lit.int.injEq, true_and] at hc
    subst hc
    exact hK

/-- 'v, ok := m[x]', it being there. -/
theorem wpList_imap_some (hg : o.guard = none) (m x : Operand) (t : TypeId) (hop : o.op = Op.lookup t m x true) (ht : P.underlying t = some (.map k e)) (hk : P.underlying k = some (.int .i64)) (he : P.underlying e = some (.int .i64)) (hz : (zeroValue e).run P w = .ok (.int .i64 0) w)
    (hm : a.eval m = .map (some b)) (hown : w.imap P k e b n f) (z v : Int) (hx : a.eval x = .int .i64 z) (hwf : (Lit.int .i64 z).wf = true) (hf : f z = some v)
    (hK : wpList P ops Q rest (a.put o.dst (.tuple #[.int .i64 v, .bool true])) w) : wpList P ops Q (o :: rest) a w :=
  wpList_imap_look hg m x t hop ht hk he hz hm hown z hx hwf (by rw [hf]; exact hK) (fun h => by rw [hf] at h; cases h)

/-- .. it not being there. -/
theorem wpList_imap_none (hg : o.guard = none) (m x : Operand) (t : TypeId) (hop : o.op = Op.lookup t m x true) (ht : P.underlying t = some (.map k e)) (hk : P.underlying k = some (.int .i64)) (he : P.underlying e = some (.int .i64)) (hz : (zeroValue e).run P w = .ok (.int .i64 0) w)
    (hm : a.eval m = .map (some b)) (hown : w.imap P k e b n f) (z : Int) (hx : a.eval x = .int .i64 z) (hwf : (Lit.int .i64 z).wf = true) (hf : f z = none)
    (hK : ∀ c, wpList P ops Q rest (a.put o.dst (.tuple #[.int .i64 c, .bool false])) w) : wpList P ops Q (o :: rest) a w :=
  wpList_imap_look hg m x t hop ht hk he hz hm hown z hx hwf (by rw [hf]; exact hK 0) (fun _ => hK)

/-- 'm[x] = v'. -/
theorem wpList_imap_set (hg : o.guard = none) (m x v : Operand) (t : TypeId) (hop : o.op = Op.mapUpdate t m x v) (ht : P.underlying t = some (.map k e)) (hk : P.underlying k = some (.int .i64)) (he : P.underlying e = some (.int .i64))
    (hm : a.eval m = .map (some b)) (hown : w.imap P k e b n f) (hn : n < maxLen) (z y : Int) (hx : a.eval x = .int .i64 z) (hv : a.eval v = .int .i64 y) (hwf : (Lit.int .i64 z).wf = true) (hwy : (Lit.int .i64 y).wf = true)
    (hK : ∀ w', w'.imap P k e b (n + 1) (fun i => if i = z then some y else f i) → Chg (fun x => x = b) w w' → wpList P ops Q rest (a.put o.dst undef) w') :
    wpList P ops Q (o :: rest) a w := by
  obtain ⟨D, h1, h2⟩ := hown
  refine wpList_mapUpdate_in w hg m x v t hop k e (int_keyed hk) ht (plainElem P e) b n D hm h1 hn (.int .i64 z) (.int .i64 y) (.int .i64 z) hx hv (keyOf_int_mk hk hwf) (.lit (.int .i64 y)) [] (plainElem_int he hwy) fun w' h3 h4 => ?_
  refine hK w' ⟨_, h3, fun i hi => ?_⟩ (mapTurned_chg h4)
  by_cases hiz : i = z
  · subst hiz
    simp only [if_pos]
    refine ⟨Go.Maps.has_put_same (k := .int .i64 i) h1.isMap trivial _, fun v hv => ?_⟩
    cases hv
    exact Go.Maps.atKey_put_same (k := .int .i64 i) h1.isMap trivial _ _
  · simp only [if_neg hiz]
    have hne : (Lit.int .i64 i) ≠ Lit.int .i64 z := fun h => hiz (by simpa using h)
    obtain ⟨k1, k2⟩ := h2 i hi
    exact ⟨(Go.Maps.has_put_other hne _).trans k1, fun v hv => (Go.Maps.atKey_put_other hne _ _).trans (k2 v hv)⟩

/-- 'clear(m)'. -/
theorem wpList_imap_clear (hg : o.guard = none) (m : Operand) (t : TypeId) (hop : o.op = Op.call { callee := Callee.builtin Builtin.clear, args := #[m], argTypes := #[t] }) (ht : P.underlying t = some (.map k e))
    (hm : a.eval m = .map (some b)) (hown : w.imap P k e b n f)
    (hK : ∀ w', w'.imap P k e b 0 (fun _ => none) → Chg (fun x => x = b) w w' → wpList P ops Q rest (a.put o.dst (.tuple #[])) w') :
    wpList P ops Q (o :: rest) a w := by
  obtain ⟨D, ⟨es, clock, hb, hF, hs, hD⟩, h2⟩ := hown
  refine wpList_plain hg fun K' hK' => ?_
  have hrun : (Builtin.clear_ #[t] o.type #[.map (some b)]).run P w = .ok (.tuple #[]) { w with heap := w.heap.setIfInBounds b (.map #[] clock) } := by
    simp [Builtin.clear_, run_underlying ht, MapKept.run_getObj_map hb, MapKept.run_setObj_map _ hb, Result.andThen]
  unfold Oper.wp
  simp [execOp, hop, resolve, invoke, builtin, hm, hrun, Result.andThen]
  refine hK' _ _ (hK _ ⟨.map [], ⟨#[], clock, ?_, ⟨by simp, stamped_empty clock, by simp⟩, Nat.le_refl _, rfl⟩, fun z _ => ⟨rfl, fun v h => by cases h⟩⟩ ?_)
  · have hlt := lt_of_block hb
    simp [hlt]
  · refine ⟨rfl, rfl, rfl, by simp, fun x hx hne => ?_⟩
    simp [Ne.symm hne]
end
end
end Go
