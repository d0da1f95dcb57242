/- plan.Split: the rows that go out. -/
import Derived.Test.YtkcfmkhakghniaaPlnO
set_option linter.unusedVariables false
namespace Go.Proofs.Ytkcfmkhakghniaa
open Go.RowKit Go.Sort

def put0 : Int × List UInt8 := (0, [])
/-- What the first k blocks give. -/
def tabOf (M C : Nat) (us : List (Int × List UInt8)) : Nat → Tab
  | 0 => fun _ _ => none
  | k + 1 => tabSet (tabOf M C us k) (rowOf M C (us.getD k put0).1.toNat : Nat) (membOf M C (us.getD k put0).1.toNat : Nat) (us.getD k put0).2

theorem tab_len {M C : Nat} {us : List (Int × List UInt8)} (h : ∀ u ∈ us, u.2.length = 128) : ∀ (k : Nat), k ≤ us.length → ∀ r m d, tabOf M C us k r m = some d → d.length = 128
  | 0, _, r, m, d, e => by cases e
  | k + 1, hk, r, m, d, e => by
    have e' : tabSet (tabOf M C us k) (rowOf M C (us.getD k put0).1.toNat : Nat) (membOf M C (us.getD k put0).1.toNat : Nat) (us.getD k put0).2 r m = some d := e
    unfold tabSet at e'
    split at e'
    · simp only [Option.some.injEq] at e'
      rw [← e', List.getD_eq_getElem?_getD, List.getElem?_eq_getElem (by omega)]
      exact h _ (List.getElem_mem _)
    · exact tab_len h k (by omega) r m d e'

/-- A row's patches. -/
def rowX (G : Tab) (dv : Int → Int → Value) (r : Int) (ms : List Int) : List OP := ms.map fun m => (⟨m, r, (G r m).getD []⟩, dv r m)
theorem rowX_len (G : Tab) (dv : Int → Int → Value) (r : Int) (ms : List Int) : (rowX G dv r ms).length = ms.length := by simp [rowX]
theorem rowX_snoc (G : Tab) (dv : Int → Int → Value) (r : Int) (ms : List Int) (i : Nat) (h : i < ms.length) : rowX G dv r (ms.take (i + 1)) = rowX G dv r (ms.take i) ++ [(⟨ms.getD i 0, r, (G r (ms.getD i 0)).getD []⟩, dv r (ms.getD i 0))] := by
  unfold rowX
  rw [List.take_succ_eq_append_getElem h, List.map_append, List.getD_eq_getElem?_getD, List.getElem?_eq_getElem h]
  rfl

def RowIs (G : Tab) (dv : Int → Int → Value) (r : Int) (X : List OP) : Prop :=
  ∃ ms : List Int, ms.Pairwise (· < ·) ∧ (∀ m, m ∈ ms ↔ ((Lit.int .i64 m).wf = true ∧ (G r m).isSome = true)) ∧ X = rowX G dv r ms

/-- Rows of patches, each in a row of the call's own. -/
structure RowsAt (w : World) (B : Nat) (v : Value) (L : List (Value × List OP)) : Prop where
  row : w.ownsRow B 65 1 v L.length (L.map (·.1))
  each : ∀ x ∈ L, ORow w B x.1 x.2

theorem RowsAt.nil (w : World) (B : Nat) : RowsAt w B (.slice none 0 0) [] := ⟨World.ownsRow_nil _ _ _ _, fun x hx => by simp at hx⟩
theorem RowsAt.below {w w' : World} {B : Nat} {v : Value} {L : List (Value × List OP)} (h : RowsAt w B v L) (hb : Below w.heap.size w w') : RowsAt w' B v L :=
  ⟨ownsRow_mod h.row (Chg.ofBelow hb (fun _ => False)) (fun _ _ h => h), fun x hx => (h.each x hx).below hb⟩
theorem RowsAt.snoc {w w5 : World} {B : Nat} {v v' : Value} {L : List (Value × List OP)} {x : Value × List OP} (h : RowsAt w B v L) (hc : Chg (fun g => v.ownBlock = some g) w w5) (hx : ORow w B x.1 x.2)
    (hrow : w5.ownsRow B 65 1 v' (L.length + 1) (L.map (·.1) ++ [x.1])) : RowsAt w5 B v' (L ++ [x]) := by
  have go : ∀ y : Value × List OP, ORow w B y.1 y.2 → ORow w5 B y.1 y.2 := fun y hy =>
    hy.mod hc (fun g hg e => own_ne_own hy.row h.row (by decide) e hg) (fun z hz g hg e => own_ne_own (hy.dat z hz) h.row (by decide) e hg)
  refine ⟨?_, fun y hy => ?_⟩
  · rw [List.length_append, List.length_singleton, List.map_append]
    exact hrow
  · rcases List.mem_append.1 hy with hy | hy
    · exact go y (h.each y hy)
    · obtain rfl : y = x := by simpa using hy
      exact go y hx

theorem slice_rows : SliceOf Try.prog 61 65 1 24 := SliceOf.mk' (z := .slice none 0 0) Try.underlying61 (by decide) (by kernel_rfl) rfl

theorem new_one (W : World) (x : Value) (t : TypeId) (ad : Addr) (had : ad = ⟨W.heap.size, 0, none⟩) : ∀ j u, [x][j]? = some u → (W.alloc (.cells #[x] t)).cell? (ad.add j) = some u := by
  intro j u hj
  subst had
  rw [Go.WideShapes.add_plain, Nat.zero_add, (At.new W #[x] t).cell j, List.getElem?_toArray]
  exact hj

/-- A number in a row of numbers. -/
theorem keys_cell {W : World} {B n : Nat} {sa : Option Addr} {sc : Nat} {rs : List Int} (h : W.ownsRow B 3 1 (.slice sa n sc) rs.length (rs.map (Value.int .i64))) {j : Nat} (hj : j < rs.length) :
    ∃ g, sa = some ⟨g, 0, none⟩ ∧ g < W.heap.size ∧ ∀ i, i < rs.length → W.cell? ⟨g, i, none⟩ = some (.int .i64 (rs.getD i 0)) := by
  obtain ⟨g, cap, hv, _, hlt, hc, _⟩ := ownsRow_cell h (by omega)
  simp only [Value.slice.injEq] at hv
  refine ⟨g, hv.1, hlt, fun i hi => ?_⟩
  rw [hc i hi, List.getElem?_map, List.getElem?_eq_getElem hi, List.getD_eq_getElem?_getD, List.getElem?_eq_getElem hi]
  rfl

end Go.Proofs.Ytkcfmkhakghniaa
