/- Patches that go out: a row of them, sorted. -/
import Derived.Test.YtpegbgomnpinfaaGreatPlnI
import Derived.Test.YtpegbgomnpinfaaGreatMrg8
set_option linter.unusedVariables false
namespace Go.Proofs.YtpegbgomnpinfaaGreat
open Go.RowKit Go.Sort

/-- An append within a drawn region. -/
theorem wp_append_keeps {P : Program} {w : World} {o : Oper} {a : Act} {K : Act → World → Prop} {Q : Exit → Act → World → Prop} (s x : Operand) (t e : TypeId) (sz bytes : Nat)
    (ho : o.op = .call { callee := .builtin .append, args := #[s, x], argTypes := #[t, t] }) (hT : SliceOf P t e sz bytes)
    (B : Nat) (v : Value) (n : Nat) (xs : List Value) (hs : a.eval s = v) (hown : w.ownsRow B e sz v n xs)
    (ad : Addr) (m c : Nat) (news : List Value) (hx : a.eval x = .slice (some ad) m c) (hl : news.length = m * sz) (hnews : ∀ j u, news[j]? = some u → w.cell? (ad.add j) = some u) (h1 : ∀ u ∈ news, u.oneCell' = true)
    (h63 : n + m ≤ maxLen) (hbytes : (n + m) * bytes ≤ 140737488355328) (hbase : B ≤ w.heap.size) (hm : 0 < m)
    (h : ∀ v' w', w'.ownsRow B e sz v' (n + m) (xs ++ news) → (v'.ownBlock = v.ownBlock ∨ v'.ownBlock = some w.heap.size) → Chg (fun k => v.ownBlock = some k) w w' → K (a.put o.dst v') w') :
    o.wp P a w K Q := by
  obtain ⟨v', w', hr, h2, h3, h4, h5⟩ := run_append_keeps (P := P) w B t o.type e sz bytes hT v n xs hown ad m c news hl hnews h1 h63 hbytes hbase hm
  unfold Oper.wp execOp
  simp only [ho, resolve, invoke, builtin, Sem.run_bind, Sem.run_pure, Result.andThen_ok, List.map_toArray, List.map_cons, List.map_nil, hs, hx, hr]
  exact h v' w' h2 h3 h4

abbrev OP := Pat × Value
def op0 : OP := (pat0, .slice none 0 0)
def opCells (x : OP) : List Value := [.int .i64 x.1.m, .int .i64 x.1.r, x.2]

/-- Patches in a row of the call's own, the bytes of each in one of its own. -/
structure ORow (w : World) (B : Nat) (v : Value) (X : List OP) : Prop where
  row : w.ownsRow B 153 3 v X.length (elems (fun i => opCells (X.getD i op0)) X.length)
  dat : ∀ x ∈ X, w.ownsRow B 5 1 x.2 128 (ucells x.1.d)
  apart : X.Pairwise fun x y => ∀ g, x.2.ownBlock = some g → y.2.ownBlock ≠ some g

theorem ORow.nil (w : World) (B : Nat) : ORow w B (.slice none 0 0) [] := ⟨World.ownsRow_nil _ _ _ _, fun x hx => by simp at hx, List.Pairwise.nil⟩

theorem ORow.mod {S : Nat → Prop} {w w' : World} {B : Nat} {v : Value} {X : List OP} (h : ORow w B v X) (hc : Chg S w w') (h1 : ∀ g, v.ownBlock = some g → ¬ S g) (h2 : ∀ x ∈ X, ∀ g, x.2.ownBlock = some g → ¬ S g) : ORow w' B v X :=
  ⟨ownsRow_mod h.row hc h1, fun x hx => ownsRow_mod (h.dat x hx) hc (h2 x hx), h.apart⟩
theorem ORow.below {w w' : World} {B : Nat} {v : Value} {X : List OP} (h : ORow w B v X) (hb : Below w.heap.size w w') : ORow w' B v X :=
  h.mod (Chg.ofBelow hb (fun _ => False)) (fun _ _ h => h) (fun _ _ _ _ h => h)
theorem ORow.lower {w : World} {B B' : Nat} {v : Value} {X : List OP} (h : ORow w B v X) (hB : B' ≤ B) : ORow w B' v X := ⟨rebase_row h.row hB, fun x hx => rebase_row (h.dat x hx) hB, h.apart⟩

theorem opElems_snoc (X : List OP) (x : OP) : elems (fun i => opCells ((X ++ [x]).getD i op0)) (X ++ [x]).length = elems (fun i => opCells (X.getD i op0)) X.length ++ opCells x := by
  rw [List.length_append, List.length_singleton, elems_succ, elems_congr (g := fun i => opCells (X.getD i op0))]
  · congr 1
    show opCells ((X ++ [x]).getD X.length op0) = _
    rw [List.getD_eq_getElem?_getD, List.getElem?_append_right (Nat.le_refl _)]
    simp
  · intro j hj
    show opCells ((X ++ [x]).getD j op0) = opCells (X.getD j op0)
    rw [List.getD_eq_getElem?_getD, List.getElem?_append_left hj, ← List.getD_eq_getElem?_getD]

/-- One more has been appended. -/
theorem ORow.snoc {w w5 : World} {B : Nat} {v v' : Value} {X : List OP} {x : OP} (h : ORow w B v X) (hc : Chg (fun g => v.ownBlock = some g) w w5)
    (hx : w.ownsRow B 5 1 x.2 128 (ucells x.1.d)) (hap : ∀ y ∈ X, ∀ g, y.2.ownBlock = some g → x.2.ownBlock ≠ some g)
    (hrow : w5.ownsRow B 153 3 v' (X.length + 1) (elems (fun i => opCells (X.getD i op0)) X.length ++ opCells x)) : ORow w5 B v' (X ++ [x]) := by
  refine ⟨?_, fun y hy => ?_, ?_⟩
  · rw [opElems_snoc, List.length_append, List.length_singleton]
    exact hrow
  · rcases List.mem_append.1 hy with hy | hy
    · exact ownsRow_mod (h.dat y hy) hc (fun g hg e => own_ne_own (h.dat y hy) h.row (by decide) e hg)
    · obtain rfl : y = x := by simpa using hy
      exact ownsRow_mod hx hc (fun g hg e => own_ne_own hx h.row (by decide) e hg)
  · rw [List.pairwise_append]
    exact ⟨h.apart, List.pairwise_singleton _ _, fun y hy z hz => by obtain rfl : z = x := by simpa using hz
                                                                     exact hap y hy⟩

theorem ORow.len {w : World} {B : Nat} {v : Value} {X : List OP} (h : ORow w B v X) : ∀ x ∈ X, x.1.d.length = 128 := fun x hx => by
  have := (h.dat x hx).1
  rw [ucells_length] at this
  omega

/-- .. to be read. -/
theorem ORow.pseg {w : World} {B : Nat} {v : Value} {X : List OP} (h : ORow w B v X) (hfew : X.length ≤ 140737488355328) : PSeg w v (X.map (·.1)) := by
  obtain ⟨a, c, rfl⟩ := ownsRow_shape h.row
  refine ⟨a, c, by rw [List.length_map], by rw [List.length_map]; exact hfew, fun p hp => ?_, ?_⟩
  · obtain ⟨x, hx, rfl⟩ := List.mem_map.1 hp
    have := h.len x hx
    omega
  · by_cases hl : X.length = 0
    · left
      rw [List.eq_nil_of_length_eq_zero hl]
      rfl
    · obtain ⟨g, cap, hv, hB, hg⟩ := ownsRow_full h.row (by omega)
      simp only [Value.slice.injEq] at hv
      obtain ⟨rfl, -, rfl⟩ := hv
      refine .inr ⟨g, 0, rfl, hg, fun j hj => ?_⟩
      rw [List.length_map] at hj
      have e : X.getD j op0 = X[j] := by rw [List.getD_eq_getElem?_getD, List.getElem?_eq_getElem hj]; rfl
      have c0 := own_cell3 h.row (fun k => rfl) j 0 hj (by omega)
      have c1 := own_cell3 h.row (fun k => rfl) j 1 hj (by omega)
      have c2 := own_cell3 h.row (fun k => rfl) j 2 hj (by omega)
      have hd := h.dat _ (List.getElem_mem hj)
      have hl := h.len _ (List.getElem_mem hj)
      rw [e] at c0 c1 c2
      rw [Nat.zero_add, List.getElem_map]
      exact ⟨by rw [show j * 3 = j * 3 + 0 by omega, c0]; rfl, by rw [c1]; rfl, _, by rw [c2]; rfl, seg_of_owns (by rw [hl]; exact hd)⟩

/-- A permutation of images is the images of a permutation. -/
theorem perm_map_lift {α β : Type} {f : α → β} : ∀ {l : List β} {X : List α}, l.Perm (X.map f) → ∃ X' : List α, X'.Perm X ∧ X'.map f = l
  | [], X, h => ⟨[], by
      have := h.length_eq
      rw [List.length_map] at this
      rw [List.eq_nil_of_length_eq_zero (show X.length = 0 by simpa using this.symm)], rfl⟩
  | b :: l, X, h => by
    have hb : b ∈ X.map f := h.mem_iff.1 List.mem_cons_self
    obtain ⟨a, ha, rfl⟩ := List.mem_map.1 hb
    obtain ⟨s, t, rfl⟩ := List.append_of_mem ha
    rw [List.map_append, List.map_cons] at h
    have h2 : l.Perm ((s ++ t).map f) := by
      rw [List.map_append]
      exact (List.perm_cons (f a)).1 (h.trans List.perm_middle)
    obtain ⟨X', h3, h4⟩ := perm_map_lift h2
    exact ⟨a :: X', (h3.cons a).trans List.perm_middle.symm, by rw [List.map_cons, h4]⟩

def shOf : Value → Option Addr × Nat × Nat
  | .slice a n c => (a, n, c)
  | _ => (none, 0, 0)
def toSP (x : OP) : SP := (⟨x.1.m.toNat % 64, Nat.mod_lt _ (by decide)⟩, x.1.r, shOf x.2)
theorem toSP_cells {x : OP} (h0 : 0 ≤ x.1.m) (h1 : x.1.m < 64) (hs : ∃ a n c, x.2 = .slice a n c) : encSP (toSP x) = opCells x := by
  obtain ⟨a, n, c, hs⟩ := hs
  unfold encSP toSP opCells
  rw [hs]
  have : ((x.1.m.toNat % 64 : Nat) : Int) = x.1.m := by omega
  simp only [this, shOf]

set_option maxHeartbeats 1000000 in
theorem orow_sort {w : World} {B : Nat} {v : Value} {X : List OP} (h : ORow w B v X) (h0 : 0 < X.length) (hsz : X.length ≤ 100000) (hm : ∀ x ∈ X, 0 ≤ x.1.m ∧ x.1.m < 64) :
    Calls Tryz.prog 106 #[v, .func (.func 107) #[] #[]] w fun e w' => e = .returned (.tuple #[]) ∧ ∃ X' : List OP, X'.Perm X ∧ X'.Pairwise (fun x y => x.1.m ≤ y.1.m) ∧ ORow w' B v X' ∧ Chg (fun g => v.ownBlock = some g) w w' := by
  obtain ⟨g, cap, rfl, hB, hg⟩ := ownsRow_full h.row h0
  have hsh : ∀ x ∈ X, ∃ a n c, x.2 = .slice a n c := fun x hx => by
    obtain ⟨a, c, e⟩ := ownsRow_shape (h.dat x hx)
    exact ⟨a, _, c, e⟩
  have hsize : (X.map toSP).toArray.size = X.length := by simp
  have hel : ∀ (Y : List OP), (∀ y ∈ Y, y ∈ X) → elems (fun j => encSP (Y.map toSP).toArray[j]!) Y.length = elems (fun i => opCells (Y.getD i op0)) Y.length := fun Y hY => elems_congr fun j hj => by
    have e1 : (Y.map toSP).toArray[j]! = toSP Y[j] := by
      rw [getElem!_pos _ _ (by simpa using hj)]
      simp
    have e2 : Y.getD j op0 = Y[j] := by rw [List.getD_eq_getElem?_getD, List.getElem?_eq_getElem hj]; rfl
    have hmem := hY _ (List.getElem_mem hj)
    show encSP (Y.map toSP).toArray[j]! = opCells (Y.getD j op0)
    rw [e1, e2]
    exact toSP_cells (hm _ hmem).1 (hm _ hmem).2 (hsh _ hmem)
  have hrow : w.ownsRow B 153 3 (.slice (some ⟨g, 0, none⟩) (X.map toSP).toArray.size cap) (X.map toSP).toArray.size (elems (fun j => encSP (X.map toSP).toArray[j]!) (X.map toSP).toArray.size) := by
    rw [hsize, hel X (fun y h => h)]
    exact h.row
  have hc := sort_pats g cap B (X.map toSP).toArray w hrow (by rw [hsize]; exact hsz)
  rw [hsize] at hc
  refine hc.mono fun e w' ⟨he, d', hd, hp, hso, hro, hch⟩ => ⟨he, ?_⟩
  obtain ⟨X', hX, hXd⟩ := perm_map_lift (f := toSP) (X := X) (l := d'.toList) (by simpa using hp)
  have hlen : X'.length = X.length := hX.length_eq
  have hin : ∀ y ∈ X', y ∈ X := fun y hy => hX.mem_iff.1 hy
  have hdd : d' = (X'.map toSP).toArray := by rw [hXd]
  have hgc : ∀ q, q = g ↔ (Value.slice (some ⟨g, 0, none⟩) X.length cap).ownBlock = some q := fun q => by simp [Value.ownBlock, eq_comm]
  refine ⟨X', hX, ?_, ⟨?_, fun x hx => ?_, ?_⟩, hch.mono fun q hq => (hgc q).1 hq⟩
  · rw [List.pairwise_iff_getElem]
    intro i j hi hj hij
    have := hso i j hij (by rw [← hlen]; exact hj)
    rw [hdd] at this
    rw [getElem!_pos _ _ (by simpa using hi), getElem!_pos _ _ (by simpa using hj)] at this
    simp only [List.getElem_toArray, List.getElem_map, toSP] at this
    have h1 := hm _ (hin _ (List.getElem_mem hi))
    have h2 := hm _ (hin _ (List.getElem_mem hj))
    omega
  · rw [hlen]
    have := hel X' hin
    rw [hlen] at this
    rw [← this, ← hdd]
    exact hro
  · exact ownsRow_mod (h.dat x (hin x hx)) hch (fun q hq e => own_ne_own (h.dat x (hin x hx)) h.row (by decide) ((hgc q).1 e) hq)
  · exact hX.symm.pairwise h.apart (fun {x y} hxy q hq e => hxy q e hq)

end Go.Proofs.YtpegbgomnpinfaaGreat
