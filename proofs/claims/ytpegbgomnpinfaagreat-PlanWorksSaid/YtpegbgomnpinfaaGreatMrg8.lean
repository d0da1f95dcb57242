/- Several texts in one: PlnJ, PlnO, PlzA, PlnL. -/
import Derived.Test.YtpegbgomnpinfaaGreatPlnI
import Derived.Test.YtpegbgomnpinfaaGreatMrg7
import Derived.Test.YtpegbgomnpinfaaGreatMrg5
import Derived.Test.YtpegbgomnpinfaaGreatMrg3
import Derived.Test.YtpegbgomnpinfaaGreatDiskB
import Derived.Test.YtpegbgomnpinfaaGreatMrg4
/- Patches that go out: a row of them, sorted. -/
set_option linter.unusedVariables false
namespace Go.Proofs.YtpegbgomnpinfaaGreat
open Go.RowKit Go.Sort

/-- An append within a drawn region. -/
theorem wp_append_keeps {P : Program} {w : World} {o : Oper} {a : Act} {K : Act → World → Prop} {Q : Exit → Act → World → Prop} (s x : Operand) (t e : TypeId) (sz bytes : Nat)
    (ho : o.op = .call { callee := .builtin .append, args := #[s, x], argTypes := #[t, t] }) (hT : SliceOf P t e sz bytes)
    (B : Nat) (v : Value) (n : Nat) (xs : List Value) (hs : a.eval s = v) (hown : w.ownsRow B e sz v n xs)
    (ad : Addr) (m c : Nat) (news : List Value) (hx : a.eval x = .slice (some ad) m c) (hl : news.length = m * sz) (hnews : ∀ j u, news[j]? = some u → w.cell? (ad.add j) = some u) (h1 : ∀ u ∈ news, u.oneCell' = true)
    (h63 : n + m ≤ maxLen) (hbytes : (n + m) * bytes ≤ 140737488355328) (hbase : B ≤ w.heap.size) (hm : 0 < m)
    (h : ∀ v' w', w'.ownsRow B e sz v' (n + m) (xs ++ news) → (v'.ownBlock = v.ownBlock ∨ v'.ownBlock = some w.heap.size) → Chg (fun k => v.ownBlock = some k) w w' → K (a.put o.dst v') w') :
    o.wp P a w K Q := by
  obtain ⟨v', w', hr, h2, h3, h4, h5⟩ := run_append_keeps (P := P) w B t o.type e sz bytes hT v n xs hown ad m c news hl hnews h1 h63 hbytes hbase hm
  unfold Oper.wp execOp
  simp only [ho, resolve, invoke, builtin, Sem.run_bind, Sem.run_pure, Result.andThen_ok, List.map_toArray, List.map_cons, List.map_nil, hs, hx, hr]
  exact h v' w' h2 h3 h4

abbrev OP := Pat × Value
def op0 : OP := (pat0, .slice none 0 0)
def opCells (x : OP) : List Value := [.int .i64 x.1.m, .int .i64 x.1.r, x.2]

/-- Patches in a row of the call's own, the bytes of each in one of its own. -/
structure ORow (w : World) (B : Nat) (v : Value) (X : List OP) : Prop where
  row : w.ownsRow B 153 3 v X.length (elems (fun i => opCells (X.getD i op0)) X.length)
  dat : ∀ x ∈ X, w.ownsRow B 5 1 x.2 128 (ucells x.1.d)
  apart : X.Pairwise fun x y => ∀ g, x.2.ownBlock = some g → y.2.ownBlock ≠ some g

theorem ORow.nil (w : World) (B : Nat) : ORow w B (.slice none 0 0) [] := ⟨World.ownsRow_nil _ _ _ _, fun x hx => by simp at hx, List.Pairwise.nil⟩

theorem ORow.mod {S : Nat → Prop} {w w' : World} {B : Nat} {v : Value} {X : List OP} (h : ORow w B v X) (hc : Chg S w w') (h1 : ∀ g, v.ownBlock = some g → ¬ S g) (h2 : ∀ x ∈ X, ∀ g, x.2.ownBlock = some g → ¬ S g) : ORow w' B v X :=
  ⟨ownsRow_mod h.row hc h1, fun x hx => ownsRow_mod (h.dat x hx) hc (h2 x hx), h.apart⟩
theorem ORow.below {w w' : World} {B : Nat} {v : Value} {X : List OP} (h : ORow w B v X) (hb : Below w.heap.size w w') : ORow w' B v X :=
  h.mod (Chg.ofBelow hb (fun _ => False)) (fun _ _ h => h) (fun _ _ _ _ h => h)
theorem ORow.lower {w : World} {B B' : Nat} {v : Value} {X : List OP} (h : ORow w B v X) (hB : B' ≤ B) : ORow w B' v X := ⟨rebase_row h.row hB, fun x hx => rebase_row (h.dat x hx) hB, h.apart⟩

theorem opElems_snoc (X : List OP) (x : OP) : elems (fun i => opCells ((X ++ [x]).getD i op0)) (X ++ [x]).length = elems (fun i => opCells (X.getD i op0)) X.length ++ opCells x := by
  rw [List.length_append, List.length_singleton, elems_succ, elems_congr (g := fun i => opCells (X.getD i op0))]
  · congr 1
    show opCells ((X ++ [x]).getD X.length op0) = _
    rw [List.getD_eq_getElem?_getD, List.getElem?_append_right (Nat.le_refl _)]
    simp
  · intro j hj
    show opCells ((X ++ [x]).getD j op0) = opCells (X.getD j op0)
    rw [List.getD_eq_getElem?_getD, List.getElem?_append_left hj, ← List.getD_eq_getElem?_getD]

/-- One more has been appended. -/
theorem ORow.snoc {w w5 : World} {B : Nat} {v v' : Value} {X : List OP} {x : OP} (h : ORow w B v X) (hc : Chg (fun g => v.ownBlock = some g) w w5)
    (hx : w.ownsRow B 5 1 x.2 128 (ucells x.1.d)) (hap : ∀ y ∈ X, ∀ g, y.2.ownBlock = some g → x.2.ownBlock ≠ some g)
    (hrow : w5.ownsRow B 153 3 v' (X.length + 1) (elems (fun i => opCells (X.getD i op0)) X.length ++ opCells x)) : ORow w5 B v' (X ++ [x]) := by
  refine ⟨?_, fun y hy => ?_, ?_⟩
  · rw [opElems_snoc, List.length_append, List.length_singleton]
    exact hrow
  · rcases List.mem_append.1 hy with hy | hy
    · exact ownsRow_mod (h.dat y hy) hc (fun g hg e => own_ne_own (h.dat y hy) h.row (by decide) e hg)
    · obtain rfl : y = x := by simpa using hy
      exact ownsRow_mod hx hc (fun g hg e => own_ne_own hx h.row (by decide) e hg)
  · rw [List.pairwise_append]
    exact ⟨h.apart, List.pairwise_singleton _ _, fun y hy z hz => by obtain rfl : z = x := by simpa using hz
                                                                     exact hap y hy⟩

theorem ORow.len {w : World} {B : Nat} {v : Value} {X : List OP} (h : ORow w B v X) : ∀ x ∈ X, x.1.d.length = 128 := fun x hx => by
  have := (h.dat x hx).1
  rw [ucells_length] at this
  omega

/-- .. to be read. -/
theorem ORow.pseg {w : World} {B : Nat} {v : Value} {X : List OP} (h : ORow w B v X) (hfew : X.length ≤ 140737488355328) : PSeg w v (X.map (·.1)) := by
  obtain ⟨a, c, rfl⟩ := ownsRow_shape h.row
  refine ⟨a, c, by rw [List.length_map], by rw [List.length_map]; exact hfew, fun p hp => ?_, ?_⟩
  · obtain ⟨x, hx, rfl⟩ := List.mem_map.1 hp
    have := h.len x hx
    omega
  · by_cases hl : X.length = 0
    · left
      rw [List.eq_nil_of_length_eq_zero hl]
      rfl
    · obtain ⟨g, cap, hv, hB, hg⟩ := ownsRow_full h.row (by omega)
      simp only [Value.slice.injEq] at hv
      obtain ⟨rfl, -, rfl⟩ := hv
      refine .inr ⟨g, 0, rfl, hg, fun j hj => ?_⟩
      rw [List.length_map] at hj
      have e : X.getD j op0 = X[j] := by rw [List.getD_eq_getElem?_getD, List.getElem?_eq_getElem hj]; rfl
      have c0 := own_cell3 h.row (fun k => rfl) j 0 hj (by omega)
      have c1 := own_cell3 h.row (fun k => rfl) j 1 hj (by omega)
      have c2 := own_cell3 h.row (fun k => rfl) j 2 hj (by omega)
      have hd := h.dat _ (List.getElem_mem hj)
      have hl := h.len _ (List.getElem_mem hj)
      rw [e] at c0 c1 c2
      rw [Nat.zero_add, List.getElem_map]
      exact ⟨by rw [show j * 3 = j * 3 + 0 by omega, c0]; rfl, by rw [c1]; rfl, _, by rw [c2]; rfl, seg_of_owns (by rw [hl]; exact hd)⟩

/-- A permutation of images is the images of a permutation. -/
theorem perm_map_lift {α β : Type} {f : α → β} : ∀ {l : List β} {X : List α}, l.Perm (X.map f) → ∃ X' : List α, X'.Perm X ∧ X'.map f = l
  | [], X, h => ⟨[], by
      have := h.length_eq
      rw [List.length_map] at this
      rw [List.eq_nil_of_length_eq_zero (show X.length = 0 by simpa using this.symm)], rfl⟩
  | b :: l, X, h => by
    have hb : b ∈ X.map f := h.mem_iff.1 List.mem_cons_self
    obtain ⟨a, ha, rfl⟩ := List.mem_map.1 hb
    obtain ⟨s, t, rfl⟩ := List.append_of_mem ha
    rw [List.map_append, List.map_cons] at h
    have h2 : l.Perm ((s ++ t).map f) := by
      rw [List.map_append]
      exact (List.perm_cons (f a)).1 (h.trans List.perm_middle)
    obtain ⟨X', h3, h4⟩ := perm_map_lift h2
    exact ⟨a :: X', (h3.cons a).trans List.perm_middle.symm, by rw [List.map_cons, h4]⟩

def shOf : Value → Option Addr × Nat × Nat
  | .slice a n c => (a, n, c)
  | _ => (none, 0, 0)
def toSP (x : OP) : SP := (⟨x.1.m.toNat % 64, Nat.mod_lt _ (by decide)⟩, x.1.r, shOf x.2)
theorem toSP_cells {x : OP} (h0 : 0 ≤ x.1.m) (h1 : x.1.m < 64) (hs : ∃ a n c, x.2 = .slice a n c) : encSP (toSP x) = opCells x := by
  obtain ⟨a, n, c, hs⟩ := hs
  unfold encSP toSP opCells
  rw [hs]
  have : ((x.1.m.toNat % 64 : Nat) : Int) = x.1.m := by omega
  simp only [this, shOf]

set_option maxHeartbeats 1000000 in
theorem orow_sort {w : World} {B : Nat} {v : Value} {X : List OP} (h : ORow w B v X) (h0 : 0 < X.length) (hsz : X.length ≤ 100000) (hm : ∀ x ∈ X, 0 ≤ x.1.m ∧ x.1.m < 64) :
    Calls Tryz.prog 106 #[v, .func (.func 107) #[] #[]] w fun e w' => e = .returned (.tuple #[]) ∧ ∃ X' : List OP, X'.Perm X ∧ X'.Pairwise (fun x y => x.1.m ≤ y.1.m) ∧ ORow w' B v X' ∧ Chg (fun g => v.ownBlock = some g) w w' := by
  obtain ⟨g, cap, rfl, hB, hg⟩ := ownsRow_full h.row h0
  have hsh : ∀ x ∈ X, ∃ a n c, x.2 = .slice a n c := fun x hx => by
    obtain ⟨a, c, e⟩ := ownsRow_shape (h.dat x hx)
    exact ⟨a, _, c, e⟩
  have hsize : (X.map toSP).toArray.size = X.length := by simp
  have hel : ∀ (Y : List OP), (∀ y ∈ Y, y ∈ X) → elems (fun j => encSP (Y.map toSP).toArray[j]!) Y.length = elems (fun i => opCells (Y.getD i op0)) Y.length := fun Y hY => elems_congr fun j hj => by
    have e1 : (Y.map toSP).toArray[j]! = toSP Y[j] := by
      rw [getElem!_pos _ _ (by simpa using hj)]
      simp
    have e2 : Y.getD j op0 = Y[j] := by rw [List.getD_eq_getElem?_getD, List.getElem?_eq_getElem hj]; rfl
    have hmem := hY _ (List.getElem_mem hj)
    show encSP (Y.map toSP).toArray[j]! = opCells (Y.getD j op0)
    rw [e1, e2]
    exact toSP_cells (hm _ hmem).1 (hm _ hmem).2 (hsh _ hmem)
  have hrow : w.ownsRow B 153 3 (.slice (some ⟨g, 0, none⟩) (X.map toSP).toArray.size cap) (X.map toSP).toArray.size (elems (fun j => encSP (X.map toSP).toArray[j]!) (X.map toSP).toArray.size) := by
    rw [hsize, hel X (fun y h => h)]
    exact h.row
  have hc := sort_pats g cap B (X.map toSP).toArray w hrow (by rw [hsize]; exact hsz)
  rw [hsize] at hc
  refine hc.mono fun e w' ⟨he, d', hd, hp, hso, hro, hch⟩ => ⟨he, ?_⟩
  obtain ⟨X', hX, hXd⟩ := perm_map_lift (f := toSP) (X := X) (l := d'.toList) (by simpa using hp)
  have hlen : X'.length = X.length := hX.length_eq
  have hin : ∀ y ∈ X', y ∈ X := fun y hy => hX.mem_iff.1 hy
  have hdd : d' = (X'.map toSP).toArray := by rw [hXd]
  have hgc : ∀ q, q = g ↔ (Value.slice (some ⟨g, 0, none⟩) X.length cap).ownBlock = some q := fun q => by simp [Value.ownBlock, eq_comm]
  refine ⟨X', hX, ?_, ⟨?_, fun x hx => ?_, ?_⟩, hch.mono fun q hq => (hgc q).1 hq⟩
  · rw [List.pairwise_iff_getElem]
    intro i j hi hj hij
    have := hso i j hij (by rw [← hlen]; exact hj)
    rw [hdd] at this
    rw [getElem!_pos _ _ (by simpa using hi), getElem!_pos _ _ (by simpa using hj)] at this
    simp only [List.getElem_toArray, List.getElem_map, toSP] at this
    have h1 := hm _ (hin _ (List.getElem_mem hi))
    have h2 := hm _ (hin _ (List.getElem_mem hj))
    omega
  · rw [hlen]
    have := hel X' hin
    rw [hlen] at this
    rw [← this, ← hdd]
    exact hro
  · exact ownsRow_mod (h.dat x (hin x hx)) hch (fun q hq e => own_ne_own (h.dat x (hin x hx)) h.row (by decide) ((hgc q).1 e) hq)
  · exact hX.symm.pairwise h.apart (fun {x y} hxy q hq e => hxy q e hq)

end Go.Proofs.YtpegbgomnpinfaaGreat

/- plan.Split: the maps of maps that it makes. -/
set_option linter.unusedVariables false
namespace Go.Proofs.YtpegbgomnpinfaaGreat
open Go.RowKit

/-- A batch, to be read. -/
def PutSeg (w : World) (v : Value) (us : List (Int × List UInt8)) : Prop :=
  ∃ a c, v = .slice a us.length c ∧ us.length ≤ 140737488355328 ∧ (∀ u ∈ us, u.2.length ≤ 140737488355000) ∧
    (us = [] ∨ ∃ b o, a = some ⟨b, o, none⟩ ∧ b < w.heap.size ∧ ∀ j (h : j < us.length), w.cell? ⟨b, o + j * 2, none⟩ = some (.int .i64 us[j].1) ∧ ∃ x, w.cell? ⟨b, o + j * 2 + 1, none⟩ = some x ∧ Seg w x us[j].2)
theorem PutSeg.below {w w' : World} {v : Value} {us : List (Int × List UInt8)} (h : PutSeg w v us) (hb : Below w.heap.size w w') : PutSeg w' v us := by
  obtain ⟨a, c, h1, h2, h3, h4⟩ := h
  refine ⟨a, c, h1, h2, h3, ?_⟩
  rcases h4 with h4 | ⟨b, o, h5, h6, h7⟩
  · exact .inl h4
  · refine .inr ⟨b, o, h5, Nat.lt_of_lt_of_le h6 hb.size, fun j hj => ?_⟩
    obtain ⟨e1, x, e2, e3⟩ := h7 j hj
    exact ⟨(hb.cell (p := ⟨b, o + j * 2, none⟩) h6).trans e1, x, (hb.cell (p := ⟨b, o + j * 2 + 1, none⟩) h6).trans e2, e3.below hb⟩
theorem PutSeg.shape {w : World} {v : Value} {us : List (Int × List UInt8)} (h : PutSeg w v us) : ∃ a c, v = .slice a us.length c := by
  obtain ⟨a, c, h1, _⟩ := h
  exact ⟨a, c, h1⟩
theorem PutSeg.few {w : World} {v : Value} {us : List (Int × List UInt8)} (h : PutSeg w v us) : us.length ≤ 140737488355328 := by
  obtain ⟨a, c, h1, h2, _⟩ := h
  exact h2
theorem PutSeg.full {w : World} {a : Option Addr} {n c : Nat} {us : List (Int × List UInt8)} (h : PutSeg w (.slice a n c) us) (hl : 0 < us.length) :
    ∃ b o, a = some ⟨b, o, none⟩ ∧ b < w.heap.size ∧ ∀ j (h : j < us.length), w.cell? ⟨b, o + j * 2, none⟩ = some (.int .i64 us[j].1) ∧ ∃ x, w.cell? ⟨b, o + j * 2 + 1, none⟩ = some x ∧ Seg w x us[j].2 := by
  obtain ⟨a', c', h1, h2, h3, h4⟩ := h
  simp only [Value.slice.injEq] at h1
  obtain ⟨rfl, -, rfl⟩ := h1
  rcases h4 with h4 | h4
  · subst h4; simp at hl
  · exact h4

set_option maxHeartbeats 1000000 in
theorem clone_gen (v : Value) (l : List UInt8) (w : World) (hl : l.length ≤ 140737488355000) (hv : Seg w v l) :
    Calls Tryz.prog 89 #[v] w fun e w' => ∃ v', e = .returned v' ∧ w'.ownsRow w.heap.size 5 1 v' l.length (ucells l) ∧ Below w.heap.size w w' := by
  have hv0 := hv
  obtain ⟨a, cap, rfl, ⟨h1, h2⟩, h3⟩ := hv
  cases a with
  | some ad => exact clone_any ad cap l w hl hv0
  | none =>
    obtain ⟨h4, h5⟩ := h1 rfl
    have hnil : l = [] := List.eq_nil_of_length_eq_zero h4
    subst hnil
    subst h5
    have qN : ∀ W : World, (binOp .eql 53 (.slice none 0 0) (.slice none 0 0)).run Tryz.prog W = .ok (.bool true) W := fun W => Lib.run_eql_slice_nil W _ _ none _ _ 0 0 Tryz.underlying53
    clear hv0 h1 h2 h3 h4
    simp only [List.length_nil] at *
    go_enter Tryz.func89, Tryz.ntmps89
    go_wp2
    go_ret
    exact ⟨_, rfl, World.ownsRow_nil _ _ _ _, Below.refl _ _⟩

/-- What has been given, by row and member. -/
abbrev Tab := Int → Int → Option (List UInt8)
def tabSet (G : Tab) (r m : Int) (d : List UInt8) : Tab := fun r' m' => if r' = r ∧ m' = m then some d else G r' m'

/-- Where Split's maps stand. -/
structure SplitAt (W : World) (B gm n : Nat) (R : Int → Bool) (G : Tab) (inn : Int → Nat) (dv : Int → Int → Value) : Prop where
  outer : W.vmap Tryz.prog 3 .i64 gm n (fun r => if R r = true then some (.map (some (inn r))) else none)
  inner : ∀ r, R r = true → W.vmap Tryz.prog 3 .i64 (inn r) n (fun m => (G r m).map fun _ => patVal m r (dv r m))
  iap : ∀ r r', R r = true → R r' = true → r ≠ r' → inn r ≠ inn r'
  ig : ∀ r, R r = true → inn r ≠ gm
  dat : ∀ r m d, G r m = some d → W.ownsRow B 5 1 (dv r m) d.length (ucells d)
  dap : ∀ r m d r' m' d', G r m = some d → G r' m' = some d' → ¬ (r = r' ∧ m = m') → ∀ g, (dv r m).ownBlock = some g → (dv r' m').ownBlock ≠ some g
  sub : ∀ r m d, G r m = some d → R r = true
  low : B ≤ gm
  lows : ∀ r, R r = true → B ≤ inn r

theorem vmap_ne_row {W : World} {P : Program} {k : TypeId} {κ : IntKind} {b n : Nat} {f : Int → Option Value} (h : W.vmap P k κ b n f) {B : Nat} {t : TypeId} {sz : Nat} {v : Value} {m : Nat} {xs : List Value} (hr : W.ownsRow B t sz v m xs) : v.ownBlock ≠ some b := by
  intro hv
  obtain ⟨D, ⟨es, clock, h1, _⟩, _⟩ := h
  rcases hr.2 with ⟨rfl, _⟩ | ⟨g, cap, cur, rfl, _, hg, _⟩
  · cases hv
  · simp only [Value.ownBlock, Option.some.injEq] at hv
    subst hv
    rw [h1] at hg
    cases hg

theorem SplitAt.mod {S : Nat → Prop} {W W' : World} {B gm n : Nat} {R : Int → Bool} {G : Tab} {inn : Int → Nat} {dv : Int → Int → Value} (h : SplitAt W B gm n R G inn dv) (hc : Chg S W W') (h1 : ¬ S gm) (h2 : ∀ r, R r = true → ¬ S (inn r)) (h3 : ∀ r m d, G r m = some d → ∀ g, (dv r m).ownBlock = some g → ¬ S g) : SplitAt W' B gm n R G inn dv :=
  ⟨h.outer.mod hc h1, fun r hr => (h.inner r hr).mod hc (h2 r hr), h.iap, h.ig, fun r m d hd => ownsRow_mod (h.dat r m d hd) hc (h3 r m d hd), h.dap, h.sub, h.low, h.lows⟩
theorem SplitAt.below {W W' : World} {B gm n : Nat} {R : Int → Bool} {G : Tab} {inn : Int → Nat} {dv : Int → Int → Value} (h : SplitAt W B gm n R G inn dv) (hb : Below W.heap.size W W') : SplitAt W' B gm n R G inn dv :=
  h.mod (Chg.ofBelow hb (fun _ => False)) (fun h => h) (fun _ _ h => h) (fun _ _ _ _ _ _ h => h)

theorem SplitAt.mono {W : World} {B gm n : Nat} {R : Int → Bool} {G : Tab} {inn : Int → Nat} {dv : Int → Int → Value} (h : SplitAt W B gm n R G inn dv) {n' : Nat} (hn : n ≤ n') : SplitAt W B gm n' R G inn dv :=
  ⟨h.outer.mono hn, fun r hr => (h.inner r hr).mono hn, h.iap, h.ig, h.dat, h.dap, h.sub, h.low, h.lows⟩

theorem vmap_ne_at {W : World} {P : Program} {k : TypeId} {κ : IntKind} {b n g : Nat} {f : Int → Option Value} {cs : Array Value} {t : TypeId} (h : W.vmap P k κ b n f) (ha : At W g cs t) : ¬ g = b := fun e => by
  subst e
  obtain ⟨D, ⟨es, clock, h1, _⟩, _⟩ := h
  unfold At at ha
  rw [h1] at ha
  cases ha

theorem SplitAt.start (W : World) : SplitAt (W.alloc (.map #[] 0)) W.heap.size W.heap.size 0 (fun _ => false) (fun _ _ => none) (fun _ => 0) (fun _ _ => undef) := by
  refine ⟨?_, fun r hr => (by cases hr), fun r r' hr => (by cases hr), fun r hr => (by cases hr), fun r m d hd => (by cases hd), fun r m d r' m' d' hd => (by cases hd), fun r m d hd => (by cases hd), Nat.le_refl _, fun r hr => (by cases hr)⟩
  have := World.vmap_made W Tryz.prog 3 .i64
  simpa using this

/-- A row's own map has been laid. -/
theorem SplitAt.newRow {W W2 : World} {B gm n : Nat} {R : Int → Bool} {G : Tab} {inn : Int → Nat} {dv : Int → Int → Value} (h : SplitAt W B gm n R G inn dv) (hB : B ≤ W.heap.size) {r : Int} (hR : R r = false)
    (hv : W2.vmap Tryz.prog 3 .i64 gm (n + 1) (fun i => if i = r then some (.map (some W.heap.size)) else if R i = true then some (.map (some (inn i))) else none)) (hc : Chg (fun x => x = gm) (W.alloc (.map #[] 0)) W2) :
    SplitAt W2 B gm (n + 1) (fun i => if i = r then true else R i) G (fun i => if i = r then W.heap.size else inn i) dv := by
  have hA := h.below ((Below.refl W.heap.size W).alloc (Nat.le_refl _) (.map #[] 0))
  have hGr : ∀ m, G r m = none := fun m => by
    cases hg : G r m with
    | none => rfl
    | some d => have := h.sub r m d hg; rw [hR] at this; cases this
  have hlt : ∀ i, R i = true → inn i < W.heap.size := fun i hi => (h.inner i hi).lt
  have hgl := h.outer.lt
  refine ⟨?_, fun i hi => ?_, fun i j hi hj hij => ?_, fun i hi => ?_, fun i m d hd => ?_, h.dap, fun i m d hd => ?_, h.low, fun i hi => ?_⟩
  · have e : (fun i => if (if i = r then true else R i) = true then some (Value.map (some (if i = r then W.heap.size else inn i))) else none) = (fun i => if i = r then some (.map (some W.heap.size)) else if R i = true then some (.map (some (inn i))) else none) := by
      funext i
      by_cases hi : i = r
      · simp [hi]
      · simp [hi]
    rw [e]
    exact hv
  · by_cases hir : i = r
    · subst hir
      rw [if_pos rfl]
      have e : (fun m => (G i m).map fun _ => patVal m i (dv i m)) = fun _ => none := by
        funext m
        rw [hGr m]
        rfl
      rw [e]
      exact ((World.vmap_made W Tryz.prog 3 .i64).mod hc (by omega)).mono (Nat.zero_le _)
    · rw [if_neg hir] at hi ⊢
      exact ((hA.inner i hi).mod hc (h.ig i hi)).mono (Nat.le_succ _)
  · by_cases hir : i = r
    · subst hir
      rw [if_pos rfl, if_neg (Ne.symm hij)]
      rw [if_neg (Ne.symm hij)] at hj
      have := hlt j hj
      omega
    · rw [if_neg hir] at hi ⊢
      by_cases hjr : j = r
      · rw [if_pos hjr]
        have := hlt i hi
        omega
      · rw [if_neg hjr] at hj ⊢
        exact h.iap i j hi hj hij
  · by_cases hir : i = r
    · rw [if_pos hir]; omega
    · rw [if_neg hir] at hi ⊢
      exact h.ig i hi
  · exact ownsRow_mod (hA.dat i m d hd) hc (fun g hg e => vmap_ne_row hA.outer (hA.dat i m d hd) (e ▸ hg))
  · by_cases hir : i = r
    · rw [if_pos hir]
    · rw [if_neg hir]; exact h.sub i m d hd
  · by_cases hir : i = r
    · rw [if_pos hir]; exact hB
    · rw [if_neg hir] at hi ⊢
      exact h.lows i hi

/-- A block has been laid into its row's map; its bytes u were made behind W. -/
theorem SplitAt.setPat {W W1 W2 : World} {B gm n : Nat} {R : Int → Bool} {G : Tab} {inn : Int → Nat} {dv : Int → Int → Value} (h : SplitAt W B gm n R G inn dv) (hB : B ≤ W.heap.size) {r m : Int} {d : List UInt8} {u : Value} (hR : R r = true)
    (hb : Below W.heap.size W W1) (hu : W1.ownsRow W.heap.size 5 1 u d.length (ucells d))
    (hv : W2.vmap Tryz.prog 3 .i64 (inn r) (n + 1) (fun i => if i = m then some (patVal m r u) else (G r i).map fun _ => patVal i r (dv r i))) (hc : Chg (fun x => x = inn r) W1 W2) :
    SplitAt W2 B gm (n + 1) R (tabSet G r m d) inn (fun r' m' => if r' = r ∧ m' = m then u else dv r' m') := by
  have hA := h.below hb
  have hold : ∀ r' m' d', G r' m' = some d' → ∀ g, (dv r' m').ownBlock = some g → g < W.heap.size := fun r' m' d' hd g hg => ((h.dat r' m' d' hd).lt g hg).2
  refine ⟨(hA.outer.mod hc (fun e => h.ig r hR e.symm)).mono (Nat.le_succ _), fun i hi => ?_, h.iap, h.ig, fun i j e he => ?_, fun i j e i' j' e' he he' hne g hg => ?_, fun i j e he => ?_, h.low, h.lows⟩
  · by_cases hir : i = r
    · subst hir
      have e : (fun j => (tabSet G i m d i j).map fun _ => patVal j i (if i = i ∧ j = m then u else dv i j)) = (fun j => if j = m then some (patVal m i u) else (G i j).map fun _ => patVal j i (dv i j)) := by
        funext j
        unfold tabSet
        by_cases hj : j = m
        · simp [hj]
        · simp [hj]
      rw [e]
      exact hv
    · have e : (fun j => (tabSet G r m d i j).map fun _ => patVal j i (if i = r ∧ j = m then u else dv i j)) = (fun j => (G i j).map fun _ => patVal j i (dv i j)) := by
        funext j
        unfold tabSet
        simp [hir]
      rw [e]
      exact ((hA.inner i hi).mod hc (fun e => h.iap i r hi hR hir e)).mono (Nat.le_succ _)
  · show W2.ownsRow B _ 1 (if i = r ∧ j = m then u else dv i j) _ _
    unfold tabSet at he
    by_cases hij : i = r ∧ j = m
    · rw [if_pos hij] at he ⊢
      simp only [Option.some.injEq] at he
      subst he
      exact ownsRow_mod (rebase_row hu hB) hc (fun g hg e => vmap_ne_row (hA.inner r hR) hu (e ▸ hg))
    · rw [if_neg hij] at he ⊢
      exact ownsRow_mod (hA.dat i j e he) hc (fun g hg e' => vmap_ne_row (hA.inner r hR) (hA.dat i j e he) (e' ▸ hg))
  · have hg' : (if i = r ∧ j = m then u else dv i j).ownBlock = some g := hg
    show (if i' = r ∧ j' = m then u else dv i' j').ownBlock ≠ some g
    unfold tabSet at he he'
    by_cases hij : i = r ∧ j = m
    · rw [if_pos hij] at hg'
      by_cases hij' : i' = r ∧ j' = m
      · exact absurd ⟨hij.1.trans hij'.1.symm, hij.2.trans hij'.2.symm⟩ hne
      · rw [if_neg hij'] at he' ⊢
        intro e2
        have h1 := (hu.lt g hg').1
        have h2 := hold i' j' e' he' g e2
        omega
    · rw [if_neg hij] at he hg'
      by_cases hij' : i' = r ∧ j' = m
      · rw [if_pos hij']
        intro e2
        have h1 := (hu.lt g e2).1
        have h2 := hold i j e he g hg'
        omega
      · rw [if_neg hij'] at he' ⊢
        exact h.dap i j e i' j' e' he he' hne g hg'
  · unfold tabSet at he
    by_cases hij : i = r ∧ j = m
    · rw [hij.1]; exact hR
    · rw [if_neg hij] at he
      exact h.sub i j e he

end Go.Proofs.YtpegbgomnpinfaaGreat

/- What is lent: bytes, with marks behind; whole; spoilt. -/
set_option linter.unusedVariables false
namespace Go.Proofs.YtpegbgomnpinfaaGreat
open Go.RowKit

def lentCells (l : List UInt8) : Array Value := (ucells l ++ [Value.int .u8 91, Value.int .u8 92]).toArray

/-- Such a slice, lent, in a block from lo on: its two marks stand behind. -/
def Lent (w : World) (lo : Nat) (v : Value) (l : List UInt8) : Prop := ∃ g, lo ≤ g ∧ v = .slice (some ⟨g, 0, none⟩) l.length (l.length + 2) ∧ At w g (lentCells l) 5

theorem Lent.seg {w : World} {lo : Nat} {v : Value} {l : List UInt8} (h : Lent w lo v l) : Seg w v l := by
  obtain ⟨g, -, rfl, h⟩ := h
  refine ⟨_, _, rfl, ⟨fun h => by simp at h, by omega⟩, .inr ⟨g, 0, rfl, h.lt, fun j hj => ?_⟩⟩
  rw [h.cell (0 + j), Nat.zero_add]
  simp [lentCells, ucells, List.getElem?_append, hj]
theorem Lent.below {w w' : World} {lo : Nat} {v : Value} {l : List UInt8} (h : Lent w lo v l) (hb : Below w.heap.size w w') : Lent w' lo v l := by
  obtain ⟨g, hg, rfl, h⟩ := h
  exact ⟨g, hg, rfl, h.below hb h.lt⟩
theorem Lent.mod {S : Nat → Prop} {w w' : World} {lo : Nat} {v : Value} {l : List UInt8} (h : Lent w lo v l) (hc : Chg S w w') (hS : ∀ g, v.ownBlock = some g → ¬ S g) : Lent w' lo v l := by
  obtain ⟨g, hg, rfl, h⟩ := h
  exact ⟨g, hg, rfl, h.mod hc (hS g rfl)⟩
theorem Lent.lower {w : World} {lo lo' : Nat} {v : Value} {l : List UInt8} (h : Lent w lo v l) (hl : lo' ≤ lo) : Lent w lo' v l := by
  obtain ⟨g, hg, rfl, h⟩ := h
  exact ⟨g, Nat.le_trans hl hg, rfl, h⟩
theorem Lent.block {w : World} {lo : Nat} {v : Value} {l : List UInt8} (h : Lent w lo v l) {g : Nat} (hv : v.ownBlock = some g) : ∃ cs, At w g cs 5 := by
  obtain ⟨g', hg, rfl, h⟩ := h
  obtain rfl : g' = g := by simpa [Value.ownBlock] using hv
  exact ⟨_, h⟩
theorem lentCells_mark (l : List UInt8) : (lentCells l)[l.length]? = some (.int .u8 91) ∧ (lentCells l)[l.length + 1]? = some (.int .u8 92) := by
  constructor <;> simp [lentCells, ucells]
theorem lentCells_size (l : List UInt8) : (lentCells l).size = l.length + 2 := by simp [lentCells, ucells]

set_option maxRecDepth 100000 in
set_option maxHeartbeats 1000000 in
theorem lent_bytes (v : Value) (l : List UInt8) (w : World) (hl : l.length ≤ 140737488355000) (hv : Seg w v l) :
    Calls Tryz.prog 83 #[v] w fun e w' => e = .returned (.slice (some ⟨w.heap.size, 0, none⟩) l.length (l.length + 2)) ∧ At w' w.heap.size (lentCells l) 5 ∧ Below w.heap.size w w' := by
  obtain ⟨ao, cap, rfl, hv'⟩ := id hv
  clear hv'
  go_enter Tryz.func83, Tryz.ntmps83
  go_wp2_with (first
    | (refine wpList_make_room rfl _ _ 53 5 1 1 rfl slice_bytes _ _ _ (l.length + 2) rfl rfl (by omega) (by omega) (by unfold maxLen; omega) ?_; intro w1 hown1 hb1 hlt1; have HC := Lib.hid (hv.below hb1).cells; clear hv)
    | (refine wpList_append_room rfl _ _ 53 5 1 1 rfl slice_bytes w.heap.size w.heap.size 0 (l.length + 2) [] rfl hown1 ao l.length cap (ucells l) rfl (by rw [ucells_length, Nat.mul_one]) HC.out.2.1 HC.out.2.2 (ucells_one l) (by omega) ?_; intro w2 hown2 hb2; rw [Nat.zero_add, List.nil_append] at hown2)
    | (refine wpList_append_room rfl _ _ 53 5 1 1 rfl slice_bytes w.heap.size w.heap.size l.length (l.length + 2) (ucells l) rfl (hown2.alloc _) _ 2 2 [Value.int .u8 91, Value.int .u8 92] rfl rfl (by intro h; cases h) (fun ad h => by cases h; exact cell_two_new _ _ _ _) (by simp; exact ⟨rfl, rfl⟩) (Nat.le_refl _) ?_; intro w3 hown3 hb3))
  go_ret
  exact ⟨rfl, at_of_owns hown3, ((hb1.trans hb2).alloc (Nat.le_trans hb1.size hb2.size) _).trans hb3⟩

set_option maxRecDepth 100000 in
set_option maxHeartbeats 1000000 in
theorem whole_bytes (lo : Nat) (u v : Value) (l : List UInt8) (w : World) (hl : l.length ≤ 140737488355000) (hu : Lent w lo u l) (hv : Seg w v l) :
    Calls Tryz.prog 90 #[u, v] w fun e w' => e = .returned (.bool true) ∧ Below w.heap.size w w' := by
  have hcall : Hid (Calls Tryz.prog 17 #[u, v] w fun e w' => e = .returned (.bool true) ∧ Below w.heap.size w w') := (same_any u v l l w (by omega) (by omega) hu.seg hv).mono fun e w' ⟨x1, x2⟩ => ⟨by rw [x1]; simp, x2⟩
  obtain ⟨g, -, rfl, hat⟩ := hu
  have c1 := (hat.cell l.length).trans (lentCells_mark l).1
  have c2 := (hat.cell (l.length + 1)).trans (lentCells_mark l).2
  obtain ⟨b, d, rfl⟩ := hv.shape
  clear hv hat
  go_enter Tryz.func90, Tryz.ntmps90
  go_wp2_with (go_at_call 17; refine hcall.out.mono ?_; rintro e w' ⟨rfl, hb1⟩)
  go_ret
  exact ⟨rfl, hb1⟩

set_option maxRecDepth 100000 in
set_option maxHeartbeats 1000000 in
theorem spoil_bytes (g n c : Nat) (cs : Array Value) (w : World) (hc : c ≤ 140737488355328) (hn : n ≤ c) (hat : At w g cs 5) (hs : cs.size = c) :
    Calls Tryz.prog 92 #[.slice (some ⟨g, 0, none⟩) n c] w fun e w' => e = .returned (.tuple #[]) ∧ Chg (fun k => k = g) w w' ∧ ∃ cs', At w' g cs' 5 ∧ cs'.size = c := by
  have HA := Lib.hid hat
  clear hat
  go_enter Tryz.func92, Tryz.ntmps92
  go_wp2
  go_loopw [3] (fun q wx => ∃ k : Nat, k ≤ c ∧ q = .int .i64 k ∧ Chg (fun z => z = g) w wx ∧ ∃ cs', At wx g cs' 5 ∧ cs'.size = c) (fun q _ => c - (intOf q).toNat)
  case atStart => exact ⟨0, by omega, rfl, Chg.refl _ _, cs, HA.out, hs⟩
  case round =>
    obtain ⟨k, hk, rfl, hch, cs', hat, hs'⟩ := hrel
    have HC := Lib.hid hch
    have HA' := Lib.hid hat
    have HS' := Lib.hid hs'
    clear HA hs hch hs'
    by_cases hkc : k < c
    · have K1 : Hid (k + 1 ≤ c) := hkc
      have f0 := hat.free k
      obtain ⟨u, d0⟩ : ∃ u, wr.cell? ⟨g, k, none⟩ = some u := ⟨_, (hat.cell k).trans (Array.getElem?_eq_getElem (by rw [HS'.out]; exact hkc))⟩
      clear hat
      go_wp2
      go_roundw
      case measure => simp [intOf]; omega
      exact ⟨k + 1, K1.out, by go_num, HC.out.trans (Chg.setCell (S := fun z => z = g) (Chg.refl _ _) ⟨g, k, none⟩ (.inl rfl) _), _, HA'.out.set k _, by rw [Array.size_setIfInBounds]; exact HS'.out⟩
    · clear hat
      go_wp2
      go_end0
      exact ⟨rfl, HC.out, cs', HA'.out, HS'.out⟩

end Go.Proofs.YtpegbgomnpinfaaGreat

/- plan.Solve: a member's sector of a row, out of all others. -/
set_option linter.unusedVariables false
namespace Go.Proofs.YtpegbgomnpinfaaGreat
open Go.RowKit

/-- The exclusive or of the first n of the texts F, but for the k-th. -/
def xorBut (F : Nat → List UInt8) (k : Nat) : Nat → Nat → UInt8
  | 0, _ => 0
  | n + 1, i => if n = k then xorBut F k n i else xorBut F k n i ^^^ (F n).getD i 0

theorem xorBut_skip (F : Nat → List UInt8) (k : Nat) : xorBut F k (k + 1) = xorBut F k k := by
  funext i
  show (if k = k then _ else _) = _
  rw [if_pos rfl]
theorem xorBut_add (F : Nat → List UInt8) {k n : Nat} (h : n ≠ k) : xorBut F k (n + 1) = fun i => xorBut F k n i ^^^ (F n).getD i 0 := by
  funext i
  show (if n = k then _ else _) = _
  rw [if_neg h]

set_option maxRecDepth 100000 in
set_option maxHeartbeats 4000000 in
theorem plan_Solve (M C S r kk : Nat) (vrd : Value) (ls : List (List UInt8)) (w : World) (hg : geoIs M C S = true) (hr : r < S * C) (hk : kk < M) (hls : Segs w vrd ls) (hlm : ls.length = M) (hl : ∀ m, m < M → m ≠ kk → (ls.getD m []).length = 128) :
    Calls Tryz.prog 34 #[geo M C S, .int .i64 r, .int .i64 kk, vrd] w fun e w' => ∃ v, e = .returned (.tuple #[v, .int .u16 0]) ∧ w'.ownsRow w.heap.size 5 1 v 128 (ucells (sumL (xorBut (fun m => ls.getD m []) kk M) 128)) ∧ Below w.heap.size w w' := by
  obtain ⟨h1, h2, h3, h4, h5, h6⟩ := (geoIs_iff M C S).1 hg
  have hat := Lib.hid (fun W => geom_at_ok M C S kk r W hg hk hr)
  have hnew := Lib.hid (fun W => xor_new 128 W (by omega))
  simp only [show ((128 : Nat) : Int) = 128 from rfl] at hnew
  have HLS := Lib.hid hls
  have HL := Lib.hid hl
  obtain ⟨sa, sc, hvs⟩ := hls.shape
  rw [hlm] at hvs
  subst hvs
  have hne : ((M : Int) != (M : Int)) = false := by simp
  have hb0 : Below w.heap.size w (w.alloc (.cells #[.int .i64 M, .int .i64 C, .int .i64 S] 23)) := (Below.refl _ _).alloc (Nat.le_refl _) _
  have HG0 : Hid (At (w.alloc (.cells #[.int .i64 M, .int .i64 C, .int .i64 S] 23)) w.heap.size #[.int .i64 M, .int .i64 C, .int .i64 S] 23) := At.new _ _ _
  clear hls hl
  unfold geo at *
  go_enter Tryz.func34, Tryz.ntmps34
  go_wp2_with (first
    | (go_at_call 108; (with_reducible refine (hat.out _).mono ?_); rintro e w1 ⟨⟨zb, zp, rfl⟩, hb1⟩; have hg1 := HG0.out.below hb1 HG0.out.lt; have c0 := hg1.cell 0; have HB1 := Lib.hid (below_then hb0 hb1); clear hg1 hb1)
    | (go_at_call 103; (with_reducible refine (hnew.out _).mono ?_); rintro e w7 ⟨g, gb, rfl, hsum, hg1, hg2, hb7⟩; have HS7 := Lib.hid hsum; have HB7 := Lib.hid hb7; clear hsum hb7 c0))
  have HSS := Lib.hid (HLS.out.below HB1.out)
  have hlm' := Lib.hid hlm
  clear HLS hne hat hnew HG0 hb0
  go_loopw [39] (fun t wr => ∃ (k : Nat) (many : Int), k ≤ M ∧ t = .int .i64 k ∧ 0 ≤ many ∧ many ≤ k ∧ SumAt wr g gb 128 (xorBut (fun m => ls.getD m []) kk k) many ∧ Below w1.heap.size w1 wr) (fun t _ => M - (intOf t).toNat)
  case atStart => exact ⟨0, 0, by omega, rfl, by omega, by omega, HS7.out, HB7.out⟩
  case round =>
    obtain ⟨k, many, hk', rfl, hm0, hm1, hs, hbw⟩ := hrel
    have HS := Lib.hid hs
    have HBW := Lib.hid hbw
    clear hs HS7 HB7
    by_cases hkn : k < M
    · have K1 : Hid (k + 1 ≤ M) := hkn
      obtain ⟨sb, so, sc', hve, hslt, hsx⟩ := Segs.full (HSS.out.below hbw) (by omega)
      rw [hlm] at hve
      simp only [Value.slice.injEq, true_and] at hve
      obtain ⟨rfl, rfl⟩ := hve
      obtain ⟨u, d0, hu⟩ := hsx k (by omega)
      have hgl : ls.getD k [] = ls[k]'(by omega) := by rw [List.getD_eq_getElem?_getD, List.getElem?_eq_getElem (by omega)]; rfl
      rw [← hgl] at hu
      obtain ⟨ua, uc, rfl⟩ := hu.shape
      by_cases hkk : k = kk
      · subst hkk
        have hq : ((k : Int) != (k : Int)) = false := by simp
        have hx := Lib.hid (xorBut_skip (fun m => ls.getD m []) k)
        clear hsx hu hgl
        generalize (ls.getD k []).length = un at *
        as_aux_lemma =>
          go_wp2
          refine ⟨⟨k + 1, many, K1.out, by go_num, hm0, by omega, ?_, HBW.out⟩, by simp [intOf]; omega⟩
          rw [hx.out]
          exact HS.out
      · have hq : ((k : Int) != (kk : Int)) = true := by simp; omega
        have hx := Lib.hid (xorBut_add (fun m => ls.getD m []) hkk)
        have hl128 := HL.out k hkn hkk
        obtain ⟨b6, o6, c6, hv6, hb6⟩ : ∃ b6 o6 c6, (Value.slice ua (ls.getD k []).length uc) = .slice (some ⟨b6, o6, none⟩) (ls.getD k []).length c6 ∧ b6 < w1.heap.size := by
          obtain ⟨sb', so', sc'', hve', hslt', hsx'⟩ := Segs.full HSS.out (by omega)
          simp only [Value.slice.injEq, Option.some.injEq, Addr.mk.injEq, and_true] at hve'
          obtain ⟨⟨rfl, rfl⟩, -, rfl⟩ := hve'
          obtain ⟨u', e1, e2⟩ := hsx' k (by omega)
          have e3 := (hbw.cell (p := ⟨sb, so + k, none⟩) hslt').trans e1
          rw [d0] at e3
          simp only [Option.some.injEq] at e3
          rw [← e3, ← hgl] at e2
          obtain ⟨b6, o6, c6, h1, h2, -⟩ := Seg.full e2 (by omega)
          exact ⟨b6, o6, c6, h1, h2⟩
        simp only [Value.slice.injEq, true_and] at hv6
        obtain ⟨rfl, rfl⟩ := hv6
        have hAdd := Lib.hid (xor_add g gb 128 _ many (.slice (some ⟨b6, o6, none⟩) (ls.getD k []).length uc) (ls.getD k []) wr HS.out (by omega) hu hl128 (fun a q c hv => by simp only [Value.slice.injEq, Option.some.injEq] at hv; rw [← hv.1]; show b6 ≠ gb; omega) (by omega) (by omega))
        rw [hl128] at d0 hAdd
        clear hsx hu hgl
        as_aux_lemma =>
          go_wp2_with (go_at_call 104; (with_reducible refine hAdd.out.mono ?_); rintro e w8 ⟨rfl, hs8, hc8⟩)
          refine ⟨⟨k + 1, many + 1, K1.out, by go_num, by omega, by omega, ?_, Chg.own HBW.out hc8 (fun q hq => by rcases hq with rfl | rfl <;> assumption)⟩, by simp [intOf]; omega⟩
          rw [hx.out]
          exact hs8
    · obtain rfl : k = M := by omega
      have hxv := Lib.hid (xor_value g gb 128 _ _ wr HS.out (by omega))
      go_wp2_with (go_at_call 105; (with_reducible refine hxv.out.mono ?_); rintro e w9 ⟨v, rfl, hv, hb9⟩)
      go_ret2
      have hbb := below_then HB1.out HBW.out
      exact ⟨v, rfl, rebase_row hv hbb.size, below_then hbb hb9⟩

end Go.Proofs.YtpegbgomnpinfaaGreat
