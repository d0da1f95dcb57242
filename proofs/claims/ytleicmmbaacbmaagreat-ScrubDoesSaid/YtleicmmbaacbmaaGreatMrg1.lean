/- Several texts in one: Open, Blk2, Rag. -/
import Derived.Test.YtleicmmbaacbmaaGreatBlk
import Derived.OpenShut
import Derived.ProofKit
import Derived.Maps.AppendAt
import Derived.Deep.Matrix
import Derived.SizedLaws
import Derived.Deep.MidRow
/- What an argument's reading gives to a walk. -/
namespace Go
open Go.ChangeShapes Go.WideShapes Go.ChangeAt Go.RowKit

theorem bytes_of_ints (zs : List Int) (h : ∀ n ∈ zs, (Lit.int .u8 n).wf = true) (j : Nat) (hj : j < zs.length) :
    ((UInt8.ofNat (zs.getD j 0).toNat).toNat : Int) = zs.getD j 0 := by
  have hm : zs.getD j 0 ∈ zs := by
    rw [List.getD_eq_getElem?_getD, List.getElem?_eq_getElem hj]
    simp
  have hw := h _ hm
  have hb := bounds_u8 hw
  rw [UInt8.toNat_ofNat']
  omega

theorem seg_of_trod {H : Type} {enc : TypeId × Value → H} {P : Program} {W : World} {T E base : Nat} {v : Value} {d : DataW H} {ps : List MemPlace}
    (hT : P.underlying T = some (.slice E)) (hE : P.underlying E = some (.int .u8)) (hc : P.cellsOf E = 1)
    (hv : Value.okWide P W .any base T v) (h : DataW.Trod enc P W 0 (fun _ => true) true T v d ps) : ∃ l, Seg W v l ∧ l.length ≤ 9223372036854775807 := by
  obtain ⟨a, len, cap, rfl⟩ := okWide_slice hT hv
  obtain ⟨fuel, hf⟩ := h
  rcases open_ints hT hE hc hf with ⟨hcs, _⟩ | ⟨x, l, c, zs, hcs, _, hl, hm, hz, _, hcell, hwz⟩
  · simp [Value.cells] at hcs
    obtain ⟨rfl, rfl, rfl⟩ := hcs
    exact ⟨[], Seg.nil _, by simp⟩
  · simp [Value.cells] at hcs
    obtain ⟨rfl, rfl, rfl⟩ := hcs
    simp at hz
    have hlen : ((zs.take len).map fun z => UInt8.ofNat z.toNat).length = len := by simp; omega
    refine ⟨(zs.take len).map fun z => UInt8.ofNat z.toNat, ⟨some x, cap, by rw [hlen], ⟨fun h => by simp at h, by rw [hlen]; exact hl⟩, ?_⟩, by rw [hlen]; unfold maxLen at hm; omega⟩
    rcases Nat.eq_zero_or_pos len with h0 | h0
    · left
      apply List.eq_nil_of_length_eq_zero
      omega
    · right
      obtain ⟨b, off, rfl, hat⟩ := ints_at hcell (by omega)
      have hlt : b < W.heap.size := block_lt_of_cell (hat 0 (by omega))
      refine ⟨b, off, rfl, hlt, fun j hj => ?_⟩
      rw [hlen] at hj
      rw [hat j (by omega)]
      have := bytes_of_ints zs hwz j (by omega)
      rw [List.getElem_map, List.getElem_take]
      rw [List.getD_eq_getElem?_getD, List.getElem?_eq_getElem (by omega)] at this
      rw [List.getD_eq_getElem?_getD, List.getElem?_eq_getElem (by omega)]
      simp only [Option.getD_some] at this ⊢
      rw [this]

end Go

/- More on blocks: an append that tells where its row lies; slices of slices of bytes, and what an argument's reading gives of them. -/
namespace Go
open Go.ChangeShapes Go.WideShapes Go.ChangeAt Go.RowKit Go.Deep

section
variable {P : Program}
/-- 'append(s, x...)' on what the call itself made: the row is the old one or the newest block. -/
theorem wpList_append_many_at {ops : Array Oper} {rest : List Oper} {o : Oper} {a : Act} {Q : Exit → Act → World → Prop} {w : World} (hg : o.guard = none) (s x : Operand) (t e : TypeId) (size bytes : Nat)
    (hop : o.op = Op.call { callee := Callee.builtin Builtin.append, args := #[s, x], argTypes := #[t, t] }) (hT : SliceOf P t e size bytes)
    (base : Nat) (v : Value) (n : Nat) (xs : List Value) (hs : a.eval s = v) (hown : w.ownsRow base e size v n xs) (ao : Option Addr) (m c : Nat) (news : List Value) (hx : a.eval x = .slice ao m c) (hn : news.length = m * size)
    (hnone : ao = none → m = 0 ∧ c = 0) (hc : ∀ ad, ao = some ad → ∀ j u, news[j]? = some u → w.cell? (ad.add j) = some u) (h1c : ∀ u ∈ news, u.oneCell' = true)
    (h63 : n + m ≤ maxLen) (hbytes : (n + m) * bytes ≤ 140737488355328) (hbase : base ≤ w.heap.size)
    (hK : ∀ v' w', w'.ownsRow base e size v' (n + m) (xs ++ news) → Below base w w' → w.grownBy w' v.ownBlock → (v'.ownBlock = v.ownBlock ∨ v'.ownBlock = some w.heap.size) → wpList P ops Q rest (a.put o.dst v') w') :
    wpList P ops Q (o :: rest) a w := by
  obtain ⟨h1, h0, i, z, h2, h3, h4, h5, h6⟩ := hT
  cases ao with
  | some ad =>
    obtain ⟨v', w', hr, k1, k2, _, k4⟩ := run_append_own_at (P := P) w base t o.type e i z size bytes h1 h2 h3 h4 h5 h6 h0 v n xs hown ad m c news hn (hc ad rfl) h1c h63 hbytes hbase
    refine wpList_plain hg fun K hK' => ?_
    unfold Oper.wp execOp
    simp only [hop, resolve, invoke, builtin, Sem.run_bind, Sem.run_pure, Result.andThen_ok, List.map_toArray, List.map_cons, List.map_nil, hs, hx, hr]
    exact hK' _ _ (hK v' w' k1 ((Below.refl _ _).grown k2 hbase (fun k hk => (hown.lt k hk).1)) k2 k4)
  | none =>
    obtain ⟨rfl, rfl⟩ := hnone rfl
    have hnews : news = [] := List.eq_nil_of_length_eq_zero (by simpa using hn)
    subst hnews
    refine wpList_plain hg fun K hK' => ?_
    have hrun := run_append_owned_none (P := P) w base t o.type e i size h1 h2 _ n xs hown
    unfold Oper.wp
    simp [execOp, hop, resolve, invoke, builtin, hs, hx, hrun, Result.andThen]
    exact hK' _ _ (hK _ _ (by simpa using hown) (Below.refl _ _) (World.grownBy.refl _ _) (.inl rfl))
end

theorem ownsRow_chg {S : Nat → Prop} {w w' : World} {base : Nat} {e : TypeId} {size : Nat} {v : Value} {n : Nat} {xs : List Value} (h : w.ownsRow base e size v n xs) (hc : Chg S w w') (hS : ∀ k, v.ownBlock = some k → ¬ S k) : w'.ownsRow base e size v n xs := by
  refine ⟨h.1, ?_⟩
  rcases h.2 with hn | ⟨g, cap, cur, hv, hg, hh, r⟩
  · exact .inl hn
  · exact .inr ⟨g, cap, cur, hv, hg, (hc.block g (lt_of_block hh) (hS g (by rw [hv]; rfl))).trans hh, r⟩

/-- A row of bytes of the call's own, as a slice of bytes. -/
theorem seg_of_owns {w : World} {base : Nat} {v : Value} {l : List UInt8} (h : w.ownsRow base 5 1 v l.length (ucells l)) : Seg w v l := by
  obtain ⟨hl, h⟩ := h
  rcases h with ⟨rfl, h⟩ | ⟨g, cap, cur, hv, hb, hg, hc, _, hs, ht⟩
  · have : l = [] := List.eq_nil_of_length_eq_zero h
    subst this
    exact Seg.nil w
  · subst hv
    refine seg_of_at (t := 5) (cs := cur) hg hc fun j hj => ?_
    have : (ucells l)[j]? = some (.int .u8 ((l[j].toNat : Nat) : Int)) := by simp [ucells, hj]
    rw [← this, ← ht, List.getElem?_take, if_pos (by omega)]
    simp

/-- A slice of slices of bytes. -/
def Segs (w : World) (v : Value) (ls : List (List UInt8)) : Prop :=
  ∃ a cap, v = .slice a ls.length cap ∧ ls.length ≤ cap ∧
    (ls = [] ∨ ∃ b off, a = some ⟨b, off, none⟩ ∧ b < w.heap.size ∧ ∀ j (h : j < ls.length), ∃ u, w.cell? ⟨b, off + j, none⟩ = some u ∧ Seg w u ls[j])

theorem Segs.below {w w' : World} {v : Value} {ls : List (List UInt8)} (h : Segs w v ls) (hb : Below w.heap.size w w') : Segs w' v ls := by
  obtain ⟨a, cap, hv, hc, h⟩ := h
  refine ⟨a, cap, hv, hc, ?_⟩
  rcases h with h | ⟨b, off, ha, hlt, hx⟩
  · exact .inl h
  · refine .inr ⟨b, off, ha, Nat.lt_of_lt_of_le hlt hb.size, fun j hj => ?_⟩
    obtain ⟨u, h1, h2⟩ := hx j hj
    exact ⟨u, (hb.cell (p := ⟨b, off + j, none⟩) hlt).trans h1, h2.below hb⟩

theorem Segs.shape {w : World} {v : Value} {ls : List (List UInt8)} (h : Segs w v ls) : ∃ a cap, v = .slice a ls.length cap := by
  obtain ⟨a, cap, hv, _⟩ := h
  exact ⟨a, cap, hv⟩

theorem Segs.full {w : World} {v : Value} {ls : List (List UInt8)} (h : Segs w v ls) (hl : 0 < ls.length) :
    ∃ b off cap, v = .slice (some ⟨b, off, none⟩) ls.length cap ∧ b < w.heap.size ∧ ∀ j (h : j < ls.length), ∃ u, w.cell? ⟨b, off + j, none⟩ = some u ∧ Seg w u ls[j] := by
  obtain ⟨a, cap, hv, _, h⟩ := h
  rcases h with rfl | ⟨b, off, rfl, hb, hc⟩
  · simp at hl
  · exact ⟨b, off, cap, hv, hb, hc⟩

theorem weights_all_mem {H : Type} {P : Program} {e : TypeId} : ∀ {ds : List (DataW H)} {i : Nat} {d : DataW H}, ds[i]? = some d → ∀ n ∈ d.weights P e, n ∈ DataW.weightsAll P e ds
  | d0 :: ds, 0, d, hd, n, hn => by
    simp only [List.getElem?_cons_zero, Option.some.injEq] at hd
    subst hd
    simp only [DataW.weightsAll, List.mem_append]
    exact .inl hn
  | d0 :: ds, i + 1, d, hd, n, hn => by
    simp only [List.getElem?_cons_succ] at hd
    simp only [DataW.weightsAll, List.mem_append]
    exact .inr (weights_all_mem hd n hn)
  | [], i, d, hd, _, _ => by simp at hd

theorem segs_of_trod {H : Type} {enc : TypeId × Value → H} {P : Program} {W : World} {T E B base : Nat} {v : Value} {d : DataW H} {ps : List MemPlace}
    (hT : P.underlying T = some (.slice E)) (hE : P.underlying E = some (.slice B)) (hB : P.underlying B = some (.int .u8)) (hcE : P.cellsOf E = 1) (hcB : P.cellsOf B = 1) (hbB : P.bytesOf B = 1) (hbE : 0 < P.bytesOf E)
    (hv : Value.okWide P W .any base T v) (h : DataW.Trod enc P W 0 (fun _ => true) true T v d ps) (hw : ∀ n ∈ d.weights P T, n ≤ reachBytes) :
    ∃ ls, Segs W v ls ∧ ls.length ≤ 140737488351232 ∧ ∀ l ∈ ls, l.length ≤ 140737488351232 := by
  obtain ⟨a, len, cap, rfl⟩ := okWide_slice hT hv
  obtain ⟨fuel, hf⟩ := h
  rcases open_slice1 hT hcE hf with ⟨hcs, _⟩ | ⟨x, l, c, m, n, V, D, Pl, hcs, _, hl, hm, hmm, hd, hx⟩
  · simp [Value.cells] at hcs
    obtain ⟨rfl, rfl, rfl⟩ := hcs
    exact ⟨[], ⟨none, 0, rfl, Nat.le_refl _, .inl rfl⟩, by simp, by simp⟩
  · simp [Value.cells] at hcs
    obtain ⟨rfl, rfl, rfl⟩ := hcs
    simp only [if_true] at hmm
    subst hmm
    simp only [Prod.mk.injEq] at hd
    have hlenb : len ≤ 140737488351232 := by
      have hmem : (((List.range len).map D).length + ((List.range (m - len)).map fun j => D (len + j)).length) * P.bytesOf E ≤ reachBytes := by
        apply hw
        rw [hd.1]
        simp only [DataW.weights, hT]
        exact List.mem_cons_self
      simp only [List.length_map, List.length_range, reachBytes] at hmem
      have := Nat.le_mul_of_pos_right (len + (m - len)) hbE
      omega
    have each : ∀ i, i < len → ∃ li : List UInt8, Seg W (V i) li ∧ li.length ≤ 140737488351232 := by
      intro i hi
      obtain ⟨h1, h2⟩ := hx i (by omega)
      rcases open_ints hE hB hcB h2 with ⟨hcs, _⟩ | ⟨x', l', c', zs, hcs, _, hl', hm', hz, hy, hcell, hwz⟩
      · simp at hcs
        rw [hcs]
        exact ⟨[], Seg.nil W, by simp⟩
      · simp at hcs
        simp at hz
        have hlen : ((zs.take l').map fun z => UInt8.ofNat z.toNat).length = l' := by simp; omega
        refine ⟨(zs.take l').map fun z => UInt8.ofNat z.toNat, ?_, ?_⟩
        · rw [hcs]
          refine ⟨some x', c', by rw [hlen], ⟨fun h => by simp at h, by rw [hlen]; exact hl'⟩, ?_⟩
          rcases Nat.eq_zero_or_pos l' with h0 | h0
          · left
            apply List.eq_nil_of_length_eq_zero
            omega
          · right
            obtain ⟨b, off, rfl, hat⟩ := ints_at hcell (by omega)
            have hlt : b < W.heap.size := block_lt_of_cell (hat 0 (by omega))
            refine ⟨b, off, rfl, hlt, fun j hj => ?_⟩
            rw [hlen] at hj
            rw [hat j (by omega)]
            have := bytes_of_ints zs hwz j (by omega)
            rw [List.getElem_map, List.getElem_take]
            rw [List.getD_eq_getElem?_getD, List.getElem?_eq_getElem (by omega)] at this
            rw [List.getD_eq_getElem?_getD, List.getElem?_eq_getElem (by omega)]
            simp only [Option.getD_some] at this ⊢
            rw [this]
        · rw [hlen]
          simp only [Prod.mk.injEq] at hy
          have hmem : ((lits .u8 (zs.take l') : List (DataW H)).length + (lits .u8 (zs.drop l') : List (DataW H)).length) * P.bytesOf B ≤ reachBytes := by
            apply hw
            rw [hd.1]
            simp only [DataW.weights, hT]
            refine List.mem_cons_of_mem _ (List.mem_append_left _ (weights_all_mem (i := i) (d := D i) (by simp [hi]) _ ?_))
            rw [hy.1]
            simp only [DataW.weights, hE]
            exact List.mem_cons_self
          rw [hbB] at hmem
          simp only [lits, List.length_map, List.length_take, List.length_drop, reachBytes] at hmem
          omega
    obtain ⟨F, hF⟩ := choose_lt (α := List UInt8) (p := fun i li => Seg W (V i) li ∧ li.length ≤ 140737488351232) each
    have hlen : ((List.range len).map F).length = len := by simp
    refine ⟨(List.range len).map F, ⟨some x, m, by rw [hlen], by rw [hlen]; exact hl, ?_⟩, by rw [hlen]; exact hlenb, ?_⟩
    · rcases Nat.eq_zero_or_pos len with h0 | h0
      · left; rw [h0]; rfl
      · right
        obtain ⟨b, off, spot⟩ := x
        have hspot : spot = none := by simpa [Addr.add] using World.cell?_spot (hx 0 (by omega)).1
        subst hspot
        have hat : ∀ j, j < len → W.cell? ⟨b, off + j, none⟩ = some (V j) := fun j hj => by
          have := (hx j (by omega)).1
          rw [Go.WideShapes.add_plain] at this
          exact this
        refine ⟨b, off, rfl, block_lt_of_cell (hat 0 h0), fun j hj => ?_⟩
        rw [hlen] at hj
        exact ⟨V j, hat j hj, by rw [List.getElem_map, List.getElem_range]; exact (hF j hj).1⟩
    · intro li hli
      simp only [List.mem_map, List.mem_range] at hli
      obtain ⟨i, hi, rfl⟩ := hli
      exact (hF i hi).2

end Go

/- Rows of rows that the call itself has made: each has a block of its own; a store into one, and an append to one, leave all others. No program in sight. -/
set_option linter.unusedVariables false
namespace Go
open Go.RowKit

/-- How many elements a slice has. -/
def Value.many : Value → Nat
  | .slice _ n _ => n
  | _ => 0

section
variable {W W' : World} {B : Nat} {e : TypeId} {sz : Nat} {v : Value} {n : Nat} {xs : List Value}

theorem ownsRow_many (h : W.ownsRow B e sz v n xs) : v.many = n := by
  rcases h.2 with ⟨rfl, rfl⟩ | ⟨g, cap, cur, rfl, _⟩ <;> rfl

theorem ownsRow_full (h : W.ownsRow B e sz v n xs) (hn : 0 < n) : ∃ g cap, v = .slice (some ⟨g, 0, none⟩) n cap ∧ B ≤ g ∧ g < W.heap.size := by
  rcases h.2 with ⟨_, h0⟩ | ⟨g, cap, cur, rfl, hb, hg, _⟩
  · omega
  · exact ⟨g, cap, rfl, hb, lt_of_block hg⟩

theorem ownsRow_shape (h : W.ownsRow B e sz v n xs) : ∃ a cap, v = .slice a n cap := by
  rcases h.2 with ⟨rfl, rfl⟩ | ⟨g, cap, cur, rfl, _⟩
  · exact ⟨none, 0, rfl⟩
  · exact ⟨_, cap, rfl⟩

theorem ownsRow_mod {S : Nat → Prop} (h : W.ownsRow B e sz v n xs) (hc : Chg S W W') (hS : ∀ g, v.ownBlock = some g → ¬ S g) : W'.ownsRow B e sz v n xs := ownsRow_chg h hc hS
end

/-- Rows with tags: row j's block bears the tag j + 2. c says what row j holds. -/
structure Fam (W : World) (B : Nat) (e : TypeId) (sz : Nat) (T : Nat → Nat) (vs : List Value) (c : Nat → List Value → Prop) : Prop where
  row : ∀ j (h : j < vs.length), ∃ xs, W.ownsRow B e sz vs[j] vs[j].many xs ∧ c j xs
  tag : ∀ j (h : j < vs.length) g, vs[j].ownBlock = some g → T g = j + 2

namespace Fam
variable {W W' : World} {B : Nat} {e : TypeId} {sz : Nat} {T T' : Nat → Nat} {vs : List Value} {c c' : Nat → List Value → Prop}

/-- A change of blocks with another tag. -/
theorem keep {t : Nat} (h : Fam W B e sz T vs c) (hc : Chg (fun k => T k = t) W W') (ht : ∀ j, j < vs.length → t ≠ j + 2) : Fam W' B e sz T vs c :=
  ⟨fun j hj => by
    obtain ⟨xs, h1, h2⟩ := h.row j hj
    exact ⟨xs, ownsRow_mod h1 hc fun g hg e => ht j hj (by rw [← e, h.tag j hj g hg]), h2⟩, h.tag⟩

/-- Row i turned. -/
theorem turn {i : Nat} (h : Fam W B e sz T vs c) (hc : Chg (fun k => T k = i + 2) W W') (hi : ∀ h : i < vs.length, ∃ xs, W'.ownsRow B e sz vs[i] vs[i].many xs ∧ c' i xs) (hcc : ∀ j xs, j ≠ i → c j xs → c' j xs) : Fam W' B e sz T vs c' :=
  ⟨fun j hj => by
    by_cases hji : j = i
    · subst hji; exact hi hj
    · obtain ⟨xs, h1, h2⟩ := h.row j hj
      exact ⟨xs, ownsRow_mod h1 hc fun g hg e => hji (by have := h.tag j hj g hg; omega), hcc j xs hji h2⟩, h.tag⟩

theorem weak (h : Fam W B e sz T vs c) (hcc : ∀ j xs, j < vs.length → c j xs → c' j xs) : Fam W B e sz T vs c' :=
  ⟨fun j hj => by obtain ⟨xs, h1, h2⟩ := h.row j hj; exact ⟨xs, h1, hcc j xs hj h2⟩, h.tag⟩

theorem chg {S : Nat → Prop} (h : Fam W B e sz T vs c) (hc : Chg S W W') (hS : ∀ k, B ≤ k → ¬ S k) : Fam W' B e sz T vs c :=
  ⟨fun j hj => by
    obtain ⟨xs, h1, h2⟩ := h.row j hj
    exact ⟨xs, ownsRow_mod h1 hc fun g hg => hS g (h1.lt g hg).1, h2⟩, h.tag⟩

/-- Behind an append to a row x that bears the tag t. -/
theorem app {x : Value} {n t : Nat} (h : Fam W B e sz T vs c) (hkeep : ∀ B' u k ys, W.ownsRow B' e sz u k ys → (u.ownBlock = x.ownBlock → k ≤ n) → W'.ownsRow B' e sz u k ys)
    (hx : ∀ g, x.ownBlock = some g → T g = t) (hi : ∀ j (h : j < vs.length), t = j + 2 → vs[j].many ≤ n) : Fam W' B e sz T vs c :=
  ⟨fun j hj => by
    obtain ⟨xs, h1, h2⟩ := h.row j hj
    refine ⟨xs, hkeep _ _ _ _ h1 (fun he => ?_), h2⟩
    cases hb : vs[j].ownBlock with
    | none =>
      rcases h1.2 with ⟨_, h0⟩ | ⟨g, cap, cur, hv, _⟩
      · omega
      · rw [hv] at hb; simp [Value.ownBlock] at hb
    | some g =>
      have t1 := h.tag j hj g hb
      have t2 := hx g (by rw [← he, hb])
      exact hi j hj (by omega), h.tag⟩

theorem snoc {x : Value} {n : Nat} {xs : List Value} (h : Fam W B e sz T vs c) (hx : W.ownsRow B e sz x n xs) (hc : c vs.length xs) (ht : ∀ g, x.ownBlock = some g → T g = vs.length + 2) : Fam W B e sz T (vs ++ [x]) c :=
  ⟨fun j hj => by
    by_cases hjl : j < vs.length
    · rw [List.getElem_append_left hjl]; exact h.row j hjl
    · obtain rfl : j = vs.length := by simp at hj; omega
      rw [List.getElem_append_right (Nat.le_refl _)]
      simp only [Nat.sub_self, List.getElem_cons_zero]
      exact ⟨xs, by rw [ownsRow_many hx]; exact hx, hc⟩,
  fun j hj g hg => by
    by_cases hjl : j < vs.length
    · rw [List.getElem_append_left hjl] at hg; exact h.tag j hjl g hg
    · obtain rfl : j = vs.length := by simp at hj; omega
      rw [List.getElem_append_right (Nat.le_refl _)] at hg
      simp only [Nat.sub_self, List.getElem_cons_zero] at hg
      exact ht g hg⟩

theorem nil (W : World) (B : Nat) (e : TypeId) (sz : Nat) (T : Nat → Nat) (c : Nat → List Value → Prop) : Fam W B e sz T [] c := ⟨fun j h => by simp at h, fun j h => by simp at h⟩

/-- The tags of blocks that are not there yet may be chosen. -/
theorem retag (h : Fam W B e sz T vs c) (hT : ∀ g, g < W.heap.size → T' g = T g) : Fam W B e sz T' vs c :=
  ⟨h.row, fun j hj g hg => by
    obtain ⟨xs, h1, _⟩ := h.row j hj
    rw [hT g (h1.lt g hg).2]
    exact h.tag j hj g hg⟩
end Fam

/-- The tags, the block x given the tag t. -/
def tagAt (T : Nat → Nat) (x t : Nat) : Nat → Nat := fun g => if g = x then t else T g
theorem tagAt_same (T : Nat → Nat) (x t : Nat) : tagAt T x t x = t := if_pos rfl
theorem tagAt_lt (T : Nat → Nat) (x t g : Nat) (h : g < x) : tagAt T x t g = T g := if_neg (by omega)

section
variable {P : Program} (w : World)
/-- An append: besides where the new row lies, that every row that was there and is no longer than the old one stands. -/
theorem run_append_keeps (B : Nat) (t ty e : TypeId) (sz bytes : Nat) (hT : SliceOf P t e sz bytes)
    (v : Value) (n : Nat) (xs : List Value) (hown : w.ownsRow B e sz v n xs)
    (a : Addr) (m c : Nat) (news : List Value) (hl : news.length = m * sz) (hnews : ∀ j u, news[j]? = some u → w.cell? (a.add j) = some u) (h1 : ∀ u ∈ news, u.oneCell' = true)
    (h63 : n + m ≤ maxLen) (hbytes : (n + m) * bytes ≤ 140737488355328) (hbase : B ≤ w.heap.size) (hm : 0 < m) :
    ∃ v' w', (Builtin.append_ #[t, t] ty #[v, .slice (some a) m c]).run P w = .ok v' w' ∧ w'.ownsRow B e sz v' (n + m) (xs ++ news) ∧
      (v'.ownBlock = v.ownBlock ∨ v'.ownBlock = some w.heap.size) ∧ Chg (fun k => v.ownBlock = some k) w w' ∧
      (∀ B' u k ys, w.ownsRow B' e sz u k ys → (u.ownBlock = v.ownBlock → k ≤ n) → w'.ownsRow B' e sz u k ys) := by
  obtain ⟨ht, h0, i, z, hi, hz, rfl, rfl, hzs⟩ := hT
  obtain ⟨v', w', hr, h2, h3, _, h5⟩ := run_append_own_at (P := P) w B t ty e i z i.size i.bytes ht hi hz rfl rfl hzs h0 v n xs hown a m c news hl hnews h1 h63 hbytes hbase
  have hchg : Chg (fun k => v.ownBlock = some k) w w' := Chg.ofGrown h3 fun k hk => .inl hk
  have hsmall : n + m ≤ 9223372036854775807 := by simp only [maxLen] at h63; omega
  refine ⟨v', w', hr, h2, h5, hchg, ?_⟩
  have fresh : ∀ o : Obj, w' = w.drew.alloc o → ∀ B' u k ys, w.ownsRow B' e i.size u k ys → w'.ownsRow B' e i.size u k ys := by
    intro o ho B' u k ys hu
    subst ho
    exact World.ownsRow.alloc (w := w.drew) hu o
  rcases hown.2 with ⟨rfl, rfl⟩ | ⟨g, cap, cur, rfl, hbg, hg, hnc, hcm, hcs, htake⟩
  · have hx : xs = [] := List.eq_nil_of_length_eq_zero (by simpa using hown.1)
    subst hx
    have hr' := run_append_nil (P := P) w t ty e i z ht hi hz a m c news hl hnews hm (by omega) (by have hb := hbytes; simp only [Nat.zero_add] at hb; omega)
    rw [hr] at hr'
    simp only [Result.ok.injEq] at hr'
    exact fun B' u k ys hu _ => fresh _ hr'.2 B' u k ys hu
  · by_cases hroom : n + m ≤ cap
    · have hfit : n * i.size + news.length ≤ cur.size := by rw [hl, hcs, ← Nat.add_mul]; exact Nat.mul_le_mul_right _ hroom
      have hr' := run_append_room (P := P) w t ty e i ht hi g n cap cur hg a m c news hl hnews h1 hroom hfit
      rw [hr] at hr'
      simp only [Result.ok.injEq] at hr'
      obtain ⟨_, rfl⟩ := hr'
      intro B' u k ys hu hk
      by_cases hub : u.ownBlock = some g
      · have hkn := hk hub
        rcases hu.2 with ⟨rfl, _⟩ | ⟨g', cap', cur', rfl, hb', hg', hnc', hcm', hcs', htake'⟩
        · simp [Value.ownBlock] at hub
        · simp [Value.ownBlock] at hub
          subst hub
          rw [hg] at hg'
          simp only [Option.some.injEq, Obj.cells.injEq, and_true] at hg'
          subst hg'
          refine ⟨hu.1, .inr ⟨g', cap', _, rfl, hb', setRow_heap w g' cur _ e _ hg, hnc', hcm', ?_, ?_⟩⟩
          · simp only [List.size_toArray, List.length_append, List.length_take, List.length_drop, Array.length_toList]
            omega
          · have hle : k * i.size ≤ n * i.size := Nat.mul_le_mul_right _ hkn
            rw [← htake', List.append_assoc, List.take_append_of_le_length (by rw [List.length_take, Array.length_toList]; omega), List.take_take, Nat.min_eq_left hle]
      · refine ownsRow_mod hu hchg fun x hx hxe => hub ?_
        rw [hx]
        simpa [Value.ownBlock] using hxe.symm
    · have holds : ∀ j u, xs[j]? = some u → w.cell? ((⟨g, 0, none⟩ : Addr).add j) = some u := hown.cells (g := g) rfl
      have hr' := run_append_grow (P := P) w t ty e i z ht hi hz ⟨g, 0, none⟩ n cap xs hown.1 holds a m c news hl hnews (by omega) (by omega) (growslice_fits (by omega) hbytes)
      rw [hr] at hr'
      simp only [Result.ok.injEq] at hr'
      exact fun B' u k ys hu _ => fresh _ hr'.2 B' u k ys hu
end

section
variable {P : Program} {w : World}
theorem wpList_append_keeps {ops : Array Oper} {rest : List Oper} {o : Oper} {a : Act} {Q : Exit → Act → World → Prop} (hgd : o.guard = none) (s x : Operand) (t e : TypeId) (sz bytes : Nat)
    (ho : o.op = .call { callee := .builtin .append, args := #[s, x], argTypes := #[t, t] }) (hT : SliceOf P t e sz bytes)
    (B : Nat) (v : Value) (n : Nat) (xs : List Value) (hs : a.eval s = v) (hown : w.ownsRow B e sz v n xs)
    (ad : Addr) (m c : Nat) (news : List Value) (hx : a.eval x = .slice (some ad) m c) (hl : news.length = m * sz) (hnews : ∀ j u, news[j]? = some u → w.cell? (ad.add j) = some u) (h1 : ∀ u ∈ news, u.oneCell' = true)
    (h63 : n + m ≤ maxLen) (hbytes : (n + m) * bytes ≤ 140737488355328) (hbase : B ≤ w.heap.size) (hm : 0 < m)
    (h : ∀ v' w', w'.ownsRow B e sz v' (n + m) (xs ++ news) → (v'.ownBlock = v.ownBlock ∨ v'.ownBlock = some w.heap.size) → Chg (fun k => v.ownBlock = some k) w w' →
      (∀ B' u k ys, w.ownsRow B' e sz u k ys → (u.ownBlock = v.ownBlock → k ≤ n) → w'.ownsRow B' e sz u k ys) → wpList P ops Q rest (a.put o.dst v') w') :
    wpList P ops Q (o :: rest) a w := by
  refine wpList_plain hgd fun K hK => ?_
  obtain ⟨v', w', hr, h2, h3, h4, h5⟩ := run_append_keeps (P := P) w B t o.type e sz bytes hT v n xs hown ad m c news hl hnews h1 h63 hbytes hbase hm
  unfold Oper.wp execOp
  simp only [ho, resolve, invoke, builtin, Sem.run_bind, Sem.run_pure, Result.andThen_ok, List.map_toArray, List.map_cons, List.map_nil, hs, hx, hr]
  exact hK _ _ (h v' w' h2 h3 h4 h5)
end

/-- The elements 0 .. n - 1 of a row, each of them a list of cells. -/
def elems (f : Nat → List Value) (n : Nat) : List Value := (List.range n).flatMap f

theorem elems_length {f : Nat → List Value} {sz : Nat} (hf : ∀ k, (f k).length = sz) : ∀ n, (elems f n).length = n * sz
  | 0 => by simp [elems]
  | n + 1 => by
    have := elems_length hf n
    unfold elems at this ⊢
    rw [List.range_succ, List.flatMap_append, List.length_append, this]
    simp [hf, Nat.add_mul]

theorem elems_succ (f : Nat → List Value) (n : Nat) : elems f (n + 1) = elems f n ++ f n := by
  unfold elems
  rw [List.range_succ, List.flatMap_append]
  simp

theorem elems_at {f : Nat → List Value} {sz : Nat} (hf : ∀ k, (f k).length = sz) (n k j : Nat) (hk : k < n) (hj : j < sz) : (elems f n)[k * sz + j]? = (f k)[j]? := by
  induction n with
  | zero => omega
  | succ n ih =>
    rw [elems_succ]
    by_cases h : k < n
    · have h1 : k * sz + j < n * sz := Nat.lt_of_lt_of_le (by rw [Nat.add_mul]; omega : k * sz + j < (k + 1) * sz) (Nat.mul_le_mul_right _ h)
      rw [List.getElem?_append_left (by rw [elems_length hf]; exact h1)]
      exact ih h
    · obtain rfl : k = n := by omega
      rw [List.getElem?_append_right (by rw [elems_length hf]; omega), elems_length hf]
      congr 1
      omega

theorem take_set_two (xs : List Value) (k : Nat) (a b : Value) (h : k * 2 + 1 < xs.length) : ((xs.set (k * 2) a).set (k * 2 + 1) b).take ((k + 1) * 2) = xs.take (k * 2) ++ [a, b] := by
  apply List.ext_getElem?
  intro i
  rw [List.getElem?_take]
  by_cases h1 : i < (k + 1) * 2
  · rw [if_pos h1]
    by_cases h2 : i < k * 2
    · rw [List.getElem?_append_left (by rw [List.length_take]; omega), List.getElem?_take, if_pos h2, List.getElem?_set_ne (by omega), List.getElem?_set_ne (by omega)]
    · rw [List.getElem?_append_right (by rw [List.length_take]; omega), List.length_take, Nat.min_eq_left (by omega)]
      by_cases h3 : i = k * 2
      · subst h3
        rw [List.getElem?_set_ne (by omega), List.getElem?_set_self (by omega)]
        simp
      · obtain rfl : i = k * 2 + 1 := by omega
        rw [List.getElem?_set_self (by simp; omega), show k * 2 + 1 - k * 2 = 1 by omega]
        simp
  · rw [if_neg h1, List.getElem?_eq_none]
    simp only [List.length_append, List.length_take, List.length_cons, List.length_nil]
    omega

end Go
