/- Several texts in one: Open, Blk2. -/
import Derived.Test.YtpegbgomnpinfaaGreatBlk
import Derived.OpenShut
import Derived.ProofKit
import Derived.Maps.AppendAt
import Derived.Deep.Matrix
import Derived.SizedLaws
/- What an argument's reading gives to a walk. -/
namespace Go
open Go.ChangeShapes Go.WideShapes Go.ChangeAt Go.RowKit

theorem bytes_of_ints (zs : List Int) (h : ∀ n ∈ zs, (Lit.int .u8 n).wf = true) (j : Nat) (hj : j < zs.length) :
    ((UInt8.ofNat (zs.getD j 0).toNat).toNat : Int) = zs.getD j 0 := by
  have hm : zs.getD j 0 ∈ zs := by
    rw [List.getD_eq_getElem?_getD, List.getElem?_eq_getElem hj]
    simp
  have hw := h _ hm
  have hb := bounds_u8 hw
  rw [UInt8.toNat_ofNat']
  omega

theorem seg_of_trod {H : Type} {enc : TypeId × Value → H} {P : Program} {W : World} {T E base : Nat} {v : Value} {d : DataW H} {ps : List MemPlace}
    (hT : P.underlying T = some (.slice E)) (hE : P.underlying E = some (.int .u8)) (hc : P.cellsOf E = 1)
    (hv : Value.okWide P W .any base T v) (h : DataW.Trod enc P W 0 (fun _ => true) true T v d ps) : ∃ l, Seg W v l ∧ l.length ≤ 9223372036854775807 := by
  obtain ⟨a, len, cap, rfl⟩ := okWide_slice hT hv
  obtain ⟨fuel, hf⟩ := h
  rcases open_ints hT hE hc hf with ⟨hcs, _⟩ | ⟨x, l, c, zs, hcs, _, hl, hm, hz, _, hcell, hwz⟩
  · simp [Value.cells] at hcs
    obtain ⟨rfl, rfl, rfl⟩ := hcs
    exact ⟨[], Seg.nil _, by simp⟩
  · simp [Value.cells] at hcs
    obtain ⟨rfl, rfl, rfl⟩ := hcs
    simp at hz
    have hlen : ((zs.take len).map fun z => UInt8.ofNat z.toNat).length = len := by simp; omega
    refine ⟨(zs.take len).map fun z => UInt8.ofNat z.toNat, ⟨some x, cap, by rw [hlen], ⟨fun h => by simp at h, by rw [hlen]; exact hl⟩, ?_⟩, by rw [hlen]; unfold maxLen at hm; omega⟩
    rcases Nat.eq_zero_or_pos len with h0 | h0
    · left
      apply List.eq_nil_of_length_eq_zero
      omega
    · right
      obtain ⟨b, off, rfl, hat⟩ := ints_at hcell (by omega)
      have hlt : b < W.heap.size := block_lt_of_cell (hat 0 (by omega))
      refine ⟨b, off, rfl, hlt, fun j hj => ?_⟩
      rw [hlen] at hj
      rw [hat j (by omega)]
      have := bytes_of_ints zs hwz j (by omega)
      rw [List.getElem_map, List.getElem_take]
      rw [List.getD_eq_getElem?_getD, List.getElem?_eq_getElem (by omega)] at this
      rw [List.getD_eq_getElem?_getD, List.getElem?_eq_getElem (by omega)]
      simp only [Option.getD_some] at this ⊢
      rw [this]

end Go

/- More on blocks: an append that tells where its row lies; slices of slices of bytes, and what an argument's reading gives of them. -/
namespace Go
open Go.ChangeShapes Go.WideShapes Go.ChangeAt Go.RowKit Go.Deep

section
variable {P : Program}
/-- 'append(s, x...)' on what the call itself made: the row is the old one or the newest block. -/
theorem wpList_append_many_at {ops : Array Oper} {rest : List Oper} {o : Oper} {a : Act} {Q : Exit → Act → World → Prop} {w : World} (hg : o.guard = none) (s x : Operand) (t e : TypeId) (size bytes : Nat)
    (hop : o.op = Op.call { callee := Callee.builtin Builtin.append, args := #[s, x], argTypes := #[t, t] }) (hT : SliceOf P t e size bytes)
    (base : Nat) (v : Value) (n : Nat) (xs : List Value) (hs : a.eval s = v) (hown : w.ownsRow base e size v n xs) (ao : Option Addr) (m c : Nat) (news : List Value) (hx : a.eval x = .slice ao m c) (hn : news.length = m * size)
    (hnone : ao = none → m = 0 ∧ c = 0) (hc : ∀ ad, ao = some ad → ∀ j u, news[j]? = some u → w.cell? (ad.add j) = some u) (h1c : ∀ u ∈ news, u.oneCell' = true)
    (h63 : n + m ≤ maxLen) (hbytes : (n + m) * bytes ≤ 140737488355328) (hbase : base ≤ w.heap.size)
    (hK : ∀ v' w', w'.ownsRow base e size v' (n + m) (xs ++ news) → Below base w w' → w.grownBy w' v.ownBlock → (v'.ownBlock = v.ownBlock ∨ v'.ownBlock = some w.heap.size) → wpList P ops Q rest (a.put o.dst v') w') :
    wpList P ops Q (o :: rest) a w := by
  obtain ⟨h1, h0, i, z, h2, h3, h4, h5, h6⟩ := hT
  cases ao with
  | some ad =>
    obtain ⟨v', w', hr, k1, k2, _, k4⟩ := run_append_own_at (P := P) w base t o.type e i z size bytes h1 h2 h3 h4 h5 h6 h0 v n xs hown ad m c news hn (hc ad rfl) h1c h63 hbytes hbase
    refine wpList_plain hg fun K hK' => ?_
    unfold Oper.wp execOp
    simp only [hop, resolve, invoke, builtin, Sem.run_bind, Sem.run_pure, Result.andThen_ok, List.map_toArray, List.map_cons, List.map_nil, hs, hx, hr]
    exact hK' _ _ (hK v' w' k1 ((Below.refl _ _).grown k2 hbase (fun k hk => (hown.lt k hk).1)) k2 k4)
  | none =>
    obtain ⟨rfl, rfl⟩ := hnone rfl
    have hnews : news = [] := List.eq_nil_of_length_eq_zero (by simpa using hn)
    subst hnews
    refine wpList_plain hg fun K hK' => ?_
    have hrun := run_append_owned_none (P := P) w base t o.type e i size h1 h2 _ n xs hown
    unfold Oper.wp
    simp [execOp, hop, resolve, invoke, builtin, hs, hx, hrun, Result.andThen]
    exact hK' _ _ (hK _ _ (by simpa using hown) (Below.refl _ _) (World.grownBy.refl _ _) (.inl rfl))
end

theorem ownsRow_chg {S : Nat → Prop} {w w' : World} {base : Nat} {e : TypeId} {size : Nat} {v : Value} {n : Nat} {xs : List Value} (h : w.ownsRow base e size v n xs) (hc : Chg S w w') (hS : ∀ k, v.ownBlock = some k → ¬ S k) : w'.ownsRow base e size v n xs := by
  refine ⟨h.1, ?_⟩
  rcases h.2 with hn | ⟨g, cap, cur, hv, hg, hh, r⟩
  · exact .inl hn
  · exact .inr ⟨g, cap, cur, hv, hg, (hc.block g (lt_of_block hh) (hS g (by rw [hv]; rfl))).trans hh, r⟩

/-- A row of bytes of the call's own, as a slice of bytes. -/
theorem seg_of_owns {w : World} {base : Nat} {v : Value} {l : List UInt8} (h : w.ownsRow base 5 1 v l.length (ucells l)) : Seg w v l := by
  obtain ⟨hl, h⟩ := h
  rcases h with ⟨rfl, h⟩ | ⟨g, cap, cur, hv, hb, hg, hc, _, hs, ht⟩
  · have : l = [] := List.eq_nil_of_length_eq_zero h
    subst this
    exact Seg.nil w
  · subst hv
    refine seg_of_at (t := 5) (cs := cur) hg hc fun j hj => ?_
    have : (ucells l)[j]? = some (.int .u8 ((l[j].toNat : Nat) : Int)) := by simp [ucells, hj]
    rw [← this, ← ht, List.getElem?_take, if_pos (by omega)]
    simp

/-- A slice of slices of bytes. -/
def Segs (w : World) (v : Value) (ls : List (List UInt8)) : Prop :=
  ∃ a cap, v = .slice a ls.length cap ∧ ls.length ≤ cap ∧
    (ls = [] ∨ ∃ b off, a = some ⟨b, off, none⟩ ∧ b < w.heap.size ∧ ∀ j (h : j < ls.length), ∃ u, w.cell? ⟨b, off + j, none⟩ = some u ∧ Seg w u ls[j])

theorem Segs.below {w w' : World} {v : Value} {ls : List (List UInt8)} (h : Segs w v ls) (hb : Below w.heap.size w w') : Segs w' v ls := by
  obtain ⟨a, cap, hv, hc, h⟩ := h
  refine ⟨a, cap, hv, hc, ?_⟩
  rcases h with h | ⟨b, off, ha, hlt, hx⟩
  · exact .inl h
  · refine .inr ⟨b, off, ha, Nat.lt_of_lt_of_le hlt hb.size, fun j hj => ?_⟩
    obtain ⟨u, h1, h2⟩ := hx j hj
    exact ⟨u, (hb.cell (p := ⟨b, off + j, none⟩) hlt).trans h1, h2.below hb⟩

theorem Segs.shape {w : World} {v : Value} {ls : List (List UInt8)} (h : Segs w v ls) : ∃ a cap, v = .slice a ls.length cap := by
  obtain ⟨a, cap, hv, _⟩ := h
  exact ⟨a, cap, hv⟩

theorem Segs.full {w : World} {v : Value} {ls : List (List UInt8)} (h : Segs w v ls) (hl : 0 < ls.length) :
    ∃ b off cap, v = .slice (some ⟨b, off, none⟩) ls.length cap ∧ b < w.heap.size ∧ ∀ j (h : j < ls.length), ∃ u, w.cell? ⟨b, off + j, none⟩ = some u ∧ Seg w u ls[j] := by
  obtain ⟨a, cap, hv, _, h⟩ := h
  rcases h with rfl | ⟨b, off, rfl, hb, hc⟩
  · simp at hl
  · exact ⟨b, off, cap, hv, hb, hc⟩

theorem weights_all_mem {H : Type} {P : Program} {e : TypeId} : ∀ {ds : List (DataW H)} {i : Nat} {d : DataW H}, ds[i]? = some d → ∀ n ∈ d.weights P e, n ∈ DataW.weightsAll P e ds
  | d0 :: ds, 0, d, hd, n, hn => by
    simp only [List.getElem?_cons_zero, Option.some.injEq] at hd
    subst hd
    simp only [DataW.weightsAll, List.mem_append]
    exact .inl hn
  | d0 :: ds, i + 1, d, hd, n, hn => by
    simp only [List.getElem?_cons_succ] at hd
    simp only [DataW.weightsAll, List.mem_append]
    exact .inr (weights_all_mem hd n hn)
  | [], i, d, hd, _, _ => by simp at hd

theorem segs_of_trod {H : Type} {enc : TypeId × Value → H} {P : Program} {W : World} {T E B base : Nat} {v : Value} {d : DataW H} {ps : List MemPlace}
    (hT : P.underlying T = some (.slice E)) (hE : P.underlying E = some (.slice B)) (hB : P.underlying B = some (.int .u8)) (hcE : P.cellsOf E = 1) (hcB : P.cellsOf B = 1) (hbB : P.bytesOf B = 1) (hbE : 0 < P.bytesOf E)
    (hv : Value.okWide P W .any base T v) (h : DataW.Trod enc P W 0 (fun _ => true) true T v d ps) (hw : ∀ n ∈ d.weights P T, n ≤ reachBytes) :
    ∃ ls, Segs W v ls ∧ ls.length ≤ 140737488351232 ∧ ∀ l ∈ ls, l.length ≤ 140737488351232 := by
  obtain ⟨a, len, cap, rfl⟩ := okWide_slice hT hv
  obtain ⟨fuel, hf⟩ := h
  rcases open_slice1 hT hcE hf with ⟨hcs, _⟩ | ⟨x, l, c, m, n, V, D, Pl, hcs, _, hl, hm, hmm, hd, hx⟩
  · simp [Value.cells] at hcs
    obtain ⟨rfl, rfl, rfl⟩ := hcs
    exact ⟨[], ⟨none, 0, rfl, Nat.le_refl _, .inl rfl⟩, by simp, by simp⟩
  · simp [Value.cells] at hcs
    obtain ⟨rfl, rfl, rfl⟩ := hcs
    simp only [if_true] at hmm
    subst hmm
    simp only [Prod.mk.injEq] at hd
    have hlenb : len ≤ 140737488351232 := by
      have hmem : (((List.range len).map D).length + ((List.range (m - len)).map fun j => D (len + j)).length) * P.bytesOf E ≤ reachBytes := by
        apply hw
        rw [hd.1]
        simp only [DataW.weights, hT]
        exact List.mem_cons_self
      simp only [List.length_map, List.length_range, reachBytes] at hmem
      have := Nat.le_mul_of_pos_right (len + (m - len)) hbE
      omega
    have each : ∀ i, i < len → ∃ li : List UInt8, Seg W (V i) li ∧ li.length ≤ 140737488351232 := by
      intro i hi
      obtain ⟨h1, h2⟩ := hx i (by omega)
      rcases open_ints hE hB hcB h2 with ⟨hcs, _⟩ | ⟨x', l', c', zs, hcs, _, hl', hm', hz, hy, hcell, hwz⟩
      · simp at hcs
        rw [hcs]
        exact ⟨[], Seg.nil W, by simp⟩
      · simp at hcs
        simp at hz
        have hlen : ((zs.take l').map fun z => UInt8.ofNat z.toNat).length = l' := by simp; omega
        refine ⟨(zs.take l').map fun z => UInt8.ofNat z.toNat, ?_, ?_⟩
        · rw [hcs]
          refine ⟨some x', c', by rw [hlen], ⟨fun h => by simp at h, by rw [hlen]; exact hl'⟩, ?_⟩
          rcases Nat.eq_zero_or_pos l' with h0 | h0
          · left
            apply List.eq_nil_of_length_eq_zero
            omega
          · right
            obtain ⟨b, off, rfl, hat⟩ := ints_at hcell (by omega)
            have hlt : b < W.heap.size := block_lt_of_cell (hat 0 (by omega))
            refine ⟨b, off, rfl, hlt, fun j hj => ?_⟩
            rw [hlen] at hj
            rw [hat j (by omega)]
            have := bytes_of_ints zs hwz j (by omega)
            rw [List.getElem_map, List.getElem_take]
            rw [List.getD_eq_getElem?_getD, List.getElem?_eq_getElem (by omega)] at this
            rw [List.getD_eq_getElem?_getD, List.getElem?_eq_getElem (by omega)]
            simp only [Option.getD_some] at this ⊢
            rw [this]
        · rw [hlen]
          simp only [Prod.mk.injEq] at hy
          have hmem : ((lits .u8 (zs.take l') : List (DataW H)).length + (lits .u8 (zs.drop l') : List (DataW H)).length) * P.bytesOf B ≤ reachBytes := by
            apply hw
            rw [hd.1]
            simp only [DataW.weights, hT]
            refine List.mem_cons_of_mem _ (List.mem_append_left _ (weights_all_mem (i := i) (d := D i) (by simp [hi]) _ ?_))
            rw [hy.1]
            simp only [DataW.weights, hE]
            exact List.mem_cons_self
          rw [hbB] at hmem
          simp only [lits, List.length_map, List.length_take, List.length_drop, reachBytes] at hmem
          omega
    obtain ⟨F, hF⟩ := choose_lt (α := List UInt8) (p := fun i li => Seg W (V i) li ∧ li.length ≤ 140737488351232) each
    have hlen : ((List.range len).map F).length = len := by simp
    refine ⟨(List.range len).map F, ⟨some x, m, by rw [hlen], by rw [hlen]; exact hl, ?_⟩, by rw [hlen]; exact hlenb, ?_⟩
    · rcases Nat.eq_zero_or_pos len with h0 | h0
      · left; rw [h0]; rfl
      · right
        obtain ⟨b, off, spot⟩ := x
        have hspot : spot = none := by simpa [Addr.add] using World.cell?_spot (hx 0 (by omega)).1
        subst hspot
        have hat : ∀ j, j < len → W.cell? ⟨b, off + j, none⟩ = some (V j) := fun j hj => by
          have := (hx j (by omega)).1
          rw [Go.WideShapes.add_plain] at this
          exact this
        refine ⟨b, off, rfl, block_lt_of_cell (hat 0 h0), fun j hj => ?_⟩
        rw [hlen] at hj
        exact ⟨V j, hat j hj, by rw [List.getElem_map, List.getElem_range]; exact (hF j hj).1⟩
    · intro li hli
      simp only [List.mem_map, List.mem_range] at hli
      obtain ⟨i, hi, rfl⟩ := hli
      exact (hF i hi).2

end Go
