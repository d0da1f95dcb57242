/- A disk: reading. -/
import Derived.Test.YtleicmmbaacbmaaGreatMrg2
set_option linter.unusedVariables false
namespace Go
section
variable {P : Program}
/-- 'var x T': a new block. -/
theorem wpList_alloc_as {ops : Array Oper} {rest : List Oper} {o : Oper} {a : Act} {Q : Exit → Act → World → Prop} {w : World} (hg : o.guard = none) (e : TypeId) (hop : o.op = Op.alloc e) (cs : Array Value)
    (hz : ((P.info? e).bind (·.zero)).map (·.cells) = some cs) (hK : wpList P ops Q rest (a.put o.dst (.pointer (some ⟨w.heap.size, 0, none⟩))) (w.alloc (.cells cs e))) : wpList P ops Q (o :: rest) a w := by
  refine wpList_plain hg fun K hK' => ?_
  cases hq : P.info? e with
  | none => simp [hq] at hz
  | some i =>
    cases hzz : i.zero with
    | none => simp [hq, hzz] at hz
    | some z =>
      simp [hq, hzz] at hz
      subst hz
      unfold Oper.wp execOp
      simp [hop, Instr.alloc, zeroValue, typeInfo, hq, hzz, newVar, Result.andThen]
      exact hK' _ _ hK
/-- 'x = v' into the block that was made last. -/
theorem wpList_store_new {ops : Array Oper} {rest : List Oper} {o : Oper} {a : Act} {w : World} {Q : Exit → Act → World → Prop} (hgd : o.guard = none) (ty : TypeId) (x y : Operand) (ho : o.op = .store ty x y)
    (c cells : Array Value) (hx : a.eval x = .pointer (some ⟨w.heap.size, 0, none⟩)) (hy : a.eval y = .agg cells)
    (hi : (P.info? ty).map (·.size) = some cells.size) (hs : c.size = cells.size) (h1 : cells.all (·.oneCell') = true)
    (h : wpList P ops Q rest (a.put o.dst undef) (w.alloc (.cells cells ty))) : wpList P ops Q (o :: rest) a (w.alloc (.cells c ty)) :=
  wpList_store_agg hgd ty x y ho w.heap.size hx cells hy ty c (At.new w c ty) hi hs h1 (by rw [World.setRow_alloc_new]; exact h)
end
end Go

namespace Go.Proofs.YtleicmmbaacbmaaGreat
open Go.RowKit

/-- A new sector's cells. -/
def zcells : Array Value := (List.replicate 128 (.int .u8 0)).toArray
theorem zcells_size : zcells.size = 128 := by simp [zcells]
theorem zero_sector' : ((Tryz.prog.info? 152).bind (·.zero)).map (·.cells) = some zcells := by kernel_rfl
theorem zero_int (w : World) : (zeroValue 3).run Tryz.prog w = .ok (.int .i64 0) w := (zero_of_info (P := Tryz.prog) (t := 3) (v := .int .i64 0) (n := 1) (by kernel_rfl)).1 w
theorem wf_nat (n : Nat) (h : n ≤ 9223372036854775807) : (Lit.int .i64 (n : Int)).wf = true := WalkArith.wf_i64 ⟨by omega, by omega⟩
theorem ucells_all (l : List UInt8) : (ucells l).toArray.all (·.oneCell') = true := all_oneCell_toArray (ucells_one l)

theorem slice_bytes : SliceOf Tryz.prog 53 5 1 1 := SliceOf.mk' (z := .int .u8 0) Tryz.underlying53 (by decide) (by kernel_rfl) rfl

set_option maxRecDepth 100000 in
set_option maxHeartbeats 1000000 in
theorem clone_any (ad : Addr) (cap : Nat) (l : List UInt8) (w : World) (hl : l.length ≤ 140737488355000) (hv : Seg w (.slice (some ad) l.length cap) l) :
    Calls Tryz.prog 94 #[.slice (some ad) l.length cap] w fun e w' => ∃ v, e = .returned v ∧ w'.ownsRow w.heap.size 5 1 v l.length (ucells l) ∧ Below w.heap.size w w' := by
  have qN : ∀ W : World, (binOp .eql 53 (.slice (some ad) l.length cap) (.slice none 0 0)).run Tryz.prog W = .ok (.bool false) W := fun W => Lib.run_eql_slice_nil W _ _ (some ad) _ _ 0 0 Tryz.underlying53
  go_enter Tryz.func94, Tryz.ntmps94
  have HC := Lib.hid (hv.below ((Below.refl w.heap.size w).alloc (Nat.le_refl _) (.cells #[] 5))).cells
  clear hv
  go_wp2_with (refine wpList_append_many rfl _ _ 53 5 1 1 rfl slice_bytes w.heap.size (.slice (some ⟨w.heap.size, 0, none⟩) 0 0) 0 [] rfl (World.ownsRow_made w #[] 0 (Nat.le_refl _) (by unfold maxLen; omega) rfl) (some ad) l.length cap (ucells l) rfl (by rw [ucells_length, Nat.mul_one]) HC.out.2.1 HC.out.2.2 (ucells_one l) (by unfold maxLen; omega) (by omega) (by rw [size_alloc]; omega) ?_; intro v1 w1 hown hb hg)
  go_ret
  rw [Nat.zero_add, List.nil_append] at hown
  exact ⟨v1, rfl, hown, ((Below.refl w.heap.size w).alloc (Nat.le_refl _) _).trans hb⟩

theorem range_of_at {w : World} {g : Nat} {l : List Value} {t : TypeId} (h : At w g l.toArray t) (o : Nat) (cs : List Value) (hc : ∀ j, j < cs.length → l[o + j]? = cs[j]?) : w.rangeAt g o cs := by
  intro j v hv
  have hj : j < cs.length := (List.getElem?_eq_some_iff.1 hv).1
  rw [h.cell, List.getElem?_toArray, hc j hj, hv]

theorem sector_range {w : World} {g : Nat} {l : List Sec} {t : TypeId} (h : At w g (secCells l).toArray t) (hl : ∀ s ∈ l, s.length = 128) (i : Nat) (hi : i < l.length) : w.rangeAt g (i * 128) (ucells l[i]) :=
  range_of_at h _ _ fun j hj => secCells_at hl i j hi (by rw [ucells_length, hl _ (List.getElem_mem hi)] at hj; exact hj)

theorem wcells_at {l : List (Nat × Sec)} (h : ∀ x ∈ l, x.2.length = 128) (i j : Nat) (hi : i < l.length) (hj : j < 129) : (wcells l)[i * 129 + j]? = (wcell l[i])[j]? := by
  induction l generalizing i with
  | nil => simp at hi
  | cons s l ih =>
    have hs : (wcell s).length = 129 := by unfold wcell; rw [List.length_cons, ucells_length, h s List.mem_cons_self]
    show (wcell s ++ wcells l)[i * 129 + j]? = _
    match i with
    | 0 => rw [List.getElem?_append_left (by omega)]; simp
    | i + 1 =>
      rw [List.getElem?_append_right (by omega), hs, show (i + 1) * 129 + j - 129 = i * 129 + j by omega, ih (fun x hx => h x (List.mem_cons_of_mem _ hx)) i (by simpa using hi)]
      simp

theorem wcells_length {l : List (Nat × Sec)} (h : ∀ x ∈ l, x.2.length = 128) : (wcells l).length = l.length * 129 := by
  induction l with
  | nil => rfl
  | cons s l ih =>
    have hs : (wcell s).length = 129 := by unfold wcell; rw [List.length_cons, ucells_length, h s List.mem_cons_self]
    show (wcell s ++ wcells l).length = _
    rw [List.length_append, ih (fun x hx => h x (List.mem_cons_of_mem _ hx)), hs, List.length_cons]
    omega

theorem sector_size : (Tryz.prog.info? 152).map (·.size) = some 128 := by kernel_rfl

theorem rebase_row {w : World} {b b' : Nat} {e : TypeId} {sz : Nat} {v : Value} {n : Nat} {xs : List Value} (h : w.ownsRow b e sz v n xs) (hb : b' ≤ b) : w.ownsRow b' e sz v n xs :=
  ⟨h.1, h.2.imp id (fun ⟨g, cap, cur, a, c, r⟩ => ⟨g, cap, cur, a, Nat.le_trans hb c, r⟩)⟩

/-- What a read gives. -/
def ReadPost (w : World) (s : Sec) (e : Ending) (w' : World) : Prop :=
  ∃ v, e = .returned (.tuple #[v, .int .u16 0]) ∧ w'.ownsRow w.heap.size 5 1 v 128 (ucells s) ∧ Below w.heap.size w w'

set_option maxRecDepth 100000 in
set_option maxHeartbeats 4000000 in
theorem disk_read_last (T : Nat → Nat) (t p i : Nat) (d : Dsk) (w : World) (h : DiskAt w T t p d) (hf : d.failed = false) (hi : i < d.last.length) (hn : waits d.cache (i : Int) = none) :
    Calls Tryz.prog 109 #[.pointer (some ⟨p, 0, none⟩), .int .i64 i] w (ReadPost w d.last[i]) := by
  have hmay := Lib.hid (disk_may T t p d i w h)
  have hm0 : d.may (i : Int) = 0 := by unfold Dsk.may; rw [hf, if_neg (by simp), if_neg (by omega)]
  rw [hm0] at hmay
  obtain ⟨gl, gm, cv, f, h1, h2, h3, h4, h5, h6, h7, h8⟩ := h.at'
  have hfew := h.few
  have hlen := h.len _ (List.getElem_mem hi)
  have c0 : w.cell? ⟨p, 0, none⟩ = some (.slice (some ⟨gl, 0, none⟩) d.last.length d.last.length) := h1.cell 0
  have hlt := h1.lt
  have HR := Lib.hid (sector_range h2 h.len i hi)
  have H1 := Lib.hid h1
  have H4 := Lib.hid h4
  have hfz : f (i : Int) = none := by
    cases hfi : f (i : Int) with
    | none => rfl
    | some v => obtain ⟨j, hj, _, e2⟩ := (h5 (i : Int)).2 v hfi; rw [hn] at e2; cases e2
  clear h h1 h2 h3 h4 h5 hf hn
  generalize d.last[i] = s at *
  generalize d.last.length = n at *
  have hul : (ucells s).length = 128 := by rw [ucells_length, hlen]
  have HMa : Hid ((w.alloc (.cells (ucells s).toArray 152)).imap Tryz.prog 3 3 gm d.cache.length f) := H4.out.mod ((Chg.refl (fun _ => False) w).alloc _) (fun h => h)
  have c2 : (w.alloc (.cells (ucells s).toArray 152)).cell? ⟨p, 2, none⟩ = some (.map (some gm)) := (H1.out.alloc _).cell 2
  have HCL : Hid (Calls Tryz.prog 94 #[.slice (some ⟨w.heap.size, 0, none⟩) 128 128] (w.alloc (.cells (ucells s).toArray 152)) fun e w' => ∃ v, e = .returned v ∧ w'.ownsRow (w.alloc (.cells (ucells s).toArray 152)).heap.size 5 1 v 128 (ucells s) ∧ Below (w.alloc (.cells (ucells s).toArray 152)).heap.size (w.alloc (.cells (ucells s).toArray 152)) w') := by
    have := clone_any ⟨w.heap.size, 0, none⟩ 128 s (w.alloc (.cells (ucells s).toArray 152)) (by omega) (seg_of_at (At.new w _ _) (by omega) (fun j hj => by simp [ucells, hj]))
    rw [hlen] at this
    exact this
  go_enter Tryz.func109, Tryz.ntmps109
  go_wp2_with (first
    | (go_at_call 84; refine hmay.out.mono ?_; rintro e w1 ⟨rfl, rfl⟩)
    | (refine wpList_load_mid rfl 152 _ rfl gl (i * 128) rfl (ucells s) _ HR.out Tryz.underlying152 rfl (by rw [hul]; exact sector_size) ?_)
    | (refine wpList_alloc_as rfl 152 rfl zcells zero_sector' ?_)
    | (refine wpList_store_new rfl 152 _ _ rfl zcells (ucells s).toArray rfl rfl (by rw [List.size_toArray, hul]; exact sector_size) (zcells_size.trans (by rw [List.size_toArray, hul])) (ucells_all s) ?_)
    | (refine wpList_imap_none rfl _ _ 133 rfl Tryz.underlying133 Tryz.underlying3 Tryz.underlying3 (zero_int _) rfl HMa.out (i : Int) rfl (wf_nat i (by omega)) hfz ?_; intro c)
    | (go_at_call 94; refine HCL.out.mono ?_; rintro e w2 ⟨v2, rfl, hown, hb⟩))
  go_ret2
  exact ⟨v2, rfl, rebase_row hown (by rw [size_alloc]; omega), below_then ((Below.refl _ _).alloc (Nat.le_refl _) _) hb⟩

set_option maxRecDepth 100000 in
set_option maxHeartbeats 4000000 in
theorem disk_read_wait (T : Nat → Nat) (t p i : Nat) (d : Dsk) (w : World) (h : DiskAt w T t p d) (hf : d.failed = false) (hi : i < d.last.length) (s : Sec) (hn : waits d.cache (i : Int) = some s) :
    Calls Tryz.prog 109 #[.pointer (some ⟨p, 0, none⟩), .int .i64 i] w (ReadPost w s) := by
  have hmay := Lib.hid (disk_may T t p d i w h)
  have hm0 : d.may (i : Int) = 0 := by unfold Dsk.may; rw [hf, if_neg (by simp), if_neg (by omega)]
  rw [hm0] at hmay
  obtain ⟨gl, gm, cv, f, h1, h2, h3, h4, h5, h6, h7, h8⟩ := h.at'
  have hfew := h.few
  have hlen := h.len _ (List.getElem_mem hi)
  have c0 : w.cell? ⟨p, 0, none⟩ = some (.slice (some ⟨gl, 0, none⟩) d.last.length d.last.length) := h1.cell 0
  have hlt := h1.lt
  have HR := Lib.hid (sector_range h2 h.len i hi)
  have H1 := Lib.hid h1
  have H4 := Lib.hid h4
  obtain ⟨j, gc, ccap, hfz, hcv, HR2, hsl, hjl, hclt⟩ : ∃ (j gc ccap : Nat), f (i : Int) = some (j : Int) ∧ ∃ _ : cv = .slice (some ⟨gc, 0, none⟩) d.cache.length ccap, Hid (w.rangeAt gc (j * 129 + 1) (ucells s)) ∧ s.length = 128 ∧ j < d.cache.length ∧ gc < w.heap.size := by
    cases hfi : f (i : Int) with
    | none => have := (h5 (i : Int)).1 hfi; rw [hn] at this; cases this
    | some v =>
      obtain ⟨j, hj, e1, e2⟩ := (h5 (i : Int)).2 v hfi
      rw [hn] at e2
      simp only [Option.some.injEq] at e2
      obtain ⟨gc, ccap, hcv, _, hgl⟩ := ownsRow_full h3 (by omega)
      refine ⟨j, gc, ccap, by rw [e1], hcv, ?_, by rw [e2]; exact h.clen _ (List.getElem_mem hj), hj, hgl⟩
      intro q v' hq
      have hq2 : q < 128 := by have := (List.getElem?_eq_some_iff.1 hq).1; rw [ucells_length, e2, h.clen _ (List.getElem_mem hj)] at this; exact this
      rw [hcv] at h3
      rw [h3.cellAt (j * 129 + 1 + q) (by omega), show j * 129 + 1 + q = j * 129 + (1 + q) by omega, wcells_at h.clen j (1 + q) hj (by omega), Nat.add_comm 1 q, ← hq, e2]
      rfl
  have c1 : w.cell? ⟨p, 1, none⟩ = some (.slice (some ⟨gc, 0, none⟩) d.cache.length ccap) := by rw [← hcv]; exact h1.cell 1
  have hcm : d.cache.length ≤ 9223372036854775807 := by have := h3.2; rcases this with ⟨_, h0⟩ | ⟨_, cap', _, _, _, _, k1, k2, _⟩; omega; unfold maxLen at k2; omega
  subst hcv
  clear h h1 h2 h3 h4 h5 hf hn
  generalize d.last[i] = s0 at *
  generalize d.cache.length = m at *
  generalize d.last.length = n at *
  have hul : (ucells s0).length = 128 := by rw [ucells_length, hlen]
  have hus : (ucells s).length = 128 := by rw [ucells_length, hsl]
  have HMa : Hid ((w.alloc (.cells (ucells s0).toArray 152)).imap Tryz.prog 3 3 gm m f) := H4.out.mod ((Chg.refl (fun _ => False) w).alloc _) (fun h => h)
  have c2 : (w.alloc (.cells (ucells s0).toArray 152)).cell? ⟨p, 2, none⟩ = some (.map (some gm)) := (H1.out.alloc _).cell 2
  have d1 : (w.alloc (.cells (ucells s0).toArray 152)).cell? ⟨p, 1, none⟩ = some (.slice (some ⟨gc, 0, none⟩) m ccap) := (H1.out.alloc _).cell 1
  have HR3 : Hid ((w.alloc (.cells (ucells s0).toArray 152)).rangeAt gc (j * 129 + 1) (ucells s)) := fun q v hq => by
    rw [World.cell?_alloc_lt _ _ (a := ⟨gc, j * 129 + 1 + q, none⟩) hclt]; exact HR2.out q v hq
  have HCL : Hid (Calls Tryz.prog 94 #[.slice (some ⟨w.heap.size, 0, none⟩) 128 128] (w.alloc (.cells (ucells s).toArray 152)) fun e w' => ∃ v, e = .returned v ∧ w'.ownsRow (w.alloc (.cells (ucells s).toArray 152)).heap.size 5 1 v 128 (ucells s) ∧ Below (w.alloc (.cells (ucells s).toArray 152)).heap.size (w.alloc (.cells (ucells s).toArray 152)) w') := by
    have := clone_any ⟨w.heap.size, 0, none⟩ 128 s (w.alloc (.cells (ucells s).toArray 152)) (by omega) (seg_of_at (At.new w _ _) (by omega) (fun j hj => by simp [ucells, hj]))
    rw [hsl] at this
    exact this
  go_enter Tryz.func109, Tryz.ntmps109
  go_wp2_with (first
    | (go_at_call 84; refine hmay.out.mono ?_; rintro e w1 ⟨rfl, rfl⟩)
    | (refine wpList_load_mid rfl 152 _ rfl gl (i * 128) rfl (ucells s0) _ HR.out Tryz.underlying152 rfl (by rw [hul]; exact sector_size) ?_)
    | (refine wpList_load_mid rfl 152 _ rfl gc (j * 129 + 1) rfl (ucells s) _ HR3.out Tryz.underlying152 rfl (by rw [hus]; exact sector_size) ?_)
    | (refine wpList_alloc_as rfl 152 rfl zcells zero_sector' ?_)
    | (refine wpList_store_new rfl 152 _ _ rfl zcells (ucells s0).toArray rfl rfl (by rw [List.size_toArray, hul]; exact sector_size) (zcells_size.trans (by rw [List.size_toArray, hul])) (ucells_all s0) ?_)
    | (refine wpList_store_new rfl 152 _ _ rfl (ucells s0).toArray (ucells s).toArray rfl rfl (by rw [List.size_toArray, hus]; exact sector_size) (by rw [List.size_toArray, List.size_toArray, hul, hus]) (ucells_all s) ?_)
    | (refine wpList_imap_some rfl _ _ 133 rfl Tryz.underlying133 Tryz.underlying3 Tryz.underlying3 (zero_int _) rfl HMa.out (i : Int) (j : Int) rfl (wf_nat i (by omega)) hfz ?_)
    | (go_at_call 94; refine HCL.out.mono ?_; rintro e w2 ⟨v2, rfl, hown, hb⟩))
  go_ret2
  exact ⟨v2, rfl, rebase_row hown (by rw [size_alloc]; omega), below_then ((Below.refl _ _).alloc (Nat.le_refl _) _) hb⟩

/-- 'Read', whatever sector is asked for. -/
theorem disk_read (T : Nat → Nat) (t p i : Nat) (d : Dsk) (w : World) (h : DiskAt w T t p d) (hf : d.failed = false) (hi : i < d.last.length) :
    Calls Tryz.prog 109 #[.pointer (some ⟨p, 0, none⟩), .int .i64 i] w (ReadPost w (d.cur i)) := by
  unfold Dsk.cur
  cases hw : waits d.cache (i : Int) with
  | none =>
    have := disk_read_last T t p i d w h hf hi hw
    simpa [List.getD_eq_getElem?_getD, hi] using this
  | some s => exact disk_read_wait T t p i d w h hf hi s hw

end Go.Proofs.YtleicmmbaacbmaaGreat
