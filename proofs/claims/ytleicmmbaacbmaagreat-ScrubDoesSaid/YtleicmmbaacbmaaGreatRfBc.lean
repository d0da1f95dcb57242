/- The document's disk: what waits becomes lasting. -/
import Derived.Test.YtleicmmbaacbmaaGreatMrg7
set_option linter.unusedVariables false
namespace Go
open Go.RowKit
section
variable {P : Program}
/-- 'append(s, x...)' within a drawn region. -/
theorem wp_append_many {o : Oper} {a : Act} {K : Act → World → Prop} {Q : Exit → Act → World → Prop} {w : World} (s x : Operand) (t e : TypeId) (size bytes : Nat)
    (hop : o.op = Op.call { callee := Callee.builtin Builtin.append, args := #[s, x], argTypes := #[t, t] }) (hT : SliceOf P t e size bytes)
    (base : Nat) (v : Value) (n : Nat) (xs : List Value) (hs : a.eval s = v) (hown : w.ownsRow base e size v n xs) (ad : Addr) (m c : Nat) (news : List Value) (hx : a.eval x = .slice (some ad) m c) (hn : news.length = m * size)
    (hc : ∀ j u, news[j]? = some u → w.cell? (ad.add j) = some u) (h1c : ∀ u ∈ news, u.oneCell' = true)
    (h63 : n + m ≤ maxLen) (hbytes : (n + m) * bytes ≤ 140737488355328) (hbase : base ≤ w.heap.size)
    (hK : ∀ v' w', w'.ownsRow base e size v' (n + m) (xs ++ news) → Below base w w' → w.grownBy w' v.ownBlock → (v'.ownBlock = v.ownBlock ∨ v'.ownBlock = some w.heap.size) → K (a.put o.dst v') w') :
    o.wp P a w K Q := by
  obtain ⟨h1, h0, i, z, h2, h3, h4, h5, h6⟩ := hT
  obtain ⟨v', w', hr, k1, k2, _, k4⟩ := run_append_own_at (P := P) w base t o.type e i z size bytes h1 h2 h3 h4 h5 h6 h0 v n xs hown ad m c news hn hc h1c h63 hbytes hbase
  unfold Oper.wp execOp
  simp only [hop, resolve, invoke, builtin, Sem.run_bind, Sem.run_pure, Result.andThen_ok, List.map_toArray, List.map_cons, List.map_nil, hs, hx, hr]
  exact hK v' w' k1 ((Below.refl _ _).grown k2 hbase (fun k hk => (hown.lt k hk).1)) k2 k4
end
end Go

namespace Go.Proofs.YtleicmmbaacbmaaGreat
open Go.RowKit

set_option maxRecDepth 100000 in
set_option maxHeartbeats 4000000 in
theorem rdisk_lasts {w : World} {D : Nat → Prop} {p : Nat} {d : Dsk} {lv cv : Value} {L : List WV} (h : RDiskIn w D p d lv cv L) (i : Nat) (hi : i < d.last.length) (va : Option Addr) (vc : Nat) (s : Sec) (hv : Seg w (.slice va 128 vc) s) :
    Calls Tryz.prog 78 #[.pointer (some ⟨p, 0, none⟩), .agg #[.int .i64 i, .slice va 128 vc]] w fun e w' => e = .returned (.tuple #[]) ∧
      ∃ D' lv', RDiskIn w' D' p ⟨d.last.set i s, d.cache, d.failed⟩ lv' cv L ∧ (∀ q, D' q → D q ∨ w.heap.size ≤ q) ∧ Chg (fun q => q = p) w w' := by
  obtain ⟨g, c, hlv, hg, hcap, hcells⟩ := h.rows
  have c0 : w.cell? ⟨p, 0, none⟩ = some lv := h.dsk.cell 0
  have hfew := h.few
  have HI := Lib.hid h
  have HLV := Lib.hid hlv
  rw [hlv] at c0
  obtain ⟨N, hN⟩ : ∃ N : Nat, N = d.last.length * 128 := ⟨_, rfl⟩
  rw [← hN] at c0 hcap hcells
  have hb1 : 128 * i + 128 ≤ N := by omega
  have hNb : N ≤ 1048576 := by omega
  have hi8 : i < 8192 := by omega
  have hplt := h.dsk.lt
  have HV := Lib.hid hv
  have hA : At (w.alloc (.cells #[.int .i64 i, .slice va 128 vc] 148)) w.heap.size #[.int .i64 i, .slice va 128 vc] 148 := At.new _ _ _
  have b0 : (w.alloc (.cells #[.int .i64 i, .slice va 128 vc] 148)).cell? ⟨w.heap.size, 0, none⟩ = some (.int .i64 i) := hA.cell 0
  have b1 : (w.alloc (.cells #[.int .i64 i, .slice va 128 vc] 148)).cell? ⟨w.heap.size, 1, none⟩ = some (.slice va 128 vc) := hA.cell 1
  have HBL : Hid (Below w.heap.size w (w.alloc (.cells #[.int .i64 i, .slice va 128 vc] 148))) := (Below.refl _ _).alloc (Nat.le_refl _) _
  have a0 : (w.alloc (.cells #[.int .i64 i, .slice va 128 vc] 148)).cell? ⟨p, 0, none⟩ = some (.slice (some ⟨g, 0, none⟩) N c) := (HBL.out.cell (p := ⟨p, 0, none⟩) hplt).trans c0
  have hz0 : (w.alloc (.cells #[.int .i64 i, .slice va 128 vc] 148)).heap.size = w.heap.size + 1 := size_alloc _ _
  have HZ0 := Lib.hid hz0
  have hle : ∀ x ∈ secCells d.last, x.oneCell' = true := secCells_one _
  have hlen : (secCells d.last).length = N := by rw [secCells_length h.len, hN]
  have HP : Hid (secCells (d.last.set i s) = (secCells d.last).take (128 * i) ++ ucells s ++ (secCells d.last).drop (128 * i + 128)) := secCells_put h.len hi s
  generalize hC : secCells d.last = C at *
  have HT1 : Hid ((C.take (128 * i)).length = 128 * i * 1) := by show _ = _; rw [List.length_take]; omega
  have HT2 : Hid ((C.drop (128 * i + 128)).length = (N - (128 * i + 128)) * 1) := by show _ = _; rw [List.length_drop]; omega
  have HO1 : Hid (∀ u ∈ C.take (128 * i), u.oneCell' = true) := fun u hu => hle u (List.mem_of_mem_take hu)
  have HO2 : Hid (∀ u ∈ C.drop (128 * i + 128), u.oneCell' = true) := fun u hu => hle u (List.mem_of_mem_drop hu)
  have HS1 : Hid (∀ W : World, Below w.heap.size w W → ∀ j u, (C.take (128 * i))[j]? = some u → W.cell? ((⟨g, 0, none⟩ : Addr).add j) = some u) := fun W hW j u hu => by
    have hj := (List.getElem?_eq_some_iff.1 hu).1
    rw [List.length_take] at hj
    rw [List.getElem?_take, if_pos (by omega)] at hu
    rw [Addr.add_lit, Nat.zero_add]
    exact (hW.cell (p := ⟨g, j, none⟩) hg).trans ((hcells j (by omega)).trans hu)
  have HS2 : Hid (∀ W : World, Below w.heap.size w W → ∀ j u, (C.drop (128 * i + 128))[j]? = some u → W.cell? ((⟨g, 128 * i + 128, none⟩ : Addr).add j) = some u) := fun W hW j u hu => by
    have hj := (List.getElem?_eq_some_iff.1 hu).1
    rw [List.length_drop] at hj
    rw [List.getElem?_drop] at hu
    rw [Addr.add_lit]
    exact (hW.cell (p := ⟨g, 128 * i + 128 + j, none⟩) hg).trans ((hcells (128 * i + 128 + j) (by omega)).trans hu)
  have HEND : Hid (∀ (w3 : World) (va3 : Option Addr) (vc3 : Nat), Below w.heap.size w w3 → Below (w.heap.size + 1) (w.alloc (.cells #[.int .i64 i, .slice va 128 vc] 148)) w3 →
      w3.ownsRow (w.heap.size + 1) 5 1 (.slice va3 N vc3) N (C.take (128 * i) ++ ucells s ++ C.drop (128 * i + 128)) → At w3 p #[lv, cv, .bool d.failed] 139 →
      ∃ D' lv', RDiskIn (w3.setCell ⟨p, 0, none⟩ (.slice va3 N vc3)) D' p ⟨d.last.set i s, d.cache, d.failed⟩ lv' cv L ∧ (∀ q, D' q → D q ∨ w.heap.size ≤ q) ∧ Chg (fun q => q = p) w (w3.setCell ⟨p, 0, none⟩ (.slice va3 N vc3))) := by
    intro w3 va3 vc3 q1 q2 q3 q4
    rw [← HP.out] at q3
    rw [hN] at q3 ⊢
    have hst : Chg (fun q => q = p) w3 (w3.setCell ⟨p, 0, none⟩ (.slice va3 (d.last.length * 128) vc3)) := Chg.setCell (S := fun q => q = p) (Chg.refl _ _) ⟨p, 0, none⟩ (.inl rfl) _
    have hall : Chg (fun q => q = p) w (w3.setCell ⟨p, 0, none⟩ (.slice va3 (d.last.length * 128) vc3)) := (Chg.ofBelow q1 _).trans hst
    have H := h
    have hk := h.keep (Chg.ofBelow q1 (fun _ => False)) (fun _ _ h => h)
    have hsl := HV.out.cells.1
    have hlen2 : (d.last.set i s).length = d.last.length := List.length_set
    refine ⟨fun q => D q ∨ (w.heap.size ≤ q ∧ q < w3.heap.size), .slice va3 (d.last.length * 128) vc3, ⟨?_, ?_, ?_, H.eq, ?_, .inl H.inP, ?_, fun q hq => .inl (H.inC q hq), fun x hx q hq => .inl (H.inD x hx q hq), ?_, ?_, H.clen, ?_, ?_, ?_⟩, ?_, hall⟩
    · exact q4.set 0 _
    · have q5 := ownsRow_chg q3 hst (fun q hq e => at_ne_row q4 q3 (by decide) (e ▸ hq))
      show World.ownsRow _ 0 _ 1 _ ((d.last.set i s).length * 128) _
      rw [hlen2]
      exact ownsRow_lower0 q5
    · exact ownsRow_chg hk.cache hst (fun q hq e => at_ne_row q4 hk.cache (by decide) (e ▸ hq))
    · intro x hx
      exact ownsRow_chg (hk.data x hx) hst (fun q hq e => at_ne_row q4 (hk.data x hx) (by decide) (e ▸ hq))
    · intro q hq
      have := q3.lt q hq
      exact .inr ⟨by omega, this.2⟩
    · intro q hq
      have := hst.size
      rcases hq with hq | hq
      · exact Nat.lt_of_lt_of_le (hk.lt q hq) this
      · omega
    · intro x hx
      rcases List.mem_or_eq_of_mem_set hx with hx | hx
      · exact H.len x hx
      · rw [hx]; omega
    · intro x hx
      show x.1 < (d.last.set i s).length
      rw [hlen2]
      exact H.cin x hx
    · show (d.last.set i s).length ≤ 8192
      rw [hlen2]
      exact H.few
    · show 0 < (d.last.set i s).length
      rw [hlen2]
      exact H.some'
    · intro q hq
      rcases hq with hq | hq
      · exact .inl hq
      · exact .inr hq.1
  have HNI : Hid ((128 : Int) * (i : Int) = ((128 * i : Nat) : Int)) := by show _ = _; omega
  have hc0 : ¬ c = 0 := by omega
  have hi1 : (0 : Int) ≤ 128 * (i : Int) := by omega
  have hi2 : 128 * (i : Int) ≤ (c : Int) := by omega
  have hi3 : 128 * (i : Int) ≤ (N : Int) := by omega
  have hw1 : RowKit.wrap64 (128 * (i : Int)) = 128 * (i : Int) := IntWalk.wrap64_in _ ⟨by omega, by omega⟩
  have hw2 : IntKind.i64.wrap (128 * (i : Int)) = 128 * (i : Int) := (IntWalk.i64_left _).trans (IntWalk.wrap64_in _ ⟨by omega, by omega⟩)
  have HSA : Hid ((w.alloc (.cells #[.int .i64 i, .slice va 128 vc] 148)).drew.cell? ⟨p, 0, none⟩ = some (.slice (some ⟨g, 0, none⟩) N c) ∧ (w.alloc (.cells #[.int .i64 i, .slice va 128 vc] 148)).drew.cell? ⟨w.heap.size, 0, none⟩ = some (.int .i64 i)) := ⟨a0, b0⟩
  have HWL : Hid (∀ W : World, Below (w.heap.size + 1) (w.alloc (.cells #[.int .i64 i, .slice va 128 vc] 148)) W → Below w.heap.size w W ∧ W.cell? ⟨p, 0, none⟩ = some (.slice (some ⟨g, 0, none⟩) N c) ∧ W.cell? ⟨w.heap.size, 0, none⟩ = some (.int .i64 i) ∧ W.cell? ⟨w.heap.size, 1, none⟩ = some (.slice va 128 vc)) := fun W hW => by
    refine ⟨HBL.out.trans (hW.mono (by omega)), ?_, ?_, ?_⟩
    · exact (hW.cell (p := ⟨p, 0, none⟩) (by show p < _; omega)).trans a0
    · exact (hW.cell (p := ⟨w.heap.size, 0, none⟩) (by show w.heap.size < _; omega)).trans b0
    · exact (hW.cell (p := ⟨w.heap.size, 1, none⟩) (by show w.heap.size < _; omega)).trans b1
  have HDR : Hid (Below w.heap.size w (w.alloc (.cells #[.int .i64 i, .slice va 128 vc] 148)).drew) := HBL.out.drew
  have HEQ : Hid (Below (w.heap.size + 1) (w.alloc (.cells #[.int .i64 i, .slice va 128 vc] 148)) (w.alloc (.cells #[.int .i64 i, .slice va 128 vc] 148)).drew) := (Below.refl _ _).drew
  clear h hlv hA hv hfew c0 hle hlen hcells hz0 hN
  go_enter Tryz.func78, Tryz.ntmps78
  go_wp2
  go_region_held3 (fun w' => w'.cell? ⟨p, 0, none⟩ = some (.slice (some ⟨g, 0, none⟩) N c) ∧ w'.cell? ⟨w.heap.size, 0, none⟩ = some (.int .i64 i))
    (first | with_reducible exact HSA.out | with_reducible exact HSB)
    (first
      | (rw [if_pos (by rfl)]; refine wp_append_many _ _ 53 5 1 1 rfl slice_bytes (w.heap.size + 1) (.slice none 0 0) 0 [] rfl (World.ownsRow_nil _ _ _ _) ⟨g, 0, none⟩ (128 * i) c (C.take (128 * i)) rfl HT1.out (HS1.out _ HDR.out) HO1.out (by unfold maxLen; omega) (by omega) (Nat.le_of_eq HZ0.out.symm) ?_; intro v1 w1 hown1 hb1 hg1 hloc1; rw [Nat.zero_add, List.nil_append] at hown1; have HW1 := Lib.hid (HWL.out w1 (HEQ.out.trans hb1)); have HSB : w1.cell? ⟨p, 0, none⟩ = some (.slice (some ⟨g, 0, none⟩) N c) ∧ w1.cell? ⟨w.heap.size, 0, none⟩ = some (.int .i64 i) := ⟨HW1.out.2.1, HW1.out.2.2.1⟩; have HO3 := Lib.hid hown1; have HB3 := Lib.hid (HEQ.out.trans hb1); clear hown1 hb1 hg1 hloc1))
  have d1 := HW1.out.2.2.2
  have hz1 : w.heap.size + 1 ≤ w1.heap.size := by have := HB3.out.size; have := HZ0.out; omega
  have hj1 : (0 : Int) ≤ 128 * (i : Int) + 128 := by omega
  have hj2 : 128 * (i : Int) + 128 ≤ (N : Int) := by omega
  have hj3 : (N : Int) ≤ (c : Int) := by omega
  have hj4 : 128 * (i : Int) + 128 ≤ (c : Int) := by omega
  have hw3 : RowKit.wrap64 (128 * (i : Int) + 128) = 128 * (i : Int) + 128 := IntWalk.wrap64_in _ ⟨by omega, by omega⟩
  have hw4 : IntKind.i64.wrap (128 * (i : Int) + 128) = 128 * (i : Int) + 128 := (IntWalk.i64_left _).trans (IntWalk.wrap64_in _ ⟨by omega, by omega⟩)
  have HC1 := Lib.hid (HV.out.below HW1.out.1).cells
  go_wp2_with (refine wpList_append_many rfl _ _ 53 5 1 1 rfl slice_bytes (w.heap.size + 1) v1 (128 * i) _ rfl HO3.out va 128 vc (ucells s) rfl (by rw [ucells_length, ← HC1.out.1]) (fun e => by have h1 := HC1.out.1; have h2 := HC1.out.2.1 e; omega) HC1.out.2.2 (ucells_one _) (by unfold maxLen; omega) (by omega) hz1 ?_; intro v2 w2 hown2 hb2 hg2; have HW2 := Lib.hid (HWL.out w2 (HB3.out.trans hb2)); have HO4 := Lib.hid hown2; have HB4 := Lib.hid (HB3.out.trans hb2); have e0 : w2.cell? ⟨p, 0, none⟩ = some (.slice (some ⟨g, 0, none⟩) N c) := HW2.out.2.1; have e1 : w2.cell? ⟨w.heap.size, 0, none⟩ = some (.int .i64 i) := HW2.out.2.2.1; have hz2 := hb2.size; clear hown2 hb2 hg2)
  have HSC : Hid (w2.drew.cell? ⟨w.heap.size, 0, none⟩ = some (.int .i64 i)) := HW2.out.2.2.1
  have e0d : w2.drew.cell? ⟨p, 0, none⟩ = some (.slice (some ⟨g, 0, none⟩) N c) := HW2.out.2.1
  have hz3 : w.heap.size + 1 ≤ w2.drew.heap.size := by show _ ≤ w2.heap.size; omega
  have HB5 : Hid (Below (w.heap.size + 1) (w.alloc (.cells #[.int .i64 i, .slice va 128 vc] 148)) w2.drew) := HB4.out.drew
  have HDP : Hid (At w2.drew p #[lv, cv, .bool d.failed] 139) := HI.out.dsk.below HW2.out.1.drew hplt
  have ht : (128 * (i : Int) + 128).toNat = 128 * i + 128 := by omega
  by_cases hce : c = 128 * i + 128
  · have hN2 : N - (128 * i + 128) = 0 := by omega
    have HSRC : Hid (∀ j u, (C.drop (128 * i + 128))[j]? = some u → w2.drew.cell? ((⟨g, 0, none⟩ : Addr).add j) = some u) := fun j u hu => by
      have h1 := (List.getElem?_eq_some_iff.1 hu).1
      have h2 := HT2.out
      omega
    refine wp_region_held_drew (S := fun w' => w'.cell? ⟨w.heap.size, 0, none⟩ = some (.int .i64 i)) (by kernel_rfl) HSC.out (fun hHeld => ?_)
    refine wpAnyH_take (i := 0) (v := (.pointer (some ⟨p, 0, none⟩))) rfl (by kernel_rfl) (by kernel_rfl) (by kernel_rfl) (fun _ _ _ h => h) (Or.inl ⟨by rfl, fun w hSw => by go_simp⟩) hHeld ?_
    (try simp only [Act.put, List.setIfInBounds_toArray, List.set_cons_zero, List.set_cons_succ, List.getElem_toArray, List.getElem_cons_succ, List.getElem_cons_zero])
    refine wpAnyH_take (i := 1) (v := (v2)) rfl (by kernel_rfl) (by kernel_rfl) (by kernel_rfl) (fun _ _ _ h => h) (Or.inl ⟨by rfl, fun w hSw => by go_simp⟩) hHeld ?_
    (try simp only [Act.put, List.setIfInBounds_toArray, List.set_cons_zero, List.set_cons_succ, List.getElem_toArray, List.getElem_cons_succ, List.getElem_cons_zero])
    refine wpAnyH_take (i := 2) (v := (.pointer (some ⟨p, 0, none⟩))) rfl (by kernel_rfl) (by kernel_rfl) (by kernel_rfl) (fun _ _ _ h => h) (Or.inl ⟨by rfl, fun w hSw => by go_simp⟩) hHeld ?_
    (try simp only [Act.put, List.setIfInBounds_toArray, List.set_cons_zero, List.set_cons_succ, List.getElem_toArray, List.getElem_cons_succ, List.getElem_cons_zero])
    refine wpAnyH_take (i := 3) (v := (.pointer (some ⟨p, 0, none⟩))) rfl (by kernel_rfl) (by kernel_rfl) (by kernel_rfl) (fun _ _ _ h => h) (Or.inl ⟨by rfl, fun w hSw => by go_simp⟩) hHeld ?_
    (try simp only [Act.put, List.setIfInBounds_toArray, List.set_cons_zero, List.set_cons_succ, List.getElem_toArray, List.getElem_cons_succ, List.getElem_cons_zero])
    refine wpAnyH_take (i := 4) (v := (.pointer (some ⟨p, 0, none⟩))) rfl (by kernel_rfl) (by kernel_rfl) (by kernel_rfl) (fun _ _ _ h => h) (Or.inl ⟨by rfl, fun w hSw => by go_simp⟩) hHeld ?_
    (try simp only [Act.put, List.setIfInBounds_toArray, List.set_cons_zero, List.set_cons_succ, List.getElem_toArray, List.getElem_cons_succ, List.getElem_cons_zero])
    refine wpAnyH_take (i := 6) (v := (.pointer (some ⟨w.heap.size, 0, none⟩))) rfl (by kernel_rfl) (by kernel_rfl) (by kernel_rfl) (fun _ _ _ h => h) (Or.inl ⟨by rfl, fun w hSw => by go_simp⟩) hHeld ?_
    (try simp only [Act.put, List.setIfInBounds_toArray, List.set_cons_zero, List.set_cons_succ, List.getElem_toArray, List.getElem_cons_succ, List.getElem_cons_zero])
    refine wpAnyH_take (i := 7) (v := (.int .i64 (i : Int))) rfl (by kernel_rfl) (by kernel_rfl) (by kernel_rfl) (fun _ _ _ h => h) (Or.inl ⟨by rfl, fun w hSw => by go_simp⟩) hHeld ?_
    (try simp only [Act.put, List.setIfInBounds_toArray, List.set_cons_zero, List.set_cons_succ, List.getElem_toArray, List.getElem_cons_succ, List.getElem_cons_zero])
    refine wpAnyH_take (i := 8) (v := (.int .i64 (128 * (i : Int)))) rfl (by kernel_rfl) (by kernel_rfl) (by kernel_rfl) (fun _ _ _ h => h) (Or.inl ⟨by rfl, fun w hSw => by go_simp⟩) hHeld ?_
    (try simp only [Act.put, List.setIfInBounds_toArray, List.set_cons_zero, List.set_cons_succ, List.getElem_toArray, List.getElem_cons_succ, List.getElem_cons_zero])
    refine wpAnyH_take (i := 9) (v := (.int .i64 (128 * (i : Int) + 128))) rfl (by kernel_rfl) (by kernel_rfl) (by kernel_rfl) (fun _ _ _ h => h) (Or.inl ⟨by rfl, fun w hSw => by go_simp⟩) hHeld ?_
    (try simp only [Act.put, List.setIfInBounds_toArray, List.set_cons_zero, List.set_cons_succ, List.getElem_toArray, List.getElem_cons_succ, List.getElem_cons_zero])
    refine wpAnyH_ready (rs := [5]) (by kernel_rfl) (by simp) ?_
    refine AllReadyH.cons (o := { dst := some 24, op := Op.load 53 (Operand.tmp 23), type := 53, pos := "ref.go:86", after := #[{ on := 4, ground := Ground.data }], guard := none }) rfl (fun K hK => ?_) AllReadyH.nil
    go_simp
    refine hK.out _ _ HSC.out (fun hHeld => ?_)
    clear hK K
    (try simp only [Act.put, List.setIfInBounds_toArray, List.set_cons_zero, List.set_cons_succ, List.getElem_toArray, List.getElem_cons_succ, List.getElem_cons_zero])
    refine wpAnyH_take (i := 10) (v := (.slice (some ⟨g, 0, none⟩) (N - (128 * i + 128)) (c - (128 * i + 128)))) rfl (by kernel_rfl) (by kernel_rfl) (by kernel_rfl) (fun _ _ _ h => h) (Or.inl ⟨by rfl, fun w hSw => by go_simp⟩) hHeld ?_
    (try simp only [Act.put, List.setIfInBounds_toArray, List.set_cons_zero, List.set_cons_succ, List.getElem_toArray, List.getElem_cons_succ, List.getElem_cons_zero])
    refine wpAnyH_ready (rs := [11]) (by kernel_rfl) (by simp) ?_
    refine AllReadyH.cons (o := { dst := some 30, op := Op.call { callee := Callee.builtin Builtin.append, args := #[Operand.tmp 20, Operand.tmp 29], argTypes := #[53, 53] }, type := 53, pos := "ref.go:86", after := #[{ on := 1, ground := Ground.data }, { on := 10, ground := Ground.data }], guard := none }) rfl (fun K hK => ?_) AllReadyH.nil
    rw [if_pos (by rfl)]
    refine wp_append_many _ _ 53 5 1 1 rfl slice_bytes (w.heap.size + 1) v2 (128 * i + 128) _ rfl HO4.out ⟨g, 0, none⟩ (N - (128 * i + 128)) (c - (128 * i + 128)) (C.drop (128 * i + 128)) rfl HT2.out HSRC.out HO2.out (by unfold maxLen; omega) (by omega) hz3 ?_
    intro v3 w3 hown3 hb3 hg3 hloc3
    rw [show 128 * i + 128 + (N - (128 * i + 128)) = N by omega] at hown3
    have HB6 := Lib.hid (HB5.out.trans hb3)
    have HW3 := Lib.hid (HWL.out w3 HB6.out)
    have hp3 : At w3 p #[lv, cv, .bool d.failed] 139 := HI.out.dsk.below HW3.out.1 hplt
    have p0 : w3.cell? ⟨p, 0, none⟩ = some (.slice (some ⟨g, 0, none⟩) N c) := HW3.out.2.1
    have p0f := hp3.free 0
    have HP3 := Lib.hid hp3
    have HO5 := Lib.hid hown3
    obtain ⟨va3, vc3, rfl⟩ := ownsRow_shape hown3
    clear hown3 hb3 hg3 hloc3 hp3
    refine hK.out _ _ HW3.out.2.2.1 (fun hHeld => ?_)
    clear hK K
    (try simp only [Act.put, List.setIfInBounds_toArray, List.set_cons_zero, List.set_cons_succ, List.getElem_toArray, List.getElem_cons_succ, List.getElem_cons_zero])
    refine wpAnyH_take (i := 12) (v := (.pointer (some ⟨p, 0, none⟩))) rfl (by kernel_rfl) (by kernel_rfl) (by kernel_rfl) (fun _ _ _ h => h) (Or.inl ⟨by rfl, fun w hSw => by go_simp⟩) hHeld ?_
    (try simp only [Act.put, List.setIfInBounds_toArray, List.set_cons_zero, List.set_cons_succ, List.getElem_toArray, List.getElem_cons_succ, List.getElem_cons_zero])
    refine wpAnyH_take (i := 13) (v := (.pointer (some ⟨p, 0, none⟩))) rfl (by kernel_rfl) (by kernel_rfl) (by kernel_rfl) (fun _ _ _ h => h) (Or.inl ⟨by rfl, fun w hSw => by go_simp⟩) hHeld ?_
    (try simp only [Act.put, List.setIfInBounds_toArray, List.set_cons_zero, List.set_cons_succ, List.getElem_toArray, List.getElem_cons_succ, List.getElem_cons_zero])
    refine wpAnyH_ready (rs := [14]) (by kernel_rfl) (by simp) ?_
    refine AllReadyH.cons (o := { dst := none, op := Op.store 53 (Operand.tmp 32) (Operand.tmp 30), type := 0, pos := "ref.go:86", after := #[{ on := 13, ground := Ground.data }, { on := 11, ground := Ground.data }, { on := 11, ground := Ground.chain }, { on := 0, ground := Ground.phase }, { on := 1, ground := Ground.phase }, { on := 2, ground := Ground.phase }, { on := 3, ground := Ground.phase }, { on := 4, ground := Ground.phase }, { on := 5, ground := Ground.phase }, { on := 6, ground := Ground.phase }, { on := 7, ground := Ground.phase }, { on := 8, ground := Ground.phase }, { on := 9, ground := Ground.phase }, { on := 10, ground := Ground.phase }, { on := 11, ground := Ground.phase }], guard := none }) rfl (fun K hK => ?_) AllReadyH.nil
    have HSE : Hid ((w3.setCell ⟨p, 0, none⟩ (.slice va3 N vc3)).cell? ⟨w.heap.size, 0, none⟩ = some (.int .i64 i)) := (World.cell?_of_block (heap_setCell_other w3 ⟨p, 0, none⟩ w.heap.size _ (by show w.heap.size ≠ p; omega))).trans HW3.out.2.2.1
    go_simp
    refine hK.out _ _ HSE.out (fun hHeld => ?_)
    clear hK K
    (try simp only [Act.put, List.setIfInBounds_toArray, List.set_cons_zero, List.set_cons_succ, List.getElem_toArray, List.getElem_cons_succ, List.getElem_cons_zero])
    refine wpAnyH_done (by kernel_rfl) ?_ _
    clear p0 p0f
    go_wp2
    go_end0
    exact ⟨rfl, HEND.out w3 va3 vc3 HW3.out.1 HB6.out HO5.out HP3.out⟩
  · have HSRC := Lib.hid (HS2.out _ HW2.out.1.drew)
    refine wp_region_held_drew (S := fun w' => w'.cell? ⟨w.heap.size, 0, none⟩ = some (.int .i64 i)) (by kernel_rfl) HSC.out (fun hHeld => ?_)
    refine wpAnyH_take (i := 0) (v := (.pointer (some ⟨p, 0, none⟩))) rfl (by kernel_rfl) (by kernel_rfl) (by kernel_rfl) (fun _ _ _ h => h) (Or.inl ⟨by rfl, fun w hSw => by go_simp⟩) hHeld ?_
    (try simp only [Act.put, List.setIfInBounds_toArray, List.set_cons_zero, List.set_cons_succ, List.getElem_toArray, List.getElem_cons_succ, List.getElem_cons_zero])
    refine wpAnyH_take (i := 1) (v := (v2)) rfl (by kernel_rfl) (by kernel_rfl) (by kernel_rfl) (fun _ _ _ h => h) (Or.inl ⟨by rfl, fun w hSw => by go_simp⟩) hHeld ?_
    (try simp only [Act.put, List.setIfInBounds_toArray, List.set_cons_zero, List.set_cons_succ, List.getElem_toArray, List.getElem_cons_succ, List.getElem_cons_zero])
    refine wpAnyH_take (i := 2) (v := (.pointer (some ⟨p, 0, none⟩))) rfl (by kernel_rfl) (by kernel_rfl) (by kernel_rfl) (fun _ _ _ h => h) (Or.inl ⟨by rfl, fun w hSw => by go_simp⟩) hHeld ?_
    (try simp only [Act.put, List.setIfInBounds_toArray, List.set_cons_zero, List.set_cons_succ, List.getElem_toArray, List.getElem_cons_succ, List.getElem_cons_zero])
    refine wpAnyH_take (i := 3) (v := (.pointer (some ⟨p, 0, none⟩))) rfl (by kernel_rfl) (by kernel_rfl) (by kernel_rfl) (fun _ _ _ h => h) (Or.inl ⟨by rfl, fun w hSw => by go_simp⟩) hHeld ?_
    (try simp only [Act.put, List.setIfInBounds_toArray, List.set_cons_zero, List.set_cons_succ, List.getElem_toArray, List.getElem_cons_succ, List.getElem_cons_zero])
    refine wpAnyH_take (i := 4) (v := (.pointer (some ⟨p, 0, none⟩))) rfl (by kernel_rfl) (by kernel_rfl) (by kernel_rfl) (fun _ _ _ h => h) (Or.inl ⟨by rfl, fun w hSw => by go_simp⟩) hHeld ?_
    (try simp only [Act.put, List.setIfInBounds_toArray, List.set_cons_zero, List.set_cons_succ, List.getElem_toArray, List.getElem_cons_succ, List.getElem_cons_zero])
    refine wpAnyH_take (i := 6) (v := (.pointer (some ⟨w.heap.size, 0, none⟩))) rfl (by kernel_rfl) (by kernel_rfl) (by kernel_rfl) (fun _ _ _ h => h) (Or.inl ⟨by rfl, fun w hSw => by go_simp⟩) hHeld ?_
    (try simp only [Act.put, List.setIfInBounds_toArray, List.set_cons_zero, List.set_cons_succ, List.getElem_toArray, List.getElem_cons_succ, List.getElem_cons_zero])
    refine wpAnyH_take (i := 7) (v := (.int .i64 (i : Int))) rfl (by kernel_rfl) (by kernel_rfl) (by kernel_rfl) (fun _ _ _ h => h) (Or.inl ⟨by rfl, fun w hSw => by go_simp⟩) hHeld ?_
    (try simp only [Act.put, List.setIfInBounds_toArray, List.set_cons_zero, List.set_cons_succ, List.getElem_toArray, List.getElem_cons_succ, List.getElem_cons_zero])
    refine wpAnyH_take (i := 8) (v := (.int .i64 (128 * (i : Int)))) rfl (by kernel_rfl) (by kernel_rfl) (by kernel_rfl) (fun _ _ _ h => h) (Or.inl ⟨by rfl, fun w hSw => by go_simp⟩) hHeld ?_
    (try simp only [Act.put, List.setIfInBounds_toArray, List.set_cons_zero, List.set_cons_succ, List.getElem_toArray, List.getElem_cons_succ, List.getElem_cons_zero])
    refine wpAnyH_take (i := 9) (v := (.int .i64 (128 * (i : Int) + 128))) rfl (by kernel_rfl) (by kernel_rfl) (by kernel_rfl) (fun _ _ _ h => h) (Or.inl ⟨by rfl, fun w hSw => by go_simp⟩) hHeld ?_
    (try simp only [Act.put, List.setIfInBounds_toArray, List.set_cons_zero, List.set_cons_succ, List.getElem_toArray, List.getElem_cons_succ, List.getElem_cons_zero])
    refine wpAnyH_ready (rs := [5]) (by kernel_rfl) (by simp) ?_
    refine AllReadyH.cons (o := { dst := some 24, op := Op.load 53 (Operand.tmp 23), type := 53, pos := "ref.go:86", after := #[{ on := 4, ground := Ground.data }], guard := none }) rfl (fun K hK => ?_) AllReadyH.nil
    go_simp
    refine hK.out _ _ HSC.out (fun hHeld => ?_)
    clear hK K
    (try simp only [Act.put, List.setIfInBounds_toArray, List.set_cons_zero, List.set_cons_succ, List.getElem_toArray, List.getElem_cons_succ, List.getElem_cons_zero])
    refine wpAnyH_take (i := 10) (v := (.slice (some ⟨g, 128 * i + 128, none⟩) (N - (128 * i + 128)) (c - (128 * i + 128)))) rfl (by kernel_rfl) (by kernel_rfl) (by kernel_rfl) (fun _ _ _ h => h) (Or.inl ⟨by rfl, fun w hSw => by go_simp⟩) hHeld ?_
    (try simp only [Act.put, List.setIfInBounds_toArray, List.set_cons_zero, List.set_cons_succ, List.getElem_toArray, List.getElem_cons_succ, List.getElem_cons_zero])
    refine wpAnyH_ready (rs := [11]) (by kernel_rfl) (by simp) ?_
    refine AllReadyH.cons (o := { dst := some 30, op := Op.call { callee := Callee.builtin Builtin.append, args := #[Operand.tmp 20, Operand.tmp 29], argTypes := #[53, 53] }, type := 53, pos := "ref.go:86", after := #[{ on := 1, ground := Ground.data }, { on := 10, ground := Ground.data }], guard := none }) rfl (fun K hK => ?_) AllReadyH.nil
    rw [if_pos (by rfl)]
    refine wp_append_many _ _ 53 5 1 1 rfl slice_bytes (w.heap.size + 1) v2 (128 * i + 128) _ rfl HO4.out ⟨g, 128 * i + 128, none⟩ (N - (128 * i + 128)) (c - (128 * i + 128)) (C.drop (128 * i + 128)) rfl HT2.out HSRC.out HO2.out (by unfold maxLen; omega) (by omega) hz3 ?_
    intro v3 w3 hown3 hb3 hg3 hloc3
    rw [show 128 * i + 128 + (N - (128 * i + 128)) = N by omega] at hown3
    have HB6 := Lib.hid (HB5.out.trans hb3)
    have HW3 := Lib.hid (HWL.out w3 HB6.out)
    have hp3 : At w3 p #[lv, cv, .bool d.failed] 139 := HI.out.dsk.below HW3.out.1 hplt
    have p0 : w3.cell? ⟨p, 0, none⟩ = some (.slice (some ⟨g, 0, none⟩) N c) := HW3.out.2.1
    have p0f := hp3.free 0
    have HP3 := Lib.hid hp3
    have HO5 := Lib.hid hown3
    obtain ⟨va3, vc3, rfl⟩ := ownsRow_shape hown3
    clear hown3 hb3 hg3 hloc3 hp3
    refine hK.out _ _ HW3.out.2.2.1 (fun hHeld => ?_)
    clear hK K
    (try simp only [Act.put, List.setIfInBounds_toArray, List.set_cons_zero, List.set_cons_succ, List.getElem_toArray, List.getElem_cons_succ, List.getElem_cons_zero])
    refine wpAnyH_take (i := 12) (v := (.pointer (some ⟨p, 0, none⟩))) rfl (by kernel_rfl) (by kernel_rfl) (by kernel_rfl) (fun _ _ _ h => h) (Or.inl ⟨by rfl, fun w hSw => by go_simp⟩) hHeld ?_
    (try simp only [Act.put, List.setIfInBounds_toArray, List.set_cons_zero, List.set_cons_succ, List.getElem_toArray, List.getElem_cons_succ, List.getElem_cons_zero])
    refine wpAnyH_take (i := 13) (v := (.pointer (some ⟨p, 0, none⟩))) rfl (by kernel_rfl) (by kernel_rfl) (by kernel_rfl) (fun _ _ _ h => h) (Or.inl ⟨by rfl, fun w hSw => by go_simp⟩) hHeld ?_
    (try simp only [Act.put, List.setIfInBounds_toArray, List.set_cons_zero, List.set_cons_succ, List.getElem_toArray, List.getElem_cons_succ, List.getElem_cons_zero])
    refine wpAnyH_ready (rs := [14]) (by kernel_rfl) (by simp) ?_
    refine AllReadyH.cons (o := { dst := none, op := Op.store 53 (Operand.tmp 32) (Operand.tmp 30), type := 0, pos := "ref.go:86", after := #[{ on := 13, ground := Ground.data }, { on := 11, ground := Ground.data }, { on := 11, ground := Ground.chain }, { on := 0, ground := Ground.phase }, { on := 1, ground := Ground.phase }, { on := 2, ground := Ground.phase }, { on := 3, ground := Ground.phase }, { on := 4, ground := Ground.phase }, { on := 5, ground := Ground.phase }, { on := 6, ground := Ground.phase }, { on := 7, ground := Ground.phase }, { on := 8, ground := Ground.phase }, { on := 9, ground := Ground.phase }, { on := 10, ground := Ground.phase }, { on := 11, ground := Ground.phase }], guard := none }) rfl (fun K hK => ?_) AllReadyH.nil
    have HSE : Hid ((w3.setCell ⟨p, 0, none⟩ (.slice va3 N vc3)).cell? ⟨w.heap.size, 0, none⟩ = some (.int .i64 i)) := (World.cell?_of_block (heap_setCell_other w3 ⟨p, 0, none⟩ w.heap.size _ (by show w.heap.size ≠ p; omega))).trans HW3.out.2.2.1
    go_simp
    refine hK.out _ _ HSE.out (fun hHeld => ?_)
    clear hK K
    (try simp only [Act.put, List.setIfInBounds_toArray, List.set_cons_zero, List.set_cons_succ, List.getElem_toArray, List.getElem_cons_succ, List.getElem_cons_zero])
    refine wpAnyH_done (by kernel_rfl) ?_ _
    clear p0 p0f
    go_wp2
    go_end0
    exact ⟨rfl, HEND.out w3 va3 vc3 HW3.out.1 HB6.out HO5.out HP3.out⟩

end Go.Proofs.YtleicmmbaacbmaaGreat
