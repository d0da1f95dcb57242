/- Several texts in one: LawI, GeoO, GeoP. -/
import Derived.Test.YtleicmmbaacbmaaGreatLawE
import Derived.Test.YtleicmmbaacbmaaGreatMrg1
import Derived.Deep.Slices
import Derived.ChangeArms
/- The scrub laws' 'much', of what is no geometry. -/
set_option linter.unusedVariables false
namespace Go.Proofs.YtleicmmbaacbmaaGreat
open Go.RowKit

set_option maxRecDepth 100000 in
set_option maxHeartbeats 4000000 in
theorem law_much_bad (m c s : Int) (v : Value) (l : List (Int × Int × List UInt8)) (w : World) (hv : Acts w v l) (hg0 : geoIs m c s = false) :
    Calls Tryz.prog 4 #[geo m c s, v] w fun e w' => ∃ r : Bool, e = .returned (.bool r) ∧ Below w.heap.size w w' := by
  have hk := Lib.hid (fun W => ref_check m c s W)
  have hr := Lib.hid (fun W => ref_rows m c s W)
  have hb0 : Below w.heap.size w (w.alloc (.cells #[.int .i64 m, .int .i64 c, .int .i64 s] 23)) := (Below.refl _ _).alloc (Nat.le_refl _) _
  have ha0 : At (w.alloc (.cells #[.int .i64 m, .int .i64 c, .int .i64 s] 23)) w.heap.size #[.int .i64 m, .int .i64 c, .int .i64 s] 23 := At.new _ _ _
  have hv0 := hv.below hb0
  obtain ⟨va, vc, rfl⟩ := hv.shape
  have hlen : l.length ≤ 9223372036854775807 := by obtain ⟨_, _, _, h, _⟩ := hv; exact h
  have HV := Lib.hid hv0
  have HA0 := Lib.hid ha0
  have HHH : Hid (∀ X, At X w.heap.size #[.int .i64 m, .int .i64 c, .int .i64 s] 23 → X.cell? ⟨w.heap.size, 0, none⟩ = some (.int .i64 m) ∧ X.cell? ⟨w.heap.size, 1, none⟩ = some (.int .i64 c) ∧ X.cell? ⟨w.heap.size, 2, none⟩ = some (.int .i64 s)) := fun X h => ⟨h.cell 0, h.cell 1, h.cell 2⟩
  clear hv hv0 ha0
  unfold geoRows geoCode geo at *
  go_enter Tryz.func4, Tryz.ntmps4
  go_wp2
  go_loopw [5, 6] (fun n i wr => ∃ (k N : Nat), k ≤ l.length ∧ i = .int .i64 k ∧ n = .int .i64 N ∧ l.length ≤ N ∧ N ≤ 9223372036854775807 ∧ (l = [] → N = 0) ∧ Below w.heap.size w wr ∧ wr = w.alloc (.cells #[.int .i64 m, .int .i64 c, .int .i64 s] 23)) (fun _ i _ => l.length - (intOf i).toNat)
  case atStart => exact ⟨0, l.length, by omega, rfl, rfl, Nat.le_refl _, hlen, fun h => by rw [h]; rfl, hb0, rfl⟩
  case round =>
    obtain ⟨k, N, hk', rfl, rfl, hN, hN2, hnil, hbel, rfl⟩ := hrel
    have HN := Lib.hid hnil
    have HHN := Lib.hid hN
    clear hnil
    by_cases hgo : k < l.length ∧ N ≤ 20000
    · obtain ⟨hkl, hN3⟩ := hgo
      have K1 : Hid (k + 1 ≤ l.length) := hkl
      obtain ⟨b, off, rfl, hlt, hx⟩ := HV.out.full (by omega)
      obtain ⟨u, x1, x2, x3, x4, x5⟩ := hx k hkl
      obtain ⟨ua, uc, rfl⟩ := x4.shape
      generalize (l[k]).2.2.length = B at *
      clear x1 x2 x4 hx
      have hdv : ((B / 64 : Nat) : Int) = (B : Int) / 64 := by omega
      as_aux_lemma =>
        go_wp2
        refine ⟨⟨k + 1, N + B / 64, K1.out, by go_num, ?_, by omega, by omega, fun h => ?_, hbel, trivial⟩, by simp [intOf]; omega⟩
        · rw [Int.natCast_add, hdv]
        · subst h; simp at hkl
    · by_cases hbig : 20000 < N
      · have hnn : ¬ l = [] := fun h => by have := HN.out h; omega
        have hbd : decide ((20000 : Int) < (N : Int)) = true := decide_eq_true (by omega)
        have hbd2 : decide ((N : Int) ≤ 20000) = false := decide_eq_false (by omega)
        clear hgo
        by_cases hkl : k < l.length
        · as_aux_lemma =>
            go_wp2
            go_quiet (fail)
            go_wp2
            go_ret
            exact ⟨true, rfl, below_drewN hbel _⟩
        · have hkl' : (l.length : Int) ≤ (k : Int) := by omega
          as_aux_lemma =>
            go_wp2
            go_quiet (fail)
            go_wp2
            go_ret
            exact ⟨true, rfl, below_drewN hbel _⟩
      · obtain rfl : k = l.length := by omega
        clear hgo
        have hN3 : l.length ≤ 20000 := by have := HHN.out; omega
        have HN3 := Lib.hid hN3
        have hbd : decide ((20000 : Int) < (N : Int)) = false := decide_eq_false (by omega)
        have hg := hg0
        rw [hg] at hk
        simp only [if_false, Bool.false_eq_true] at *
        obtain ⟨z, hz, hk⟩ : ∃ z : Int, (z == 0) = false ∧ Hid (∀ W, Calls Tryz.prog 17 #[.agg #[.int .i64 m, .int .i64 c, .int .i64 s]] W fun e w' => e = .returned (.int .i64 z) ∧ Below W.heap.size W w') := ⟨60, rfl, hk⟩
        as_aux_lemma =>
          go_wp2
          refine wp_region_held_drew (S := fun w' => w'.cell? ⟨w.heap.size, 0, none⟩ = some (.int .i64 m) ∧ w'.cell? ⟨w.heap.size, 1, none⟩ = some (.int .i64 c) ∧ w'.cell? ⟨w.heap.size, 2, none⟩ = some (.int .i64 s)) (by kernel_rfl) (HHH.out _ HA0.out.drew) (fun hHeld => ?_)
          refine wpAnyH_take (i := 0) (v := .int .i64 (N : Int)) rfl (by kernel_rfl) (by kernel_rfl) (by kernel_rfl) (fun _ _ _ h => h) (Or.inl ⟨by rfl, fun w hSw => by go_simp⟩) hHeld ?_
          (try simp only [Act.put, List.setIfInBounds_toArray, List.set_cons_zero, List.set_cons_succ, List.getElem_toArray, List.getElem_cons_succ, List.getElem_cons_zero])
          refine wpAnyH_take (i := 1) (v := .bool false) rfl (by kernel_rfl) (by kernel_rfl) (by kernel_rfl) (fun _ _ _ h => h) (Or.inl ⟨by rfl, fun w hSw => by go_simp⟩) hHeld ?_
          (try simp only [Act.put, List.setIfInBounds_toArray, List.set_cons_zero, List.set_cons_succ, List.getElem_toArray, List.getElem_cons_succ, List.getElem_cons_zero])
          refine wpAnyH_take (i := 2) (v := .bool false) rfl (by kernel_rfl) (by kernel_rfl) (by kernel_rfl) (fun _ _ _ h => h) (Or.inl ⟨by rfl, fun w hSw => by go_simp⟩) hHeld ?_
          (try simp only [Act.put, List.setIfInBounds_toArray, List.set_cons_zero, List.set_cons_succ, List.getElem_toArray, List.getElem_cons_succ, List.getElem_cons_zero])
          refine wpAnyH_take (i := 3) (v := .agg #[.int .i64 m, .int .i64 c, .int .i64 s]) rfl (by kernel_rfl) (by kernel_rfl) (by kernel_rfl) (fun _ _ _ h => h) (Or.inl ⟨by rfl, fun w hSw => by go_simp⟩) hHeld ?_
          (try simp only [Act.put, List.setIfInBounds_toArray, List.set_cons_zero, List.set_cons_succ, List.getElem_toArray, List.getElem_cons_succ, List.getElem_cons_zero])
          refine wpAnyH_ready (rs := [4]) (by kernel_rfl) (by simp) ?_
          refine AllReadyH.cons (o := { dst := some 32, op := Op.call { callee := Callee.value (Operand.func 17), args := #[Operand.tmp 31], argTypes := #[23] }, type := 3, pos := "law.go:28", after := #[{ on := 3, ground := Ground.data }, { on := 2, ground := Ground.chain }, { on := 2, ground := Ground.guard }], guard := some (2, false) }) rfl (fun K hK => ?_) AllReadyH.nil
          go_simp
          go_at_call 17
          (with_reducible refine (hk.out _).mono ?_)
          rintro e w1 ⟨rfl, hb1⟩
          have HB := Lib.hid (HA0.out.drew.below hb1 HA0.out.lt)
          have HBW := Lib.hid hb1
          clear hb1
          refine hK.out _ _ (HHH.out _ HB.out) (fun hHeld => ?_)
          clear hK K
          (try simp only [Act.put, List.setIfInBounds_toArray, List.set_cons_zero, List.set_cons_succ, List.getElem_toArray, List.getElem_cons_succ, List.getElem_cons_zero])
          refine wpAnyH_take (i := 5) (v := .bool false) rfl (by kernel_rfl) (by kernel_rfl) (by kernel_rfl) (fun _ _ _ h => h) (Or.inl ⟨by rfl, fun w hSw => by go_simp⟩) hHeld ?_
          (try simp only [Act.put, List.setIfInBounds_toArray, List.set_cons_zero, List.set_cons_succ, List.getElem_toArray, List.getElem_cons_succ, List.getElem_cons_zero])
          refine wpAnyH_take (i := 6) (v := .bool false) rfl (by kernel_rfl) (by kernel_rfl) (by kernel_rfl) (fun _ _ _ h => h) (Or.inl ⟨by rfl, fun w hSw => by go_simp⟩) hHeld ?_
          (try simp only [Act.put, List.setIfInBounds_toArray, List.set_cons_zero, List.set_cons_succ, List.getElem_toArray, List.getElem_cons_succ, List.getElem_cons_zero])
          refine wpAnyH_take (i := 7) (v := undef) rfl (by kernel_rfl) (by kernel_rfl) (by kernel_rfl) (fun _ _ _ h => h) (Or.inr ⟨by rfl, rfl⟩) hHeld ?_
          (try simp only [Act.put, List.setIfInBounds_toArray, List.set_cons_zero, List.set_cons_succ, List.getElem_toArray, List.getElem_cons_succ, List.getElem_cons_zero])
          refine wpAnyH_take (i := 8) (v := undef) rfl (by kernel_rfl) (by kernel_rfl) (by kernel_rfl) (fun _ _ _ h => h) (Or.inr ⟨by rfl, rfl⟩) hHeld ?_
          (try simp only [Act.put, List.setIfInBounds_toArray, List.set_cons_zero, List.set_cons_succ, List.getElem_toArray, List.getElem_cons_succ, List.getElem_cons_zero])
          refine wpAnyH_take (i := 9) (v := undef) rfl (by kernel_rfl) (by kernel_rfl) (by kernel_rfl) (fun _ _ _ h => h) (Or.inr ⟨by rfl, rfl⟩) hHeld ?_
          (try simp only [Act.put, List.setIfInBounds_toArray, List.set_cons_zero, List.set_cons_succ, List.getElem_toArray, List.getElem_cons_succ, List.getElem_cons_zero])
          refine wpAnyH_take (i := 10) (v := undef) rfl (by kernel_rfl) (by kernel_rfl) (by kernel_rfl) (fun _ _ _ h => h) (Or.inr ⟨by rfl, rfl⟩) hHeld ?_
          (try simp only [Act.put, List.setIfInBounds_toArray, List.set_cons_zero, List.set_cons_succ, List.getElem_toArray, List.getElem_cons_succ, List.getElem_cons_zero])
          refine wpAnyH_take (i := 11) (v := undef) rfl (by kernel_rfl) (by kernel_rfl) (by kernel_rfl) (fun _ _ _ h => h) (Or.inr ⟨by rfl, rfl⟩) hHeld ?_
          (try simp only [Act.put, List.setIfInBounds_toArray, List.set_cons_zero, List.set_cons_succ, List.getElem_toArray, List.getElem_cons_succ, List.getElem_cons_zero])
          refine wpAnyH_take (i := 12) (v := undef) rfl (by kernel_rfl) (by kernel_rfl) (by kernel_rfl) (fun _ _ _ h => h) (Or.inr ⟨by rfl, rfl⟩) hHeld ?_
          (try simp only [Act.put, List.setIfInBounds_toArray, List.set_cons_zero, List.set_cons_succ, List.getElem_toArray, List.getElem_cons_succ, List.getElem_cons_zero])
          refine wpAnyH_take (i := 13) (v := undef) rfl (by kernel_rfl) (by kernel_rfl) (by kernel_rfl) (fun _ _ _ h => h) (Or.inr ⟨by rfl, rfl⟩) hHeld ?_
          (try simp only [Act.put, List.setIfInBounds_toArray, List.set_cons_zero, List.set_cons_succ, List.getElem_toArray, List.getElem_cons_succ, List.getElem_cons_zero])
          refine wpAnyH_take (i := 14) (v := undef) rfl (by kernel_rfl) (by kernel_rfl) (by kernel_rfl) (fun _ _ _ h => h) (Or.inr ⟨by rfl, rfl⟩) hHeld ?_
          (try simp only [Act.put, List.setIfInBounds_toArray, List.set_cons_zero, List.set_cons_succ, List.getElem_toArray, List.getElem_cons_succ, List.getElem_cons_zero])
          refine wpAnyH_take (i := 15) (v := undef) rfl (by kernel_rfl) (by kernel_rfl) (by kernel_rfl) (fun _ _ _ h => h) (Or.inr ⟨by rfl, rfl⟩) hHeld ?_
          (try simp only [Act.put, List.setIfInBounds_toArray, List.set_cons_zero, List.set_cons_succ, List.getElem_toArray, List.getElem_cons_succ, List.getElem_cons_zero])
          refine wpAnyH_take (i := 16) (v := undef) rfl (by kernel_rfl) (by kernel_rfl) (by kernel_rfl) (fun _ _ _ h => h) (Or.inr ⟨by rfl, rfl⟩) hHeld ?_
          (try simp only [Act.put, List.setIfInBounds_toArray, List.set_cons_zero, List.set_cons_succ, List.getElem_toArray, List.getElem_cons_succ, List.getElem_cons_zero])
          refine wpAnyH_take (i := 17) (v := .bool false) rfl (by kernel_rfl) (by kernel_rfl) (by kernel_rfl) (fun _ _ _ h => h) (Or.inl ⟨by rfl, fun w hSw => by go_simp⟩) hHeld ?_
          (try simp only [Act.put, List.setIfInBounds_toArray, List.set_cons_zero, List.set_cons_succ, List.getElem_toArray, List.getElem_cons_succ, List.getElem_cons_zero])
          refine wpAnyH_take (i := 18) (v := .bool false) rfl (by kernel_rfl) (by kernel_rfl) (by kernel_rfl) (fun _ _ _ h => h) (Or.inl ⟨by rfl, fun w hSw => by go_simp⟩) hHeld ?_
          (try simp only [Act.put, List.setIfInBounds_toArray, List.set_cons_zero, List.set_cons_succ, List.getElem_toArray, List.getElem_cons_succ, List.getElem_cons_zero])
          refine wpAnyH_take (i := 19) (v := .bool false) rfl (by kernel_rfl) (by kernel_rfl) (by kernel_rfl) (fun _ _ _ h => h) (Or.inl ⟨by rfl, fun w hSw => by go_simp⟩) hHeld ?_
          (try simp only [Act.put, List.setIfInBounds_toArray, List.set_cons_zero, List.set_cons_succ, List.getElem_toArray, List.getElem_cons_succ, List.getElem_cons_zero])
          refine wpAnyH_done (by kernel_rfl) ?_ _
          go_wp2
          go_ret
          exact ⟨false, rfl, below_then hbel.drew HBW.out⟩

end Go.Proofs.YtleicmmbaacbmaaGreat

/- A geometry, as an argument brings it; a script. -/
set_option linter.unusedVariables false
namespace Go
open Go.RowKit Go.ChangeShapes Go.WideShapes Go.ChangeAt

theorem agg3_of_trod {H : Type} {enc : TypeId × Value → H} {P : Program} {W : World} {T base : Nat} {v : Value} {d : DataW H} {ps : List MemPlace} {f0 f1 f2 : Field}
    (hT : P.underlying T = some (.struct #[f0, f1, f2])) (ce : P.cellsOf T = 3) (o0 : f0.offset = 0) (o1 : f1.offset = 1) (o2 : f2.offset = 2) (c0 : P.cellsOf f0.type = 1) (c1 : P.cellsOf f1.type = 1) (c2 : P.cellsOf f2.type = 1)
    (t0 : P.underlying f0.type = some (.int .i64)) (t1 : P.underlying f1.type = some (.int .i64)) (t2 : P.underlying f2.type = some (.int .i64))
    (hv : Value.okWide P W .any base T v) (h : DataW.Trod enc P W 0 (fun _ => true) true T v d ps) : ∃ a b c : Int, v = .agg #[.int .i64 a, .int .i64 b, .int .i64 c] := by
  obtain ⟨cs, rfl, hs⟩ := okWide_struct hT hv
  obtain ⟨fuel, hf⟩ := h
  obtain ⟨xs, n, -, -, hlen, hxl, hall⟩ := DataW.trod_struct hT hf
  have hx : xs.length = 3 := hxl
  rw [ce] at hs
  have h0 := hall 0 f0 rfl
  have h1 := hall 1 f1 rfl
  have h2 := hall 2 f2 rfl
  rw [o0, c0, List.getElem?_eq_getElem (by omega)] at h0
  rw [o1, c1, List.getElem?_eq_getElem (by omega)] at h1
  rw [o2, c2, List.getElem?_eq_getElem (by omega)] at h2
  obtain ⟨a, e0, -⟩ := DataW.trod_int t0 h0
  obtain ⟨b, e1, -⟩ := DataW.trod_int t1 h1
  obtain ⟨c, e2, -⟩ := DataW.trod_int t2 h2
  refine ⟨a, b, c, ?_⟩
  obtain ⟨l⟩ := cs
  match l, hs with
  | [x, y, z], _ =>
    simp [Value.cells] at e0 e1 e2
    rw [e0, e1, e2]

end Go
namespace Go.Proofs.YtleicmmbaacbmaaGreat
open Go.RowKit

set_option maxRecDepth 100000 in
theorem geo_of_trod {H : Type} {enc : TypeId × Value → H} {W : World} {base : Nat} {v : Value} {d : DataW H} {ps : List MemPlace}
    (hv : Value.okWide Tryz.prog W .any base 23 v) (h : DataW.Trod enc Tryz.prog W 0 (fun _ => true) true 23 v d ps) : ∃ m c s : Int, v = geo m c s :=
  agg3_of_trod Tryz.underlying23 (by kernel_rfl) rfl rfl rfl (by kernel_rfl) (by kernel_rfl) (by kernel_rfl) Tryz.underlying3 Tryz.underlying3 Tryz.underlying3 hv h

end Go.Proofs.YtleicmmbaacbmaaGreat

/- A script, as an argument brings it. -/
set_option linter.unusedVariables false
namespace Go
open Go.RowKit Go.ChangeShapes Go.WideShapes Go.ChangeAt

theorem seg_of_cell {H : Type} {enc : TypeId × Value → H} {P : Program} {W : World} {T E fuel : Nat} {v : Value} {x : DataW H × List MemPlace}
    (hT : P.underlying T = some (.slice E)) (hE : P.underlying E = some (.int .u8)) (hc : P.cellsOf E = 1)
    (hf : DataW.trod enc P W 0 (fun _ => true) true fuel T [v] = some x) : ∃ l, Seg W v l ∧ l.length ≤ 9223372036854775807 := by
  rcases open_ints hT hE hc hf with ⟨hcs, _⟩ | ⟨x, len, cap, zs, hcs, _, hl, hm, hz, _, hcell, hwz⟩
  · simp only [List.cons.injEq, and_true] at hcs
    subst hcs
    exact ⟨[], Seg.nil _, by simp⟩
  · simp only [List.cons.injEq, and_true] at hcs
    subst hcs
    simp at hz
    have hlen : ((zs.take len).map fun z => UInt8.ofNat z.toNat).length = len := by simp; omega
    refine ⟨(zs.take len).map fun z => UInt8.ofNat z.toNat, ⟨some x, cap, by rw [hlen], ⟨fun h => by simp at h, by rw [hlen]; exact hl⟩, ?_⟩, by rw [hlen]; unfold maxLen at hm; omega⟩
    rcases Nat.eq_zero_or_pos len with h0 | h0
    · left
      apply List.eq_nil_of_length_eq_zero
      omega
    · right
      obtain ⟨b, off, rfl, hat⟩ := ints_at hcell (by omega)
      have hlt : b < W.heap.size := block_lt_of_cell (hat 0 (by omega))
      refine ⟨b, off, rfl, hlt, fun j hj => ?_⟩
      rw [hlen] at hj
      rw [hat j (by omega)]
      have := bytes_of_ints zs hwz j (by omega)
      rw [List.getElem_map, List.getElem_take]
      rw [List.getD_eq_getElem?_getD, List.getElem?_eq_getElem (by omega)] at this
      rw [List.getD_eq_getElem?_getD, List.getElem?_eq_getElem (by omega)]
      simp only [Option.getD_some] at this ⊢
      rw [this]

end Go
namespace Go.Proofs.YtleicmmbaacbmaaGreat
open Go.RowKit Go.ChangeShapes Go.WideShapes Go.Deep

theorem acts_of_trod' {H : Type} {enc : TypeId × Value → H} {P : Program} {W : World} {T E EB base : Nat} {v : Value} {d : DataW H} {ps : List MemPlace} {f0 f1 f2 f3 : Field}
    (hT : P.underlying T = some (.slice E)) (hE : P.underlying E = some (.struct #[f0, f1, f2, f3])) (ce : P.cellsOf E = 4) (o1 : f1.offset = 1) (o2 : f2.offset = 2) (o3 : f3.offset = 3) (c1 : P.cellsOf f1.type = 1) (c2 : P.cellsOf f2.type = 1) (c3 : P.cellsOf f3.type = 1)
    (t1 : P.underlying f1.type = some (.int .i64)) (t2 : P.underlying f2.type = some (.int .i64)) (t3 : P.underlying f3.type = some (.slice EB)) (tb : P.underlying EB = some (.int .u8)) (cb : P.cellsOf EB = 1)
    (hv : Value.okWide P W .any base T v) (h : DataW.Trod enc P W 0 (fun _ => true) true T v d ps) : ∃ l, Acts W v l := by
  obtain ⟨a, len, cap, rfl⟩ := Go.WideShapes.okWide_slice hT hv
  obtain ⟨fuel, hf⟩ := h
  rcases Go.Deep.open_slice hT hf with ⟨hcs, _⟩ | ⟨x, l, c, m, n, D, Pl, hcs, _, hl, hm, hmm, hd, hx⟩
  · simp [Value.cells] at hcs
    obtain ⟨rfl, rfl, rfl⟩ := hcs
    exact ⟨[], Acts.nil W⟩
  · simp [Value.cells] at hcs
    obtain ⟨rfl, rfl, rfl⟩ := hcs
    simp only [if_true] at hmm
    subst hmm
    rw [ce] at hx
    have each : ∀ i, i < len → ∃ z : Int × Int × List UInt8, ∃ u y, W.cell? (x.add (i * 4)) = some y ∧ W.cell? (x.add (i * 4 + 1)) = some (.int .i64 z.1) ∧ W.cell? (x.add (i * 4 + 2)) = some (.int .i64 z.2.1) ∧ W.cell? (x.add (i * 4 + 3)) = some u ∧ Seg W u z.2.2 ∧ z.2.2.length ≤ 9223372036854775807 := by
      intro i hi
      obtain ⟨cs', h1, h2⟩ := hx i (by omega)
      obtain ⟨_, hlen, hcell⟩ := World.cells?_some h1
      obtain ⟨xs, k, hk, hxy, _, hxl, hfld⟩ := DataW.trod_struct hE h2
      match xs, hxl, cs', hlen with
      | [y0, y1, y2, y3], _, [v0, v1, v2, v3], _ =>
        have g1 := hfld 1 f1 rfl
        have g2 := hfld 2 f2 rfl
        have g3 := hfld 3 f3 rfl
        simp [o1, o2, o3, c1, c2, c3] at g1 g2 g3
        have e0 := hcell 0 (by omega)
        have e1 := hcell 1 (by omega)
        have e2 := hcell 2 (by omega)
        have e3 := hcell 3 (by omega)
        rw [add_add] at e0 e1 e2 e3
        obtain ⟨z1, q1, _⟩ := DataW.trod_int t1 g1
        obtain ⟨z2, q2, _⟩ := DataW.trod_int t2 g2
        obtain ⟨lb, q3, q4⟩ := seg_of_cell t3 tb cb g3
        simp at q1 q2
        subst q1
        subst q2
        exact ⟨(z1, z2, lb), v3, v0, by simpa using e0, by simpa using e1, by simpa using e2, by simpa using e3, q3, q4⟩
    obtain ⟨F, hF⟩ := choose_lt (α := Int × Int × List UInt8) each
    have hlen : ((List.range len).map F).length = len := by simp
    refine ⟨(List.range len).map F, some x, m, by rw [hlen], by rw [hlen]; unfold maxLen at hm; omega, ?_⟩
    rcases Nat.eq_zero_or_pos len with h0 | h0
    · left; rw [h0]; rfl
    · right
      obtain ⟨b, off, spot⟩ := x
      have hspot : spot = none := by
        obtain ⟨u, y, h0', _⟩ := hF 0 (by omega)
        simpa [Addr.add] using World.cell?_spot h0'
      subst hspot
      refine ⟨b, off, rfl, ?_, fun j hj => ?_⟩
      · obtain ⟨u, y, h1, _⟩ := hF 0 (by omega)
        rw [Go.WideShapes.add_plain] at h1
        exact block_lt_of_cell h1
      · rw [hlen] at hj
        obtain ⟨u, y, -, h1, h2, h3, h4, h5⟩ := hF j hj
        rw [Go.WideShapes.add_plain] at h1 h2 h3
        rw [List.getElem_map, List.getElem_range]
        exact ⟨u, by rw [show off + j * 4 + 1 = off + (j * 4 + 1) by omega]; exact h1, by rw [show off + j * 4 + 2 = off + (j * 4 + 2) by omega]; exact h2, by rw [show off + j * 4 + 3 = off + (j * 4 + 3) by omega]; exact h3, h4, h5⟩

set_option maxRecDepth 100000 in
theorem acts_of_trod {H : Type} {enc : TypeId × Value → H} {W : World} {base : Nat} {v : Value} {d : DataW H} {ps : List MemPlace}
    (hv : Value.okWide Tryz.prog W .any base 24 v) (h : DataW.Trod enc Tryz.prog W 0 (fun _ => true) true 24 v d ps) : ∃ l, Acts W v l :=
  acts_of_trod' Tryz.underlying24 Tryz.underlying55 (by kernel_rfl) rfl rfl rfl (by kernel_rfl) (by kernel_rfl) (by kernel_rfl) Tryz.underlying3 Tryz.underlying3 Tryz.underlying53 Tryz.underlying5 (by kernel_rfl) hv h

end Go.Proofs.YtleicmmbaacbmaaGreat
