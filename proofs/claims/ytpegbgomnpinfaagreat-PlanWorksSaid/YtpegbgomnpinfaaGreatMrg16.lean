/- Several texts in one: PlwO, PlwPa, PlzD. -/
import Derived.Test.YtpegbgomnpinfaaGreatMrg8
import Derived.Test.YtpegbgomnpinfaaGreatMrg1
import Derived.Deep.Slices
import Derived.ChangeArms
import Derived.Test.YtpegbgomnpinfaaGreatPlwG
import Derived.Test.YtpegbgomnpinfaaGreatPlwF
/- Batches and patches, as an argument brings them. -/
set_option linter.unusedVariables false
namespace Go.Proofs.YtpegbgomnpinfaaGreat
open Go.RowKit Go.ChangeShapes Go.WideShapes Go.ChangeAt Go.Deep

theorem seg_of_cell_w {H : Type} {enc : TypeId × Value → H} {P : Program} {W : World} {T E fuel : Nat} {v : Value} {x : DataW H × List MemPlace}
    (hT : P.underlying T = some (.slice E)) (hE : P.underlying E = some (.int .u8)) (hc : P.cellsOf E = 1) (hb : P.bytesOf E = 1)
    (hf : DataW.trod enc P W 0 (fun _ => true) true fuel T [v] = some x) (hw : ∀ n ∈ x.1.weights P T, n ≤ reachBytes) : ∃ l, Seg W v l ∧ l.length ≤ 140737488351232 := by
  rcases open_ints hT hE hc hf with ⟨hcs, _⟩ | ⟨x', len, cap, zs, hcs, _, hl, hm, hz, hy, hcell, hwz⟩
  · simp only [List.cons.injEq, and_true] at hcs
    subst hcs
    exact ⟨[], Seg.nil _, by simp⟩
  · simp only [List.cons.injEq, and_true] at hcs
    subst hcs
    simp at hz
    have hlen : ((zs.take len).map fun z => UInt8.ofNat z.toNat).length = len := by simp; omega
    refine ⟨(zs.take len).map fun z => UInt8.ofNat z.toNat, ⟨some x', cap, by rw [hlen], ⟨fun h => by simp at h, by rw [hlen]; exact hl⟩, ?_⟩, ?_⟩
    · rcases Nat.eq_zero_or_pos len with h0 | h0
      · left
        apply List.eq_nil_of_length_eq_zero
        omega
      · right
        obtain ⟨b, off, rfl, hat⟩ := ints_at hcell (by omega)
        have hlt : b < W.heap.size := block_lt_of_cell (hat 0 (by omega))
        refine ⟨b, off, rfl, hlt, fun j hj => ?_⟩
        rw [hlen] at hj
        rw [hat j (by omega)]
        have := bytes_of_ints zs hwz j (by omega)
        rw [List.getElem_map, List.getElem_take]
        rw [List.getD_eq_getElem?_getD, List.getElem?_eq_getElem (by omega)] at this
        rw [List.getD_eq_getElem?_getD, List.getElem?_eq_getElem (by omega)]
        simp only [Option.getD_some] at this ⊢
        rw [this]
    · rw [hlen]
      have hmem : ((lits .u8 (zs.take len) : List (DataW H)).length + (lits .u8 (zs.drop len) : List (DataW H)).length) * P.bytesOf E ≤ reachBytes := by
        apply hw
        rw [hy]
        simp only [DataW.weights, hT]
        exact List.mem_cons_self
      rw [hb] at hmem
      simp only [lits, List.length_map, List.length_take, List.length_drop, reachBytes] at hmem
      omega

theorem puts_of_trod' {H : Type} {enc : TypeId × Value → H} {P : Program} {W : World} {T E EB base : Nat} {v : Value} {d : DataW H} {ps : List MemPlace} {f0 f1 : Field}
    (hT : P.underlying T = some (.slice E)) (hE : P.underlying E = some (.struct #[f0, f1])) (ce : P.cellsOf E = 2) (be : 0 < P.bytesOf E) (o0 : f0.offset = 0) (o1 : f1.offset = 1) (c0 : P.cellsOf f0.type = 1) (c1 : P.cellsOf f1.type = 1)
    (t0 : P.underlying f0.type = some (.int .i64)) (t1 : P.underlying f1.type = some (.slice EB)) (tb : P.underlying EB = some (.int .u8)) (cb : P.cellsOf EB = 1) (bb : P.bytesOf EB = 1)
    (hv : Value.okWide P W .any base T v) (h : DataW.Trod enc P W 0 (fun _ => true) true T v d ps) (hw : ∀ n ∈ d.weights P T, n ≤ reachBytes) : ∃ us, PutSeg W v us := by
  obtain ⟨a, len, cap, rfl⟩ := Go.WideShapes.okWide_slice hT hv
  obtain ⟨fuel, hf⟩ := h
  rcases Go.Deep.open_slice hT hf with ⟨hcs, _⟩ | ⟨x, l, c, m, n, D, Pl, hcs, _, hl, hm, hmm, hd, hx⟩
  · simp [Value.cells] at hcs
    obtain ⟨rfl, rfl, rfl⟩ := hcs
    exact ⟨[], none, 0, rfl, by simp, by simp, .inl rfl⟩
  · simp [Value.cells] at hcs
    obtain ⟨rfl, rfl, rfl⟩ := hcs
    simp only [if_true] at hmm
    subst hmm
    simp only [Prod.mk.injEq] at hd
    have hlenb : len ≤ 140737488351232 := by
      have hmem : (((List.range len).map D).length + ((List.range (m - len)).map fun j => D (len + j)).length) * P.bytesOf E ≤ reachBytes := by
        apply hw
        rw [hd.1]
        simp only [DataW.weights, hT]
        exact List.mem_cons_self
      simp only [List.length_map, List.length_range, reachBytes] at hmem
      have := Nat.le_mul_of_pos_right (len + (m - len)) be
      omega
    rw [ce] at hx
    have each : ∀ i, i < len → ∃ z : Int × List UInt8, ∃ u, W.cell? (x.add (i * 2)) = some (.int .i64 z.1) ∧ W.cell? (x.add (i * 2 + 1)) = some u ∧ Seg W u z.2 ∧ z.2.length ≤ 140737488351232 := by
      intro i hi
      obtain ⟨cs', h1, h2⟩ := hx i (by omega)
      obtain ⟨_, hlen, hcell⟩ := World.cells?_some h1
      obtain ⟨xs, k, hk, hxy, _, hxl, hfld⟩ := DataW.trod_struct hE h2
      match xs, hxl, cs', hlen with
      | [y0, y1], _, [v0, v1], _ =>
        have g0 := hfld 0 f0 rfl
        have g1 := hfld 1 f1 rfl
        simp [o0, o1, c0, c1] at g0 g1
        have e0 := hcell 0 (by omega)
        have e1 := hcell 1 (by omega)
        rw [add_add] at e0 e1
        obtain ⟨z0, q0, _⟩ := DataW.trod_int t0 g0
        have hDi : D i = .agg [y0.1, y1.1] := by
          have := congrArg Prod.fst hxy
          simpa using this
        obtain ⟨lb, q3, q4⟩ := seg_of_cell_w t1 tb cb bb g1 (fun n hn => hw n (by
          rw [hd.1]
          simp only [DataW.weights, hT]
          refine List.mem_cons_of_mem _ (List.mem_append_left _ (weights_all_mem (i := i) (d := D i) (by simp [hi]) _ ?_))
          rw [hDi]
          simp only [DataW.weights, hE, DataW.weightsEach, List.map_cons, List.map_nil, List.append_nil]
          exact List.mem_append_right _ hn))
        simp at q0
        subst q0
        exact ⟨(z0, lb), v1, by simpa using e0, by simpa using e1, q3, q4⟩
    obtain ⟨F, hF⟩ := choose_lt (α := Int × List UInt8) each
    have hlen : ((List.range len).map F).length = len := by simp
    refine ⟨(List.range len).map F, some x, m, by rw [hlen], by rw [hlen]; omega, fun u hu => ?_, ?_⟩
    · obtain ⟨i, hi, rfl⟩ := List.mem_map.1 hu
      obtain ⟨_, _, _, _, h5⟩ := hF i (by simpa using hi)
      omega
    · rcases Nat.eq_zero_or_pos len with h0 | h0
      · left; rw [h0]; rfl
      · right
        obtain ⟨b, off, spot⟩ := x
        have hspot : spot = none := by
          obtain ⟨u, h0', _⟩ := hF 0 (by omega)
          simpa [Addr.add] using World.cell?_spot h0'
        subst hspot
        refine ⟨b, off, rfl, ?_, fun j hj => ?_⟩
        · obtain ⟨u, h1, _⟩ := hF 0 (by omega)
          rw [Go.WideShapes.add_plain] at h1
          exact block_lt_of_cell h1
        · rw [hlen] at hj
          obtain ⟨u, h1, h2, h3, h4⟩ := hF j hj
          rw [Go.WideShapes.add_plain] at h1 h2
          rw [List.getElem_map, List.getElem_range]
          exact ⟨h1, u, by rw [show off + j * 2 + 1 = off + (j * 2 + 1) by omega]; exact h2, h3⟩

set_option maxRecDepth 100000 in
theorem puts_of_trod {H : Type} {enc : TypeId × Value → H} {W : World} {base : Nat} {v : Value} {d : DataW H} {ps : List MemPlace}
    (hv : Value.okWide Tryz.prog W .any base 172 v) (h : DataW.Trod enc Tryz.prog W 0 (fun _ => true) true 172 v d ps) (hw : ∀ n ∈ d.weights Tryz.prog 172, n ≤ reachBytes) : ∃ us, PutSeg W v us :=
  puts_of_trod' Tryz.underlying172 Tryz.underlying171 (by kernel_rfl) (by decide +kernel) rfl rfl (by kernel_rfl) (by kernel_rfl) Tryz.underlying3 Tryz.underlying53 Tryz.underlying5 (by kernel_rfl) (by kernel_rfl) hv h hw

end Go.Proofs.YtpegbgomnpinfaaGreat

/- Helpers of the plan laws: too much of it; what is refused. -/
set_option linter.unusedVariables false
namespace Go.Proofs.YtpegbgomnpinfaaGreat
open Go.RowKit

/-- How much is looked at: lengths added up, till it is too much. -/
def muchN : List Nat → Int → Int
  | [], n => n
  | a :: l, n => if n ≤ 300000 then muchN l (n + a) else n
theorem muchN_big (l : List Nat) {n : Int} (h : ¬ n ≤ 300000) : muchN l n = n := by
  cases l with
  | nil => rfl
  | cons a l => show (if n ≤ 300000 then _ else _) = _; rw [if_neg h]
theorem muchN_step (l : List Nat) {n : Int} (k : Nat) (hk : k < l.length) (h : n ≤ 300000) : muchN (l.drop k) n = muchN (l.drop (k + 1)) (n + (l[k] : Nat)) := by
  rw [List.drop_eq_getElem_cons hk]
  show (if n ≤ 300000 then _ else _) = _
  rw [if_pos h]
/-- Is it too much? -/
def muchIs (l : List Nat) : Bool := decide (300000 < muchN l l.length)

set_option maxRecDepth 100000 in
set_option maxHeartbeats 2000000 in
theorem much_rows (v : Value) (ls : List (List UInt8)) (w : World) (hv : Segs w v ls) (hfew : ls.length ≤ 140737488351232) (hdl : ∀ l ∈ ls, l.length ≤ 140737488351232) :
    Calls Tryz.prog 30 #[v] w fun e w' => e = .returned (.bool (muchIs (ls.map List.length))) ∧ w' = w := by
  obtain ⟨F, hF⟩ : ∃ F : List Nat, F = ls.map List.length := ⟨_, rfl⟩
  have hFl : F.length = ls.length := by rw [hF, List.length_map]
  have HF := Lib.hid hF
  rw [← hF]
  clear hF
  have HDL := Lib.hid hdl
  have HV := Lib.hid hv
  obtain ⟨va, vc, rfl⟩ := hv.shape
  clear hv hdl
  go_enter Tryz.func30, Tryz.ntmps30
  go_wp2
  go_loopw [3, 4] (fun t q wr => ∃ (k : Nat) (n : Int), k ≤ ls.length ∧ q = .int .i64 k ∧ t = .int .i64 n ∧ 0 ≤ n ∧ n ≤ 281474976710656 ∧ muchN (F.drop k) n = muchN F F.length ∧ wr = w) (fun _ q _ => ls.length - (intOf q).toNat)
  case atStart => exact ⟨0, ls.length, by omega, rfl, rfl, by omega, by omega, by rw [List.drop_zero, hFl], rfl⟩
  case round =>
    obtain ⟨k, n, hk, rfl, rfl, hn0, hn1, hmu, rfl⟩ := hrel
    have HMU := Lib.hid hmu
    clear hmu
    by_cases hkn : k < ls.length
    · have b0 : decide ((k : Int) < (ls.length : Int)) = true := decide_eq_true (by omega)
      by_cases hn : n ≤ 300000
      · have b1 : decide (n ≤ 300000) = true := decide_eq_true hn
        obtain ⟨b, o, c', hve, hlt, hx⟩ := Segs.full HV.out (by omega)
        simp only [Value.slice.injEq] at hve
        obtain ⟨rfl, -, rfl⟩ := hve
        obtain ⟨x, c1, hs⟩ := hx k hkn
        have hl := HDL.out _ (List.getElem_mem hkn)
        obtain ⟨xa, xc, rfl⟩ := hs.shape
        have K1 : Hid (k + 1 ≤ ls.length) := hkn
        have HST : Hid (muchN (F.drop k) n = muchN (F.drop (k + 1)) (n + ((ls[k]'hkn).length : Nat))) := by
          have h := muchN_step F k (by rw [hFl]; exact hkn) hn
          have e : F[k]'(by rw [hFl]; exact hkn) = (ls[k]'hkn).length := by
            have hf := HF.out
            subst hf
            exact List.getElem_map _
          rw [e] at h
          exact h
        clear hx hs
        generalize (ls[k]'hkn).length = m at *
        go_wp2
        exact ⟨⟨k + 1, n + m, K1.out, by go_num, by go_num, by omega, by omega, HST.out.symm.trans HMU.out, trivial⟩, by simp [intOf]; omega⟩
      · have b1 : decide (n ≤ 300000) = false := decide_eq_false hn
        have hend : muchIs F = true := by
          unfold muchIs
          rw [← HMU.out, muchN_big _ hn]
          exact decide_eq_true (by omega)
        have HE := Lib.hid hend
        clear hend
        go_wp2
        go_ret
        exact ⟨by rw [HE.out]; rfl, rfl⟩
    · have b0 : decide ((k : Int) < (ls.length : Int)) = false := decide_eq_false (by omega)
      have hend : muchIs F = decide (300000 < n) := by
        unfold muchIs
        rw [← HMU.out, List.drop_of_length_le (by omega)]
        rfl
      have HE := Lib.hid hend
      clear hend
      go_wp2
      go_ret
      exact ⟨by rw [HE.out]; rfl, rfl⟩

/-- What Split and Most say of a batch: 0: it may be. -/
def splitCode (m c s : Int) (us : List (Int × List UInt8)) : Int :=
  if geoIs m c s = false then 60 else if 256 < us.length then 1 else if us.any (fun u => !decide (0 ≤ u.1 ∧ u.1 < s * c * (m - 1))) = true then 3 else if us.any (fun u => !decide (u.2.length = 128)) = true then 4 else 0
theorem any_not {α : Type} {us : List α} {p : α → Prop} [DecidablePred p] : us.any (fun u => !decide (p u)) = true ↔ ∃ u ∈ us, ¬ p u := by
  rw [List.any_eq_true]
  constructor
  · rintro ⟨u, h1, h2⟩; exact ⟨u, h1, by simpa using h2⟩
  · rintro ⟨u, h1, h2⟩; exact ⟨u, h1, by simpa using h2⟩

theorem split_zero {m c s : Int} {us : List (Int × List UInt8)} (h : splitCode m c s us = 0) : ∃ M C S : Nat, m = M ∧ c = C ∧ s = S ∧ BatchOk M C S us := by
  unfold splitCode at h
  by_cases hg : geoIs m c s = false
  · rw [if_pos hg] at h; omega
  · rw [if_neg hg] at h
    have hg' : geoIs m c s = true := by simpa using hg
    obtain ⟨h1, h2, h3, h4, h5, h6⟩ := (geoIs_iff m c s).1 hg'
    by_cases hn : 256 < us.length
    · rw [if_pos hn] at h; omega
    · rw [if_neg hn] at h
      split at h
      · omega
      · rename_i ht
        split at h
        · omega
        · rename_i hl
          obtain ⟨M, rfl⟩ : ∃ M : Nat, m = M := ⟨m.toNat, by omega⟩
          obtain ⟨C, rfl⟩ : ∃ C : Nat, c = C := ⟨c.toNat, by omega⟩
          obtain ⟨S, rfl⟩ : ∃ S : Nat, s = S := ⟨s.toNat, by omega⟩
          refine ⟨M, C, S, rfl, rfl, rfl, hg', by omega, fun u hu => ?_, fun u hu => ?_⟩
          · exact Classical.byContradiction fun e => ht (any_not.2 ⟨u, hu, e⟩)
          · exact Classical.byContradiction fun e => hl (any_not.2 ⟨u, hu, e⟩)

/-- A batch that is refused. -/
theorem split_refused (m c s : Int) (v : Value) (us : List (Int × List UInt8)) (w : World) (hv : PutSeg w v us) (h : splitCode m c s us ≠ 0) :
    Calls Tryz.prog 145 #[geo m c s, v] w fun e w' => e = .returned (.tuple #[.slice none 0 0, .int .u16 (splitCode m c s us)]) ∧ Below w.heap.size w w' := by
  unfold splitCode at h ⊢
  by_cases hg : geoIs m c s = false
  · rw [if_pos hg]
    exact plan_Split_form m c s v us w hg
  · rw [if_neg hg] at h ⊢
    have hg' : geoIs m c s = true := by simpa using hg
    obtain ⟨h1, h2, h3, h4, h5, h6⟩ := (geoIs_iff m c s).1 hg'
    obtain ⟨M, rfl⟩ : ∃ M : Nat, m = M := ⟨m.toNat, by omega⟩
    obtain ⟨C, rfl⟩ : ∃ C : Nat, c = C := ⟨c.toNat, by omega⟩
    obtain ⟨S, rfl⟩ : ∃ S : Nat, s = S := ⟨s.toNat, by omega⟩
    by_cases hn : 256 < us.length
    · rw [if_pos hn]
      exact plan_Split_many M C S v us w hg' hv hn
    · rw [if_neg hn] at h ⊢
      refine (plan_Split M C S v us w hg' hv (by omega)).mono fun e w' ⟨hp, hb⟩ => ⟨?_, hb⟩
      rcases hp with ⟨⟨u, hu, e1⟩, e2⟩ | ⟨e0, ⟨u, hu, e1⟩, e2⟩ | ⟨e0, e1, -⟩
      · rw [if_pos (any_not.2 ⟨u, hu, e1⟩)]
        exact e2
      · rw [if_neg (fun h => by obtain ⟨x, hx, hy⟩ := any_not.1 h; exact hy (e0 x hx)), if_pos (any_not.2 ⟨u, hu, e1⟩)]
        exact e2
      · exfalso
        rw [if_neg (fun h => by obtain ⟨x, hx, hy⟩ := any_not.1 h; exact hy (e0 x hx)), if_neg (fun h => by obtain ⟨x, hx, hy⟩ := any_not.1 h; exact hy (e1 x hx))] at h
        exact h rfl

set_option maxRecDepth 100000 in
set_option maxHeartbeats 2000000 in
theorem most_refused (m c s : Int) (v : Value) (us : List (Int × List UInt8)) (w : World) (hv : PutSeg w v us) (h : splitCode m c s us ≠ 0) :
    Calls Tryz.prog 99 #[geo m c s, v] w fun e w' => e = .returned (.tuple #[.int .i64 0, .int .u16 (splitCode m c s us)]) ∧ Below w.heap.size w w' := by
  have hb0 : Below w.heap.size w (w.alloc (.cells #[.int .i64 m, .int .i64 c, .int .i64 s] 23)) := (Below.refl _ _).alloc (Nat.le_refl _) _
  have hsp : Hid (∀ W, Below w.heap.size w W → Calls Tryz.prog 145 #[geo m c s, v] W fun e w' => e = .returned (.tuple #[.slice none 0 0, .int .u16 (splitCode m c s us)]) ∧ Below W.heap.size W w') := fun W hW => split_refused m c s v us W (hv.below hW) h
  generalize splitCode m c s us = q at *
  clear hv h
  unfold geo at *
  go_enter Tryz.func99, Tryz.ntmps99
  go_wp2_with (go_at_call 145; (with_reducible refine (hsp.out _ hb0).mono ?_); rintro e w2 ⟨rfl, hb2⟩; have HB2 := Lib.hid (below_then hb0 hb2); clear hb2)
  go_loopw [21, 8] (fun q s wr => q = .int .i64 0 ∧ s = .int .i64 0 ∧ wr = w2) (fun _ _ _ => 0)
  case atStart => exact ⟨rfl, rfl, rfl⟩
  case round =>
    obtain ⟨rfl, rfl, rfl⟩ := hrel
    go_wp2
    go_ret2
    exact ⟨rfl, HB2.out⟩

theorem much_sum : ∀ (l : List Nat) (n : Int), muchN l n ≤ 300000 → n + ((l.sum : Nat) : Int) ≤ 300000
  | [], n, h => by
    have h' : n ≤ 300000 := h
    simpa using h'
  | a :: l, n, h => by
    have h' : (if n ≤ 300000 then muchN l (n + a) else n) ≤ 300000 := h
    by_cases hn : n ≤ 300000
    · rw [if_pos hn] at h'
      have := much_sum l (n + a) h'
      rw [List.sum_cons, Int.natCast_add]
      omega
    · rw [if_neg hn] at h'
      omega
theorem sum_mem {l : List Nat} {a : Nat} (h : a ∈ l) : a ≤ l.sum := by
  induction l with
  | nil => cases h
  | cons b l ih =>
    rw [List.sum_cons]
    rcases List.mem_cons.1 h with e | e
    · subst e; omega
    · have := ih e; omega
theorem much_few {F : List Nat} (h : muchIs F = false) : F.length ≤ 300000 ∧ ∀ a ∈ F, a ≤ 300000 := by
  unfold muchIs at h
  have h1 := of_decide_eq_false h
  have h2 := much_sum F F.length (by omega)
  exact ⟨by omega, fun a ha => by have := sum_mem ha; omega⟩

end Go.Proofs.YtpegbgomnpinfaaGreat

/- The document's: a patch among a row's. -/
set_option linter.unusedVariables false
namespace Go.Proofs.YtpegbgomnpinfaaGreat
open Go.RowKit

/-- One patch further: what came out, and whether the new one is among it. -/
def intoStep (p : Pat) (s : List Pat × Bool) (q : Pat) : List Pat × Bool :=
  ((if (!s.2 && decide (p.m ≤ q.m)) = true then s.1 ++ [p] else s.1) ++ (if q.m = p.m then [] else [q]), s.2 || decide (p.m ≤ q.m))
def intoTo (ps : List Pat) (p : Pat) (k : Nat) : List Pat × Bool := (ps.take k).foldl (intoStep p) ([], false)
def intoL (ps : List Pat) (p : Pat) : List Pat := if (intoTo ps p ps.length).2 = true then (intoTo ps p ps.length).1 else (intoTo ps p ps.length).1 ++ [p]
theorem intoTo_zero (ps : List Pat) (p : Pat) : intoTo ps p 0 = ([], false) := by simp [intoTo]
theorem intoTo_succ (ps : List Pat) (p : Pat) (k : Nat) (h : k < ps.length) : intoTo ps p (k + 1) = intoStep p (intoTo ps p k) (ps[k]'h) := by
  unfold intoTo
  rw [List.take_succ_eq_append_getElem h, List.foldl_append]
  rfl

abbrev PatsUp (ps : List Pat) : Prop := ps.Pairwise fun a b => a.m < b.m

structure IntoIs (ps : List Pat) (p : Pat) (k : Nat) (s : List Pat × Bool) : Prop where
  up : PatsUp s.1
  mem : ∀ q, q ∈ s.1 ↔ (q = p ∧ s.2 = true) ∨ (q ∈ ps.take k ∧ q.m ≠ p.m)
  don : s.2 = true ↔ ∃ q ∈ ps.take k, p.m ≤ q.m

theorem into_is (ps : List Pat) (p : Pat) (hu : PatsUp ps) : ∀ k, k ≤ ps.length → IntoIs ps p k (intoTo ps p k)
  | 0, _ => by
    rw [intoTo_zero]
    exact ⟨List.Pairwise.nil, fun q => by simp, by simp⟩
  | k + 1, hk => by
    have ih := into_is ps p hu k (by omega)
    have hk' : k < ps.length := by omega
    rw [intoTo_succ ps p k hk']
    generalize intoTo ps p k = st at ih ⊢
    obtain ⟨out, dn⟩ := st
    obtain ⟨h1, h2, h3⟩ := ih
    try simp only at h1 h2 h3
    have hq : ∀ x ∈ ps.take k, x.m < (ps[k]'hk').m := fun x hx => by
      obtain ⟨j, hj, rfl⟩ := List.getElem_of_mem hx
      rw [List.length_take] at hj
      rw [List.getElem_take]
      exact List.pairwise_iff_getElem.1 hu j k (by omega) hk' (by omega)
    have htk : ps.take (k + 1) = ps.take k ++ [ps[k]'hk'] := List.take_succ_eq_append_getElem hk'
    generalize ps[k]'hk' = q at *
    unfold intoStep
    simp only
    have hdon : (dn || decide (p.m ≤ q.m)) = true ↔ ∃ x ∈ ps.take (k + 1), p.m ≤ x.m := by
      rw [htk, Bool.or_eq_true, decide_eq_true_eq, h3]
      constructor
      · rintro (⟨x, hx, hy⟩ | h)
        · exact ⟨x, List.mem_append_left _ hx, hy⟩
        · exact ⟨q, by simp, h⟩
      · rintro ⟨x, hx, hy⟩
        rcases List.mem_append.1 hx with hx | hx
        · exact .inl ⟨x, hx, hy⟩
        · obtain rfl : x = q := by simpa using hx
          exact .inr hy
    cases hd : dn
    · rw [hd] at h2 h3 hdon
      have hlow : ∀ x ∈ ps.take k, x.m < p.m := fun x hx => Classical.byContradiction fun e => by
        have := h3.2 ⟨x, hx, by omega⟩
        cases this
      have hout : ∀ x ∈ out, x.m < p.m ∧ x.m < q.m := fun x hx => by
        rcases (h2 x).1 hx with ⟨-, h⟩ | ⟨h, -⟩
        · cases h
        · exact ⟨hlow x h, hq x h⟩
      by_cases hpq : p.m ≤ q.m
      · have e1 : (!false && decide (p.m ≤ q.m)) = true := by simp [hpq]
        rw [if_pos e1]
        have e2 : (false || decide (p.m ≤ q.m)) = true := by simp [hpq]
        by_cases heq : q.m = p.m
        · rw [if_pos heq, List.append_nil]
          refine ⟨?_, fun x => ?_, hdon⟩
          · show List.Pairwise _ (_ ++ _)
            rw [List.pairwise_append]
            exact ⟨h1, List.pairwise_singleton _ _, fun a ha b hb => by obtain rfl : b = p := by simpa using hb
                                                                        exact (hout a ha).1⟩
          · rw [htk, List.mem_append, List.mem_append, List.mem_singleton, List.mem_singleton, h2]
            constructor
            · rintro ((⟨-, h⟩ | ⟨h, h'⟩) | h)
              · cases h
              · exact .inr ⟨.inl h, h'⟩
              · exact .inl ⟨h, e2⟩
            · rintro (⟨h, -⟩ | ⟨h | h, h'⟩)
              · exact .inr h
              · exact .inl (.inr ⟨h, h'⟩)
              · subst h; exact absurd heq h'
        · rw [if_neg heq]
          refine ⟨?_, fun x => ?_, hdon⟩
          · show List.Pairwise _ (_ ++ _)
            rw [List.pairwise_append, List.pairwise_append]
            refine ⟨⟨h1, List.pairwise_singleton _ _, fun a ha b hb => by obtain rfl : b = p := by simpa using hb
                                                                          exact (hout a ha).1⟩, List.pairwise_singleton _ _, fun a ha b hb => ?_⟩
            obtain rfl : b = q := by simpa using hb
            rcases List.mem_append.1 ha with ha | ha
            · exact (hout a ha).2
            · obtain rfl : a = p := by simpa using ha
              omega
          · rw [htk, List.mem_append, List.mem_append, List.mem_append, List.mem_singleton, List.mem_singleton, h2]
            constructor
            · rintro (((⟨-, h⟩ | ⟨h, h'⟩) | h) | h)
              · cases h
              · exact .inr ⟨.inl h, h'⟩
              · exact .inl ⟨h, e2⟩
              · exact .inr ⟨.inr h, by rw [h]; exact heq⟩
            · rintro (⟨h, -⟩ | ⟨h | h, h'⟩)
              · exact .inl (.inr h)
              · exact .inl (.inl (.inr ⟨h, h'⟩))
              · exact .inr h
      · have e1 : ¬ (!false && decide (p.m ≤ q.m)) = true := by simp [hpq]
        have e2 : ¬ (false || decide (p.m ≤ q.m)) = true := by simp [hpq]
        rw [if_neg e1, if_neg (by omega)]
        refine ⟨?_, fun x => ?_, hdon⟩
        · show List.Pairwise _ (_ ++ _)
          rw [List.pairwise_append]
          exact ⟨h1, List.pairwise_singleton _ _, fun a ha b hb => by obtain rfl : b = q := by simpa using hb
                                                                      exact (hout a ha).2⟩
        · rw [htk, List.mem_append, List.mem_append, List.mem_singleton, h2]
          constructor
          · rintro ((⟨-, h⟩ | ⟨h, h'⟩) | h)
            · cases h
            · exact .inr ⟨.inl h, h'⟩
            · exact .inr ⟨.inr h, by rw [h]; omega⟩
          · rintro (⟨-, h⟩ | ⟨h | h, h'⟩)
            · exact absurd h e2
            · exact .inl (.inr ⟨h, h'⟩)
            · exact .inr h
    · rw [hd] at h2 h3 hdon
      obtain ⟨z, hz1, hz2⟩ := h3.1 rfl
      have hzq := hq z hz1
      have hout : ∀ x ∈ out, x.m < q.m := fun x hx => by
        rcases (h2 x).1 hx with ⟨h, -⟩ | ⟨h, -⟩
        · rw [h]; omega
        · exact hq x h
      have e1 : ¬ (!true && decide (p.m ≤ q.m)) = true := by simp
      rw [if_neg e1, if_neg (by omega)]
      refine ⟨?_, fun x => ?_, hdon⟩
      · show List.Pairwise _ (_ ++ _)
        rw [List.pairwise_append]
        exact ⟨h1, List.pairwise_singleton _ _, fun a ha b hb => by obtain rfl : b = q := by simpa using hb
                                                                    exact hout a ha⟩
      · rw [htk, List.mem_append, List.mem_append, List.mem_singleton, h2]
        constructor
        · rintro ((⟨h, -⟩ | ⟨h, h'⟩) | h)
          · exact .inl ⟨h, by simp⟩
          · exact .inr ⟨.inl h, h'⟩
          · exact .inr ⟨.inr h, by rw [h]; omega⟩
        · rintro (⟨h, -⟩ | ⟨h | h, h'⟩)
          · exact .inl (.inl ⟨h, rfl⟩)
          · exact .inl (.inr ⟨h, h'⟩)
          · exact .inr h

theorem intoL_is {ps : List Pat} {p : Pat} (hu : PatsUp ps) : PatsUp (intoL ps p) ∧ ∀ q, q ∈ intoL ps p ↔ q = p ∨ (q ∈ ps ∧ q.m ≠ p.m) := by
  have h := into_is ps p hu ps.length (Nat.le_refl _)
  unfold intoL
  generalize intoTo ps p ps.length = st at h ⊢
  obtain ⟨out, dn⟩ := st
  obtain ⟨h1, h2, h3⟩ := h
  simp only [List.take_length] at h1 h2 h3
  try simp only
  cases dn
  · rw [if_neg (by simp)]
    have hlow : ∀ x ∈ ps, x.m < p.m := fun x hx => Classical.byContradiction fun e => by
      have := h3.2 ⟨x, hx, by omega⟩
      cases this
    refine ⟨?_, fun q => ?_⟩
    · rw [PatsUp, List.pairwise_append]
      refine ⟨h1, List.pairwise_singleton _ _, fun a ha b hb => ?_⟩
      obtain rfl : b = p := by simpa using hb
      rcases (h2 a).1 ha with ⟨-, h⟩ | ⟨h, -⟩
      · cases h
      · exact hlow a h
    · rw [List.mem_append, List.mem_singleton, h2]
      constructor
      · rintro ((⟨-, h⟩ | h) | h)
        · cases h
        · exact .inr h
        · exact .inl h
      · rintro (h | h)
        · exact .inr h
        · exact .inl (.inr h)
  · rw [if_pos rfl]
    refine ⟨h1, fun q => ?_⟩
    rw [h2]
    constructor
    · rintro (⟨h, -⟩ | h)
      · exact .inl h
      · exact .inr h
    · rintro (h | h)
      · exact .inl ⟨h, rfl⟩
      · exact .inr h

/-- Two rising lists of the same patches are one. -/
theorem pats_ext : ∀ {l m : List Pat}, PatsUp l → PatsUp m → (∀ x, x ∈ l ↔ x ∈ m) → l = m
  | [], [], _, _, _ => rfl
  | [], b :: m, _, _, h => by have := (h b).2 List.mem_cons_self; cases this
  | a :: l, [], _, _, h => by have := (h a).1 List.mem_cons_self; cases this
  | a :: l, b :: m, h1, h2, h => by
    rw [PatsUp, List.pairwise_cons] at h1 h2
    have hab : a = b := by
      rcases List.mem_cons.1 ((h a).1 List.mem_cons_self) with e | e
      · exact e
      · rcases List.mem_cons.1 ((h b).2 List.mem_cons_self) with e' | e'
        · exact e'.symm
        · have := h2.1 a e
          have := h1.1 b e'
          omega
    subst hab
    rw [pats_ext h1.2 h2.2 fun x => ?_]
    constructor
    · intro hx
      rcases List.mem_cons.1 ((h x).1 (List.mem_cons_of_mem _ hx)) with e | e
      · subst e; have := h1.1 x hx; omega
      · exact e
    · intro hx
      rcases List.mem_cons.1 ((h x).2 (List.mem_cons_of_mem _ hx)) with e | e
      · subst e; have := h2.1 x hx; omega
      · exact e

theorem patsIn_up (M : Nat) (G : Tab) (r : Nat) : PatsUp (patsIn M G r) := by
  unfold PatsUp patsIn
  rw [List.pairwise_map]
  exact (which_pw _ _).imp fun {a b} h => by
    show ((a : Nat) : Int) < ((b : Nat) : Int)
    omega
theorem patsIn_mem {M : Nat} {G : Tab} {r : Nat} {q : Pat} : q ∈ patsIn M G r ↔ ∃ (m : Nat) (d : List UInt8), m < M ∧ G (r : Int) (m : Int) = some d ∧ q = ⟨(m : Int), (r : Int), d⟩ := by
  unfold patsIn membsIn
  rw [List.mem_map]
  constructor
  · rintro ⟨m, hm, rfl⟩
    obtain ⟨h1, h2⟩ := which_mem.1 hm
    obtain ⟨d, hd⟩ := Option.isSome_iff_exists.1 h2
    exact ⟨m, d, h1, hd, by rw [hd]; rfl⟩
  · rintro ⟨m, d, h1, h2, rfl⟩
    exact ⟨m, which_mem.2 ⟨h1, by rw [h2]; rfl⟩, by rw [h2]; rfl⟩

/-- A block more. -/
theorem patsIn_set (M : Nat) (G : Tab) (r m : Nat) (d : List UInt8) (hm : m < M) : patsIn M (tabSet G (r : Int) (m : Int) d) r = intoL (patsIn M G r) ⟨(m : Int), (r : Int), d⟩ := by
  obtain ⟨h1, h2⟩ := intoL_is (p := ⟨(m : Int), (r : Int), d⟩) (patsIn_up M G r)
  refine pats_ext (patsIn_up M _ r) h1 fun q => ?_
  rw [h2, patsIn_mem, patsIn_mem]
  constructor
  · rintro ⟨m', d', h3, h4, rfl⟩
    unfold tabSet at h4
    by_cases e : (m' : Int) = (m : Int)
    · rw [if_pos ⟨rfl, e⟩] at h4
      simp only [Option.some.injEq] at h4
      left
      rw [h4, e]
    · rw [if_neg (fun h => e h.2)] at h4
      exact .inr ⟨⟨m', d', h3, h4, rfl⟩, e⟩
  · rintro (rfl | ⟨⟨m', d', h3, h4, rfl⟩, h5⟩)
    · exact ⟨m, d, hm, by unfold tabSet; rw [if_pos ⟨rfl, rfl⟩], rfl⟩
    · exact ⟨m', d', h3, by unfold tabSet; rw [if_neg (fun h => h5 h.2)]; exact h4, rfl⟩
theorem patsIn_other (M : Nat) (G : Tab) (r m r' : Nat) (d : List UInt8) (h : r' ≠ r) : patsIn M (tabSet G (r : Int) (m : Int) d) r' = patsIn M G r' := by
  have e : ∀ x : Int, tabSet G (r : Int) (m : Int) d (r' : Int) x = G (r' : Int) x := fun x => by
    unfold tabSet
    rw [if_neg (fun h' => h (by have := h'.1; omega))]
  unfold patsIn membsIn
  simp only [e]

/-- A row of patches that the call has made; their bytes lie in what was there. -/
structure VRow (w0 w : World) (v : Value) (X : List OP) : Prop where
  row : w.ownsRow w0.heap.size 153 3 v X.length (elems (fun i => opCells (X.getD i op0)) X.length)
  dat : ∀ x ∈ X, Seg w0 x.2 x.1.d
theorem VRow.nil (w0 w : World) : VRow w0 w (.slice none 0 0) [] := ⟨World.ownsRow_nil _ _ _ _, fun x hx => by simp at hx⟩
theorem VRow.below {w0 w w' : World} {v : Value} {X : List OP} (h : VRow w0 w v X) (hb : Below w.heap.size w w') : VRow w0 w' v X := ⟨ownsRow_below h.row hb (Nat.le_refl _), h.dat⟩
theorem VRow.snoc {w0 w w' : World} {v v' : Value} {X : List OP} {x : OP} (h : VRow w0 w v X) (hx : Seg w0 x.2 x.1.d) (hrow : w'.ownsRow w0.heap.size 153 3 v' (X.length + 1) (elems (fun i => opCells (X.getD i op0)) X.length ++ opCells x)) : VRow w0 w' v' (X ++ [x]) := by
  refine ⟨?_, fun y hy => ?_⟩
  · rw [opElems_snoc, List.length_append, List.length_singleton]
    exact hrow
  · rcases List.mem_append.1 hy with hy | hy
    · exact h.dat y hy
    · obtain rfl : y = x := by simpa using hy
      exact hx
theorem VRow.pseg {w0 w : World} {v : Value} {X : List OP} (h : VRow w0 w v X) (hb : Below w0.heap.size w0 w) (hf : X.length ≤ 200000) (hl : ∀ x ∈ X, x.1.d.length ≤ 140737488355000) : PSeg w v (X.map (·.1)) := by
  obtain ⟨a, c, rfl⟩ := ownsRow_shape h.row
  refine ⟨a, c, by rw [List.length_map], by rw [List.length_map]; omega, fun p hp => ?_, ?_⟩
  · obtain ⟨x, hx, rfl⟩ := List.mem_map.1 hp
    exact hl x hx
  · by_cases hl : X.length = 0
    · left
      rw [List.eq_nil_of_length_eq_zero hl]
      rfl
    · obtain ⟨g, cap, hv, hB, hg⟩ := ownsRow_full h.row (by omega)
      simp only [Value.slice.injEq] at hv
      obtain ⟨rfl, -, rfl⟩ := hv
      refine .inr ⟨g, 0, rfl, hg, fun j hj => ?_⟩
      rw [List.length_map] at hj
      have e : X.getD j op0 = X[j] := by rw [List.getD_eq_getElem?_getD, List.getElem?_eq_getElem hj]; rfl
      have c0 := own_cell3 h.row (fun k => rfl) j 0 hj (by omega)
      have c1 := own_cell3 h.row (fun k => rfl) j 1 hj (by omega)
      have c2 := own_cell3 h.row (fun k => rfl) j 2 hj (by omega)
      rw [e] at c0 c1 c2
      rw [Nat.zero_add, List.getElem_map]
      exact ⟨by rw [show j * 3 = j * 3 + 0 by omega, c0]; rfl, by rw [c1]; rfl, _, by rw [c2]; rfl, (h.dat _ (List.getElem_mem hj)).below hb⟩

end Go.Proofs.YtpegbgomnpinfaaGreat
