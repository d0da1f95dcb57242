/- Several texts in one: PlzJ, GeoQ, PlzQ. -/
import Derived.Test.YtkcfmkhakghniaaGreatPlzI
import Derived.Test.YtkcfmkhakghniaaGreatGeoA
import Derived.Test.YtkcfmkhakghniaaGreatMrg1
import Derived.Deep.Slices
import Derived.ChangeArms
import Derived.Test.YtkcfmkhakghniaaGreatPlzP
/- The document's Most. -/
set_option linter.unusedVariables false
namespace Go.Proofs.YtkcfmkhakghniaaGreat
open Go.RowKit

set_option maxRecDepth 100000 in
set_option maxHeartbeats 2000000 in
theorem ref_Most_bad (m c s : Int) (v : Value) (us : List (Int × List UInt8)) (w : World) (hv : PutSeg w v us) (h : splitCode m c s us ≠ 0) :
    Calls Tryz.prog 27 #[geo m c s, v] w fun e w' => e = .returned (.tuple #[.int .i64 0, .int .i64 (splitCode m c s us)]) ∧ Below w.heap.size w w' := by
  have hb0 : Below w.heap.size w (w.alloc (.cells #[.int .i64 m, .int .i64 c, .int .i64 s] 23)) := (Below.refl _ _).alloc (Nat.le_refl _) _
  have hsp : Hid (∀ W, Below w.heap.size w W → _) := fun W hW => ref_Split_bad m c s v us W (hv.below hW) h
  generalize splitCode m c s us = q at *
  clear hv h
  unfold geo at *
  go_enter Tryz.func27, Tryz.ntmps27
  go_wp2_with (go_at_call 26; (with_reducible refine (hsp.out _ hb0).mono ?_); rintro e w2 ⟨rfl, hb2⟩; have HB2 := Lib.hid (below_then hb0 hb2); clear hb2)
  go_loopw [8, 9] (fun n q wx => n = .int .i64 0 ∧ q = .int .i64 0 ∧ wx = w2) (fun _ _ _ => 0)
  case atStart => exact ⟨rfl, rfl, rfl⟩
  case round =>
    obtain ⟨rfl, rfl, rfl⟩ := hrel
    go_wp2_with fail
    go_ret2
    exact ⟨rfl, HB2.out⟩

def lenSum (L : List (List Pat)) (k : Nat) : Nat := ((L.take k).map List.length).sum
theorem lenSum_succ (L : List (List Pat)) (k : Nat) (h : k < L.length) : lenSum L (k + 1) = lenSum L k + (L[k]'h).length := by
  unfold lenSum
  rw [List.take_succ_eq_append_getElem h, List.map_append, List.sum_append]
  simp
theorem lenSum_le (L : List (List Pat)) (k : Nat) (hk : k ≤ L.length) : lenSum L k ≤ lenSum L L.length := by
  unfold lenSum
  rw [List.take_length]
  have e : L.map List.length = (L.take k).map List.length ++ (L.drop k).map List.length := by rw [← List.map_append, List.take_append_drop]
  rw [e, List.sum_append]
  omega

set_option maxRecDepth 100000 in
set_option maxHeartbeats 4000000 in
theorem ref_Most_ok (M C S : Nat) (v : Value) (us : List (Int × List UInt8)) (w : World) (ok : BatchOk M C S us) (hv : PutSeg w v us) :
    Calls Tryz.prog 27 #[geo M C S, v] w fun e w' => e = .returned (.tuple #[.int .i64 (mostIn M (S * C) (tabAll M C us) : Nat), .int .i64 0]) ∧ Below w.heap.size w w' := by
  have hb0 : Below w.heap.size w (w.alloc (.cells #[.int .i64 M, .int .i64 C, .int .i64 S] 23)) := (Below.refl _ _).alloc (Nat.le_refl _) _
  have hsp : Hid (∀ W, Below w.heap.size w W → _) := fun W hW => ref_Split_ok M C S v us W ok (hv.below hW)
  have hfew := most_few (M := M) (C := C) (S := S) ok.few
  have hmost : ((rowsIn M (S * C) (tabAll M C us)).map (patsIn M (tabAll M C us))).length + lenSum ((rowsIn M (S * C) (tabAll M C us)).map (patsIn M (tabAll M C us))) ((rowsIn M (S * C) (tabAll M C us)).map (patsIn M (tabAll M C us))).length = mostIn M (S * C) (tabAll M C us) := by
    unfold lenSum mostIn
    rw [List.take_length, List.length_map, List.map_map, Nat.add_comm]
    congr 1
    congr 1
    exact List.map_congr_left fun r _ => by simp [patsIn]
  generalize hLe : (rowsIn M (S * C) (tabAll M C us)).map (patsIn M (tabAll M C us)) = L at *
  generalize mostIn M (S * C) (tabAll M C us) = T at *
  obtain ⟨va, vc, rfl⟩ := hv.shape
  have HMOST := Lib.hid hmost
  have HSUM := Lib.hid (lenSum_le L)
  have hL5 : L.length ≤ 512 := by omega
  have hS5 : lenSum L L.length ≤ 512 := by omega
  have HS5 := Lib.hid hS5
  clear hv ok hLe hmost hS5
  unfold geo at *
  go_enter Tryz.func27, Tryz.ntmps27
  go_wp2_with (first
    | (go_at_call 26; (with_reducible refine (hsp.out _ hb0).mono ?_); rintro e w2 ⟨⟨v', rfl, hp⟩, hb2⟩; obtain ⟨ra, rc, rfl⟩ := hp.shape; have HP := Lib.hid hp; have HB2 := Lib.hid (below_then hb0 hb2); clear hp hb2))
  go_loopw [8, 9] (fun s q wx => ∃ k : Nat, k ≤ L.length ∧ q = .int .i64 k ∧ s = .int .i64 ((L.length + lenSum L k : Nat) : Int) ∧ wx = w2) (fun _ q _ => L.length - (intOf q).toNat)
  case atStart => exact ⟨0, by omega, rfl, by simp [lenSum], rfl⟩
  case round =>
    obtain ⟨k, hk, rfl, rfl, rfl⟩ := hrel
    by_cases hk2 : k < L.length
    · have K1 : Hid (k + 1 ≤ L.length) := hk2
      obtain ⟨g, rfl, hlt, hx⟩ := HP.out.full (by omega)
      obtain ⟨u, c0, hu⟩ := hx k hk2
      obtain ⟨xa, xc, rfl⟩ := hu.shape
      have hs1 := lenSum_succ L k hk2
      have hs2 := HSUM.out (k + 1) hk2
      have hs3 := HS5.out
      have HS1 := Lib.hid hs1
      rw [hs1] at hs2
      clear hx hu hs1
      generalize (L[k]'hk2).length = n at *
      generalize lenSum L k = s at *
      generalize lenSum L L.length = tot at *
      go_wp2
      exact ⟨⟨k + 1, K1.out, by go_num, by rw [HS1.out]; go_num, trivial⟩, by simp [intOf]; omega⟩
    · obtain rfl : k = L.length := by omega
      have HM := Lib.hid HMOST.out
      go_wp2
      go_ret2
      exact ⟨congrArg (fun q : Nat => Ending.returned (.tuple #[.int .i64 (q : Int), .int .i64 0])) HM.out, HB2.out⟩

end Go.Proofs.YtkcfmkhakghniaaGreat

/- A geometry, as an argument brings it. -/
set_option linter.unusedVariables false
namespace Go
open Go.RowKit Go.ChangeShapes Go.WideShapes Go.ChangeAt

theorem agg3_of_trod {H : Type} {enc : TypeId × Value → H} {P : Program} {W : World} {T base : Nat} {v : Value} {d : DataW H} {ps : List MemPlace} {f0 f1 f2 : Field}
    (hT : P.underlying T = some (.struct #[f0, f1, f2])) (ce : P.cellsOf T = 3) (o0 : f0.offset = 0) (o1 : f1.offset = 1) (o2 : f2.offset = 2) (c0 : P.cellsOf f0.type = 1) (c1 : P.cellsOf f1.type = 1) (c2 : P.cellsOf f2.type = 1)
    (t0 : P.underlying f0.type = some (.int .i64)) (t1 : P.underlying f1.type = some (.int .i64)) (t2 : P.underlying f2.type = some (.int .i64))
    (hv : Value.okWide P W .any base T v) (h : DataW.Trod enc P W 0 (fun _ => true) true T v d ps) : ∃ a b c : Int, v = .agg #[.int .i64 a, .int .i64 b, .int .i64 c] := by
  obtain ⟨cs, rfl, hs⟩ := okWide_struct hT hv
  obtain ⟨fuel, hf⟩ := h
  obtain ⟨xs, n, -, -, hlen, hxl, hall⟩ := DataW.trod_struct hT hf
  have hx : xs.length = 3 := hxl
  rw [ce] at hs
  have h0 := hall 0 f0 rfl
  have h1 := hall 1 f1 rfl
  have h2 := hall 2 f2 rfl
  rw [o0, c0, List.getElem?_eq_getElem (by omega)] at h0
  rw [o1, c1, List.getElem?_eq_getElem (by omega)] at h1
  rw [o2, c2, List.getElem?_eq_getElem (by omega)] at h2
  obtain ⟨a, e0, -⟩ := DataW.trod_int t0 h0
  obtain ⟨b, e1, -⟩ := DataW.trod_int t1 h1
  obtain ⟨c, e2, -⟩ := DataW.trod_int t2 h2
  refine ⟨a, b, c, ?_⟩
  obtain ⟨l⟩ := cs
  match l, hs with
  | [x, y, z], _ =>
    simp [Value.cells] at e0 e1 e2
    rw [e0, e1, e2]

end Go
namespace Go.Proofs.YtkcfmkhakghniaaGreat
open Go.RowKit

set_option maxRecDepth 100000 in
theorem geo_of_trod {H : Type} {enc : TypeId × Value → H} {W : World} {base : Nat} {v : Value} {d : DataW H} {ps : List MemPlace}
    (hv : Value.okWide Tryz.prog W .any base 23 v) (h : DataW.Trod enc Tryz.prog W 0 (fun _ => true) true 23 v d ps) : ∃ m c s : Int, v = geo m c s :=
  agg3_of_trod Tryz.underlying23 (by kernel_rfl) rfl rfl rfl (by kernel_rfl) (by kernel_rfl) (by kernel_rfl) Tryz.underlying3 Tryz.underlying3 Tryz.underlying3 hv h

end Go.Proofs.YtkcfmkhakghniaaGreat

/- PlanSplits: plain parts. -/
set_option linter.unusedVariables false
namespace Go.Proofs.YtkcfmkhakghniaaGreat
open Go.RowKit

theorem much_sum : ∀ (l : List Nat) (n : Int), muchN l n ≤ 300000 → n + ((l.sum : Nat) : Int) ≤ 300000
  | [], n, h => by
    have h' : n ≤ 300000 := h
    simpa using h'
  | a :: l, n, h => by
    have h' : (if n ≤ 300000 then muchN l (n + a) else n) ≤ 300000 := h
    by_cases hn : n ≤ 300000
    · rw [if_pos hn] at h'
      have := much_sum l (n + a) h'
      rw [List.sum_cons, Int.natCast_add]
      omega
    · rw [if_neg hn] at h'
      omega
theorem sum_mem {l : List Nat} {a : Nat} (h : a ∈ l) : a ≤ l.sum := by
  induction l with
  | nil => cases h
  | cons b l ih =>
    rw [List.sum_cons]
    rcases List.mem_cons.1 h with e | e
    · subst e; omega
    · have := ih e; omega
theorem much_few {F : List Nat} (h : muchIs F = false) : F.length ≤ 300000 ∧ ∀ a ∈ F, a ≤ 300000 := by
  unfold muchIs at h
  have h1 := of_decide_eq_false h
  have h2 := much_sum F F.length (by omega)
  exact ⟨by omega, fun a ha => by have := sum_mem ha; omega⟩

theorem RowsAt.chg {S : Nat → Prop} {W W' : World} {B : Nat} {v : Value} {L : List (Value × List OP)} (h : RowsAt W B v L) (hc : Chg S W W') (hS : ∀ k, B ≤ k → ¬ S k) : RowsAt W' B v L :=
  ⟨ownsRow_mod h.row hc fun g hg => hS g (h.row.lt g hg).1, fun x hx => (h.each x hx).mod hc (fun g hg => hS g ((h.each x hx).row.lt g hg).1) (fun y hy g hg => hS g (((h.each x hx).dat y hy).lt g hg).1)⟩

abbrev LR := List (Value × List OP)
def lr0 : Value × List OP := (.slice none 0 0, [])
theorem lr_at {L : LR} {j : Nat} (h : j < L.length) : L.getD j lr0 = L[j]'h := by rw [List.getD_eq_getElem?_getD, List.getElem?_eq_getElem h]; rfl
/-- The rows, the bytes that are in the book, behind i rows of each of two answers. -/
def psTo (A B : LR) : Nat → List Value
  | 0 => []
  | i + 1 => (psTo A B i ++ [(A.getD i lr0).1]) ++ [(B.getD i lr0).1]
def bsTo (A B : LR) : Nat → List Value
  | 0 => []
  | i + 1 => (bsTo A B i ++ (A.getD i lr0).2.map (·.2)) ++ (B.getD i lr0).2.map (·.2)
theorem ps_len (A B : LR) : ∀ i, (psTo A B i).length = 2 * i
  | 0 => rfl
  | i + 1 => by
    show ((psTo A B i ++ _) ++ _).length = _
    rw [List.length_append, List.length_append, ps_len A B i]
    simp
    omega
theorem ps_mem {A B : LR} {y : Value} : ∀ {i}, y ∈ psTo A B i → ∃ j, j < i ∧ (y = (A.getD j lr0).1 ∨ y = (B.getD j lr0).1)
  | 0, h => by cases h
  | i + 1, h => by
    have h' : y ∈ (psTo A B i ++ [(A.getD i lr0).1]) ++ [(B.getD i lr0).1] := h
    rcases List.mem_append.1 h' with h' | h'
    · rcases List.mem_append.1 h' with h' | h'
      · obtain ⟨j, hj, e⟩ := ps_mem h'
        exact ⟨j, by omega, e⟩
      · exact ⟨i, by omega, .inl (by simpa using h')⟩
    · exact ⟨i, by omega, .inr (by simpa using h')⟩
theorem bs_mem {A B : LR} {y : Value} : ∀ {i}, y ∈ bsTo A B i → ∃ j, j < i ∧ ((∃ a ∈ (A.getD j lr0).2, y = a.2) ∨ ∃ b ∈ (B.getD j lr0).2, y = b.2)
  | 0, h => by cases h
  | i + 1, h => by
    have h' : y ∈ (bsTo A B i ++ (A.getD i lr0).2.map (·.2)) ++ (B.getD i lr0).2.map (·.2) := h
    rcases List.mem_append.1 h' with h' | h'
    · rcases List.mem_append.1 h' with h' | h'
      · obtain ⟨j, hj, e⟩ := bs_mem h'
        exact ⟨j, by omega, e⟩
      · obtain ⟨a, ha, rfl⟩ := List.mem_map.1 h'
        exact ⟨i, by omega, .inl ⟨a, ha, rfl⟩⟩
    · obtain ⟨a, ha, rfl⟩ := List.mem_map.1 h'
      exact ⟨i, by omega, .inr ⟨a, ha, rfl⟩⟩

/-- Two answers that share no memory. -/
structure Two (A B : LR) (m : Nat) : Prop where
  a : Apart A
  b : Apart B
  alt : ∀ x ∈ A, (∀ g, x.1.ownBlock = some g → g < m) ∧ ∀ y ∈ x.2, ∀ g, y.2.ownBlock = some g → g < m
  bge : ∀ x ∈ B, (∀ g, x.1.ownBlock = some g → m ≤ g) ∧ ∀ y ∈ x.2, ∀ g, y.2.ownBlock = some g → m ≤ g
  len : A.length = B.length

theorem Two.psA {A B : LR} {m i : Nat} (h : Two A B m) (hi : i < A.length) : OffAll (psTo A B i) (A[i]'hi).1 := fun y hy g hg e => by
  obtain ⟨j, hj, hh⟩ := ps_mem hy
  rcases hh with rfl | rfl
  · rw [lr_at (show j < A.length by omega)] at hg
    exact List.pairwise_iff_getElem.1 h.a.heads j i (by omega) hi hj g hg e
  · have hjb : j < B.length := by have := h.len; omega
    rw [lr_at hjb] at hg
    have h1 := (h.bge _ (List.getElem_mem hjb)).1 g hg
    have h2 := (h.alt _ (List.getElem_mem hi)).1 g e
    omega
theorem Two.psB {A B : LR} {m i : Nat} (h : Two A B m) (hi : i < A.length) (hib : i < B.length) : OffAll (psTo A B i ++ [(A[i]'hi).1]) (B[i]'hib).1 := fun y hy g hg e => by
  have h2 := (h.bge _ (List.getElem_mem hib)).1 g e
  rcases List.mem_append.1 hy with hy | hy
  · obtain ⟨j, hj, hh⟩ := ps_mem hy
    rcases hh with rfl | rfl
    · have hja : j < A.length := by omega
      rw [lr_at hja] at hg
      have h1 := (h.alt _ (List.getElem_mem hja)).1 g hg
      omega
    · have hjb : j < B.length := by omega
      rw [lr_at hjb] at hg
      exact List.pairwise_iff_getElem.1 h.b.heads j i hjb hib hj g hg e
  · rw [List.mem_singleton] at hy
    rw [hy] at hg
    have h1 := (h.alt _ (List.getElem_mem hi)).1 g hg
    omega
theorem Two.bsA {A B : LR} {m i : Nat} (h : Two A B m) (hi : i < A.length) : ∀ x ∈ (A[i]'hi).2, OffAll (bsTo A B i) x.2 := fun x hx y hy g hg e => by
  have h2 := (h.alt _ (List.getElem_mem hi)).2 x hx g e
  obtain ⟨j, hj, hh⟩ := bs_mem hy
  rcases hh with ⟨a, ha, rfl⟩ | ⟨b, hb, rfl⟩
  · have hja : j < A.length := by omega
    rw [lr_at hja] at ha
    exact List.pairwise_iff_getElem.1 h.a.dats j i hja hi hj a ha x hx g hg e
  · have hjb : j < B.length := by have := h.len; omega
    rw [lr_at hjb] at hb
    have h1 := (h.bge _ (List.getElem_mem hjb)).2 b hb g hg
    omega
theorem Two.bsB {A B : LR} {m i : Nat} (h : Two A B m) (hi : i < A.length) (hib : i < B.length) : ∀ x ∈ (B[i]'hib).2, OffAll (bsTo A B i ++ (A[i]'hi).2.map (·.2)) x.2 := fun x hx y hy g hg e => by
  have h2 := (h.bge _ (List.getElem_mem hib)).2 x hx g e
  rcases List.mem_append.1 hy with hy | hy
  · obtain ⟨j, hj, hh⟩ := bs_mem hy
    rcases hh with ⟨a, ha, rfl⟩ | ⟨b, hb, rfl⟩
    · have hja : j < A.length := by omega
      rw [lr_at hja] at ha
      have h1 := (h.alt _ (List.getElem_mem hja)).2 a ha g hg
      omega
    · have hjb : j < B.length := by omega
      rw [lr_at hjb] at hb
      exact List.pairwise_iff_getElem.1 h.b.dats j i hjb hib hj b hb x hx g hg e
  · obtain ⟨a, ha, rfl⟩ := List.mem_map.1 hy
    have h1 := (h.alt _ (List.getElem_mem hi)).2 a ha g hg
    omega

/-- How many there are in the book. -/
theorem bs_len {A B : LR} {n : Nat} (hA : ∀ x ∈ A, x.2.length ≤ n) (hB : ∀ x ∈ B, x.2.length ≤ n) : ∀ i, (bsTo A B i).length ≤ 2 * n * i
  | 0 => Nat.le_refl _
  | i + 1 => by
    show ((bsTo A B i ++ _) ++ _).length ≤ _
    rw [List.length_append, List.length_append, List.length_map, List.length_map]
    have h := bs_len hA hB i
    have g : ∀ (L : LR), (∀ x ∈ L, x.2.length ≤ n) → (L.getD i lr0).2.length ≤ n := fun L hL => by
      by_cases hi : i < L.length
      · rw [lr_at hi]; exact hL _ (List.getElem_mem hi)
      · rw [List.getD_eq_getElem?_getD, List.getElem?_eq_none (by omega)]
        exact Nat.zero_le _
    have h1 := g A hA
    have h2 := g B hB
    rw [Nat.mul_succ]
    omega

theorem rows_cell {wx : World} {B : Nat} {a : Option Addr} {n c : Nat} {L : List (Value × List OP)} (h : RowsAt wx B (.slice a n c) L) (hl : 0 < L.length) : ∃ g, a = some ⟨g, 0, none⟩ ∧ g < wx.heap.size ∧ ∀ j (hj : j < L.length), wx.cell? ⟨g, j, none⟩ = some (L[j]'hj).1 := by
  obtain ⟨g, cap, hve, hB, hg, hc, -⟩ := ownsRow_cell h.row hl
  simp only [Value.slice.injEq] at hve
  obtain ⟨rfl, -, rfl⟩ := hve
  refine ⟨g, rfl, hg, fun j hj => ?_⟩
  rw [hc j hj, List.getElem?_map, List.getElem?_eq_getElem hj]
  rfl
theorem rows_cellAt {wx : World} {B g n c : Nat} {L : List (Value × List OP)} (h : RowsAt wx B (.slice (some ⟨g, 0, none⟩) n c) L) {j : Nat} (hj : j < L.length) {u : Value} (hu : (L[j]'hj).1 = u) : wx.cell? ⟨g, j, none⟩ = some u := by
  obtain ⟨g', e, -, hc⟩ := rows_cell h (by omega)
  simp only [Option.some.injEq, Addr.mk.injEq, and_true] at e
  subst e
  rw [← hu]
  exact hc j hj

theorem bks_below {W W' : World} {K : Nat} (h : Chg (BkS W K) W W') (hK : K ≤ W.heap.size) : Below K W W' := h.below fun k hk => ⟨Nat.lt_of_lt_of_le hk hK, fun ⟨h1, _⟩ => by omega⟩

end Go.Proofs.YtkcfmkhakghniaaGreat
