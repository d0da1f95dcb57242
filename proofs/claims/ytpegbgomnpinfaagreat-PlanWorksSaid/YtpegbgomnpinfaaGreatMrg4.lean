/- Several texts in one: PlnA, PlnB, PlnM. -/
import Derived.Test.YtpegbgomnpinfaaGreatMrg2
import Derived.Test.YtpegbgomnpinfaaGreatMrg3
/- Patches and rows of bools, to be read; the library's searches in them. -/
set_option linter.unusedVariables false
namespace Go.Proofs.YtpegbgomnpinfaaGreat
open Go.RowKit

/-- A patch. -/
structure Pat where
  m : Int
  r : Int
  d : List UInt8

def patVal (m r : Int) (u : Value) : Value := .agg #[.int .i64 m, .int .i64 r, u]

/-- The patch p in the cells b, o. -/
structure PatAt (w : World) (b o : Nat) (p : Pat) : Prop where
  m : w.cell? ⟨b, o, none⟩ = some (.int .i64 p.m)
  r : w.cell? ⟨b, o + 1, none⟩ = some (.int .i64 p.r)
  d : ∃ u, w.cell? ⟨b, o + 2, none⟩ = some u ∧ Seg w u p.d

/-- A slice of patches, to be read. -/
def PSeg (w : World) (v : Value) (ps : List Pat) : Prop :=
  ∃ a c, v = .slice a ps.length c ∧ ps.length ≤ 140737488355328 ∧ (∀ p ∈ ps, p.d.length ≤ 140737488355000) ∧ (ps = [] ∨ ∃ b o, a = some ⟨b, o, none⟩ ∧ b < w.heap.size ∧ ∀ j (h : j < ps.length), PatAt w b (o + j * 3) ps[j])

theorem PatAt.below {w w' : World} {b o : Nat} {p : Pat} (h : PatAt w b o p) (hlt : b < w.heap.size) (hb : Below w.heap.size w w') : PatAt w' b o p := by
  obtain ⟨h1, h2, u, h3, h4⟩ := h
  exact ⟨(hb.cell (p := ⟨b, o, none⟩) hlt).trans h1, (hb.cell (p := ⟨b, o + 1, none⟩) hlt).trans h2, u, (hb.cell (p := ⟨b, o + 2, none⟩) hlt).trans h3, h4.below hb⟩

theorem PSeg.below {w w' : World} {v : Value} {ps : List Pat} (h : PSeg w v ps) (hb : Below w.heap.size w w') : PSeg w' v ps := by
  obtain ⟨a, c, h1, h2, h2', h3⟩ := h
  refine ⟨a, c, h1, h2, h2', ?_⟩
  rcases h3 with h3 | ⟨b, o, h4, h5, h6⟩
  · exact .inl h3
  · exact .inr ⟨b, o, h4, Nat.lt_of_lt_of_le h5 hb.size, fun j hj => (h6 j hj).below h5 hb⟩
theorem PSeg.shape {w : World} {v : Value} {ps : List Pat} (h : PSeg w v ps) : ∃ a c, v = .slice a ps.length c := by
  obtain ⟨a, c, h1, _⟩ := h
  exact ⟨a, c, h1⟩
theorem PSeg.few {w : World} {v : Value} {ps : List Pat} (h : PSeg w v ps) : ps.length ≤ 140737488355328 := by
  obtain ⟨a, c, h1, h2, _⟩ := h
  exact h2
theorem PSeg.full {w : World} {a : Option Addr} {n c : Nat} {ps : List Pat} (h : PSeg w (.slice a n c) ps) (hl : 0 < ps.length) : ∃ b o, a = some ⟨b, o, none⟩ ∧ b < w.heap.size ∧ ∀ j (h : j < ps.length), PatAt w b (o + j * 3) ps[j] := by
  obtain ⟨a', c', h1, h2, h2', h3⟩ := h
  simp only [Value.slice.injEq] at h1
  obtain ⟨rfl, -, rfl⟩ := h1
  rcases h3 with h3 | h3
  · subst h3; simp at hl
  · exact h3
theorem PSeg.nil (w : World) : PSeg w (.slice none 0 0) [] := ⟨none, 0, rfl, by simp, by simp, .inl rfl⟩

/-- A slice of M bools: d. -/
def BSeg (w : World) (v : Value) (d : Nat → Bool) (M : Nat) : Prop :=
  ∃ a c, v = .slice a M c ∧ (M = 0 ∨ ∃ b o, a = some ⟨b, o, none⟩ ∧ b < w.heap.size ∧ ∀ j, j < M → w.cell? ⟨b, o + j, none⟩ = some (.bool (d j)))
theorem BSeg.below {w w' : World} {v : Value} {d : Nat → Bool} {M : Nat} (h : BSeg w v d M) (hb : Below w.heap.size w w') : BSeg w' v d M := by
  obtain ⟨a, c, h1, h2⟩ := h
  refine ⟨a, c, h1, ?_⟩
  rcases h2 with h2 | ⟨b, o, h3, h4, h5⟩
  · exact .inl h2
  · exact .inr ⟨b, o, h3, Nat.lt_of_lt_of_le h4 hb.size, fun j hj => (hb.cell (p := ⟨b, o + j, none⟩) h4).trans (h5 j hj)⟩
theorem BSeg.shape {w : World} {v : Value} {d : Nat → Bool} {M : Nat} (h : BSeg w v d M) : ∃ a c, v = .slice a M c := by
  obtain ⟨a, c, h1, _⟩ := h
  exact ⟨a, c, h1⟩
theorem BSeg.full {w : World} {v : Value} {d : Nat → Bool} {M : Nat} (h : BSeg w v d M) (hM : 0 < M) : ∃ b o c, v = .slice (some ⟨b, o, none⟩) M c ∧ b < w.heap.size ∧ ∀ j, j < M → w.cell? ⟨b, o + j, none⟩ = some (.bool (d j)) := by
  obtain ⟨a, c, h1, h2⟩ := h
  rcases h2 with h2 | ⟨b, o, rfl, h4, h5⟩
  · omega
  · exact ⟨b, o, c, h1, h4, h5⟩

/-- Where the first true one is; -1: nowhere. -/
def GoneIs (d : Nat → Bool) (M : Nat) (z : Int) : Prop := (∃ k : Nat, z = k ∧ k < M ∧ d k = true ∧ ∀ i, i < k → d i = false) ∨ (z = -1 ∧ ∀ i, i < M → d i = false)

set_option maxRecDepth 100000 in
set_option maxHeartbeats 1000000 in
theorem index_bools (v : Value) (d : Nat → Bool) (M : Nat) (w : World) (h : BSeg w v d M) (hM : M ≤ 1000000) :
    Calls Tryz.prog 144 #[v, .bool true] w fun e w' => w' = w ∧ ∃ z : Int, e = .returned (.int .i64 z) ∧ GoneIs d M z := by
  obtain ⟨a, c, rfl⟩ := h.shape
  have H := Lib.hid h
  clear h
  go_enter Tryz.func144, Tryz.ntmps144
  go_wp2
  go_loopw [8] (fun q wr => ∃ k : Nat, k ≤ M ∧ q = .int .i64 k ∧ (∀ i, i < k → d i = false) ∧ wr = w) (fun q _ => M - (intOf q).toNat)
  case atStart => exact ⟨0, by omega, rfl, fun i hi => by omega, rfl⟩
  case round =>
    obtain ⟨k, hk, rfl, hz, rfl⟩ := hrel
    have HZ := Lib.hid hz
    clear hz
    by_cases hkn : k < M
    · obtain ⟨b, o, c', hve, hlt, hx⟩ := H.out.full (by omega)
      simp only [Value.slice.injEq] at hve
      obtain ⟨rfl, -, rfl⟩ := hve
      have d0 := hx k hkn
      have K1 : Hid (k + 1 ≤ M) := hkn
      clear hx
      cases hq : d k
      · rw [hq] at d0
        have HY : Hid (∀ i, i < k + 1 → d i = false) := fun i hi => by
          by_cases hik : i = k
          · subst hik; exact hq
          · exact HZ.out i (by omega)
        clear hq
        go_wp2
        exact ⟨⟨k + 1, K1.out, by go_num, HY.out, trivial⟩, by simp [intOf]; omega⟩
      · rw [hq] at d0
        have HQ := Lib.hid hq
        clear hq
        go_wp2
        go_ret
        exact ⟨rfl, _, rfl, .inl ⟨k, rfl, hkn, HQ.out, HZ.out⟩⟩
    · obtain rfl : k = M := by omega
      go_wp2
      go_ret
      exact ⟨rfl, _, rfl, .inr ⟨rfl, HZ.out⟩⟩

set_option maxHeartbeats 1000000 in
theorem short_do (x y : Int) (a : Option Addr) (n c : Nat) (w : World) (hn : n ≤ 140737488355000) : Calls Tryz.prog 138 #[.agg #[.int .i64 x, .int .i64 y, .slice a n c]] w fun e w' => e = .returned (.bool (decide (n ≠ 128))) ∧ Below w.heap.size w w' := by
  have hx : ((n : Int) != 128) = decide (n ≠ 128) := by
    by_cases h : n = 128
    · subst h; rfl
    · rw [decide_eq_true h, bne_iff_ne]; omega
  generalize (decide (n ≠ 128)) = q at *
  go_enter Tryz.func138, Tryz.ntmps138
  go_wp2
  go_ret
  exact ⟨rfl, (Below.refl _ _).alloc (Nat.le_refl _) _⟩

set_option maxHeartbeats 1000000 in
theorem given_do (x y m : Int) (u : Value) (g : Nat) (w : World) (hg : At w g #[.int .i64 m] 3) : Calls Tryz.prog 170 #[.agg #[.int .i64 x, .int .i64 y, u], .pointer (some ⟨g, 0, none⟩)] w fun e w' => e = .returned (.bool (x == m)) ∧ Below w.heap.size w w' := by
  have c0 : w.cell? ⟨g, 0, none⟩ = some (.int .i64 m) := hg.cell 0
  have hlt := hg.lt
  clear hg
  go_enter Tryz.func170, Tryz.ntmps170
  go_wp2
  go_ret
  exact ⟨rfl, (Below.refl _ _).alloc (Nat.le_refl _) _⟩

/-- Where a search ends. -/
def Found (q : Pat → Bool) (ps : List Pat) (z : Int) : Prop := (0 ≤ z ∧ ps.any q = true) ∨ (z = -1 ∧ ps.any q = false)

theorem any_take_succ {ps : List Pat} {q : Pat → Bool} {k : Nat} (hk : k < ps.length) (h : (ps.take k).any q = false) (hq : q ps[k] = false) : (ps.take (k + 1)).any q = false := by
  rw [← List.take_append_getElem (h := hk), List.any_append, h, List.any_cons, hq]
  rfl

set_option maxRecDepth 100000 in
set_option maxHeartbeats 2000000 in
theorem index_short (v : Value) (ps : List Pat) (w : World) (h : PSeg w v ps) :
    Calls Tryz.prog 169 #[v, .func (.func 138) #[] #[]] w fun e w' => Below w.heap.size w w' ∧ ∃ z : Int, e = .returned (.int .i64 z) ∧ Found (fun p => decide (p.d.length ≠ 128)) ps z := by
  obtain ⟨a, c, rfl⟩ := h.shape
  have hn := h.few
  have hdl : ∀ p ∈ ps, p.d.length ≤ 140737488355000 := by obtain ⟨_, _, _, _, h, _⟩ := h; exact h
  have HD := Lib.hid hdl
  have H := Lib.hid h
  clear h hdl
  go_enter Tryz.func169, Tryz.ntmps169
  go_wp2
  go_loopw [8] (fun q wr => ∃ k : Nat, k ≤ ps.length ∧ q = .int .i64 k ∧ (ps.take k).any (fun p => decide (p.d.length ≠ 128)) = false ∧ Below w.heap.size w wr) (fun q _ => ps.length - (intOf q).toNat)
  case atStart => exact ⟨0, by omega, rfl, by simp, Below.refl _ _⟩
  case round =>
    obtain ⟨k, hk, rfl, hz, hbw⟩ := hrel
    have HZ := Lib.hid hz
    clear hz
    by_cases hkn : k < ps.length
    · obtain ⟨b, o, rfl, hlt, hx⟩ := PSeg.full (H.out.below hbw) (by omega)
      obtain ⟨c0, c1, u, c2, hu⟩ := hx k hkn
      obtain ⟨ua, uc, rfl⟩ := hu.shape
      have K1 : Hid (k + 1 ≤ ps.length) := hkn
      have HC := Lib.hid (short_do ps[k].m ps[k].r ua ps[k].d.length uc wr (HD.out _ (List.getElem_mem hkn)))
      clear hx hu
      cases hq : decide (ps[k].d.length ≠ 128)
      · rw [hq] at HC
        have HY := Lib.hid (any_take_succ (q := fun p => decide (p.d.length ≠ 128)) hkn HZ.out hq)
        clear hq
        generalize ps[k].d.length = n at *
        generalize ps[k].m = x at *
        generalize ps[k].r = y at *
        go_wp2_with (go_at_call 138; (with_reducible refine HC.out.mono ?_); rintro e w2 ⟨rfl, hb2⟩)
        exact ⟨⟨k + 1, K1.out, by go_num, HY.out, below_then hbw hb2⟩, by simp [intOf]; omega⟩
      · rw [hq] at HC
        have HY : Hid (ps.any (fun p => decide (p.d.length ≠ 128)) = true) := List.any_eq_true.2 ⟨_, List.getElem_mem hkn, hq⟩
        clear hq
        generalize ps[k].d.length = n at *
        generalize ps[k].m = x at *
        generalize ps[k].r = y at *
        go_wp2_with (go_at_call 138; (with_reducible refine HC.out.mono ?_); rintro e w2 ⟨rfl, hb2⟩)
        go_ret
        exact ⟨below_then hbw hb2, _, rfl, .inl ⟨by omega, HY.out⟩⟩
    · obtain rfl : k = ps.length := by omega
      go_wp2
      go_ret
      refine ⟨hbw, _, rfl, .inr ⟨rfl, ?_⟩⟩
      have := HZ.out
      rwa [List.take_length] at this

set_option maxRecDepth 100000 in
set_option maxHeartbeats 2000000 in
theorem index_given (v : Value) (ps : List Pat) (m : Int) (g : Nat) (w : World) (h : PSeg w v ps) (hg : At w g #[.int .i64 m] 3) :
    Calls Tryz.prog 169 #[v, .func (.func 170) #[] #[.pointer (some ⟨g, 0, none⟩)]] w fun e w' => Below w.heap.size w w' ∧ ∃ z : Int, e = .returned (.int .i64 z) ∧ Found (fun p => p.m == m) ps z := by
  obtain ⟨a, c, rfl⟩ := h.shape
  have hn := h.few
  have HG := Lib.hid hg
  have H := Lib.hid h
  clear h hg
  go_enter Tryz.func169, Tryz.ntmps169
  go_wp2
  go_loopw [8] (fun q wr => ∃ k : Nat, k ≤ ps.length ∧ q = .int .i64 k ∧ (ps.take k).any (fun p => p.m == m) = false ∧ Below w.heap.size w wr) (fun q _ => ps.length - (intOf q).toNat)
  case atStart => exact ⟨0, by omega, rfl, by simp, Below.refl _ _⟩
  case round =>
    obtain ⟨k, hk, rfl, hz, hbw⟩ := hrel
    have HZ := Lib.hid hz
    clear hz
    by_cases hkn : k < ps.length
    · obtain ⟨b, o, rfl, hlt, hx⟩ := PSeg.full (H.out.below hbw) (by omega)
      obtain ⟨c0, c1, u, c2, hu⟩ := hx k hkn
      obtain ⟨ua, uc, rfl⟩ := hu.shape
      have K1 : Hid (k + 1 ≤ ps.length) := hkn
      have HC := Lib.hid (given_do ps[k].m ps[k].r m (.slice ua ps[k].d.length uc) g wr (HG.out.below hbw HG.out.lt))
      clear hx hu
      cases hq : (ps[k].m == m)
      · rw [hq] at HC
        have HY := Lib.hid (any_take_succ (q := fun p => p.m == m) hkn HZ.out hq)
        clear hq
        generalize ps[k].d.length = n at *
        generalize ps[k].m = x at *
        generalize ps[k].r = y at *
        go_wp2_with (go_at_call 170; (with_reducible refine HC.out.mono ?_); rintro e w2 ⟨rfl, hb2⟩)
        exact ⟨⟨k + 1, K1.out, by go_num, HY.out, below_then hbw hb2⟩, by simp [intOf]; omega⟩
      · rw [hq] at HC
        have HY : Hid (ps.any (fun p => p.m == m) = true) := List.any_eq_true.2 ⟨_, List.getElem_mem hkn, hq⟩
        clear hq
        generalize ps[k].d.length = n at *
        generalize ps[k].m = x at *
        generalize ps[k].r = y at *
        go_wp2_with (go_at_call 170; (with_reducible refine HC.out.mono ?_); rintro e w2 ⟨rfl, hb2⟩)
        go_ret
        exact ⟨below_then hbw hb2, _, rfl, .inl ⟨by omega, HY.out⟩⟩
    · obtain rfl : k = ps.length := by omega
      go_wp2
      go_ret
      refine ⟨hbw, _, rfl, .inr ⟨rfl, ?_⟩⟩
      have := HZ.out
      rwa [List.take_length] at this

set_option maxHeartbeats 1000000 in
theorem contains_short (v : Value) (ps : List Pat) (w : World) (h : PSeg w v ps) :
    Calls Tryz.prog 139 #[v, .func (.func 138) #[] #[]] w fun e w' => e = .returned (.bool (ps.any fun p => decide (p.d.length ≠ 128))) ∧ Below w.heap.size w w' := by
  have hi := Lib.hid (index_short v ps w h)
  obtain ⟨a, c, rfl⟩ := h.shape
  clear h
  go_enter Tryz.func139, Tryz.ntmps139
  go_wp2_with (go_at_call 169; (with_reducible refine hi.out.mono ?_); rintro e w2 ⟨hb, z, rfl, hz⟩)
  go_ret
  refine ⟨?_, hb⟩
  rcases hz with ⟨h1, h2⟩ | ⟨h1, h2⟩
  · rw [h2]; simp [h1]
  · rw [h2]; simp [h1]

set_option maxHeartbeats 1000000 in
theorem contains_given (v : Value) (ps : List Pat) (m : Int) (g : Nat) (w : World) (h : PSeg w v ps) (hg : At w g #[.int .i64 m] 3) :
    Calls Tryz.prog 139 #[v, .func (.func 170) #[] #[.pointer (some ⟨g, 0, none⟩)]] w fun e w' => e = .returned (.bool (ps.any fun p => p.m == m)) ∧ Below w.heap.size w w' := by
  have hi := Lib.hid (index_given v ps m g w h hg)
  obtain ⟨a, c, rfl⟩ := h.shape
  clear h hg
  go_enter Tryz.func139, Tryz.ntmps139
  go_wp2_with (go_at_call 169; (with_reducible refine hi.out.mono ?_); rintro e w2 ⟨hb, z, rfl, hz⟩)
  go_ret
  refine ⟨?_, hb⟩
  rcases hz with ⟨h1, h2⟩ | ⟨h1, h2⟩
  · rw [h2]; simp [h1]
  · rw [h2]; simp [h1]

end Go.Proofs.YtpegbgomnpinfaaGreat

/- Geometries: the member of a chunk; what lies where. -/
set_option linter.unusedVariables false
namespace Go.Proofs.YtpegbgomnpinfaaGreat
open Go.RowKit

/-- The member that has the i-th chunk of a stripe. -/
def memOf (M t i : Nat) : Nat := (M - 1 - t % M + 1 + i) % M

set_option maxRecDepth 100000 in
set_option maxHeartbeats 2000000 in
theorem shape_member (M C S t i : Nat) (d : Int) (w : World) (h : geoIs M C S = true) (ht : t ≤ 4096) (hi : i ≤ 4096) : Calls Tryz.prog 155 #[shp M C S d, .int .i64 t, .int .i64 i] w fun e w' => e = .returned (.int .i64 (memOf M t i : Nat)) ∧ Below w.heap.size w w' := by
  obtain ⟨h1, h2, h3, h4, h5, h6⟩ := (geoIs_iff M C S).1 h
  have hp := Lib.hid (fun W => shape_parity M C S t d W h ht)
  have hlt : t % M < M := Nat.mod_lt _ (by omega)
  unfold memOf
  have hq : M - 1 - t % M ≤ 16 := by omega
  generalize hqq : M - 1 - t % M = q at *
  have hM0 : ¬ M = 0 := by omega
  have hM1 : ¬ (M : Int) = 0 := by omega
  have e1 : Int.tmod ((q : Int) + 1 + (i : Int)) (M : Int) = (((q + 1 + i) % M : Nat) : Int) := by
    rw [show (q : Int) + 1 + (i : Int) = ((q + 1 + i : Nat) : Int) by omega]; rfl
  have hr : (q + 1 + i) % M < M := Nat.mod_lt _ (by omega)
  have hw1 : IntKind.i64.wrap ((q : Int) + 1) = (q : Int) + 1 := (IntWalk.i64_left _).trans (IntWalk.wrap64_in _ ⟨by omega, by omega⟩)
  have hw2 : IntKind.i64.wrap ((q : Int) + 1 + (i : Int)) = (q : Int) + 1 + (i : Int) := (IntWalk.i64_left _).trans (IntWalk.wrap64_in _ ⟨by omega, by omega⟩)
  have hw3 : IntKind.i64.wrap (((q + 1 + i) % M : Nat) : Int) = (((q + 1 + i) % M : Nat) : Int) := (IntWalk.i64_left _).trans (IntWalk.wrap64_in _ ⟨by omega, by omega⟩)
  generalize (q + 1 + i) % M = x at *
  unfold shp at *
  clear hqq hlt
  have HA : Hid (At (w.alloc (.cells #[.int .i64 M, .int .i64 C, .int .i64 S, .int .i64 d] 240)) w.heap.size #[.int .i64 M, .int .i64 C, .int .i64 S, .int .i64 d] 240) := At.new _ _ _
  have hb0 : Below w.heap.size w (w.alloc (.cells #[.int .i64 M, .int .i64 C, .int .i64 S, .int .i64 d] 240)) := (Below.refl _ _).alloc (Nat.le_refl _) _
  have HH : Hid (∀ X, At X w.heap.size #[.int .i64 M, .int .i64 C, .int .i64 S, .int .i64 d] 240 → X.cell? ⟨w.heap.size, 0, none⟩ = some (.int .i64 M) ∧ X.cell? ⟨w.heap.size, 1, none⟩ = some (.int .i64 C) ∧ X.cell? ⟨w.heap.size, 2, none⟩ = some (.int .i64 S) ∧ X.cell? ⟨w.heap.size, 3, none⟩ = some (.int .i64 d)) := fun X h => ⟨h.cell 0, h.cell 1, h.cell 2, h.cell 3⟩
  go_enter Tryz.func155, Tryz.ntmps155
  go_wp2
  go_region_held3 (fun w' => w'.cell? ⟨w.heap.size, 0, none⟩ = some (.int .i64 M) ∧ w'.cell? ⟨w.heap.size, 1, none⟩ = some (.int .i64 C) ∧ w'.cell? ⟨w.heap.size, 2, none⟩ = some (.int .i64 S) ∧ w'.cell? ⟨w.heap.size, 3, none⟩ = some (.int .i64 d))
    (first | exact HH.out _ HA.out | exact HH.out _ HA.out.drew | exact HH.out _ HB.out)
    (first | (go_at_call 162; (with_reducible refine (hp.out _).mono ?_); rintro e w3 ⟨rfl, hb3⟩; have HB := Lib.hid (HA.out.drew.below hb3 HA.out.lt)))
  go_wp2
  go_ret
  exact ⟨rfl, below_then hb0.drew hb3⟩

set_option maxRecDepth 100000 in
set_option maxHeartbeats 4000000 in
theorem geom_at_ok (M C S m r : Nat) (w : World) (h : geoIs M C S = true) (hm : m < M) (hr : r < S * C) : Calls Tryz.prog 108 #[geo M C S, .int .i64 m, .int .i64 r] w fun e w' => (∃ b p, e = .returned (.tuple #[.int .i64 b, .bool p, .int .u16 0])) ∧ Below w.heap.size w w' := by
  obtain ⟨h1, h2, h3, h4, h5, h6⟩ := (geoIs_iff M C S).1 h
  have hk := Lib.hid (fun W => geom_of M C S W)
  have hro := Lib.hid (fun d W => shape_rows M C S d W h)
  obtain ⟨hlo, hhi⟩ := geo_bounds h
  have hr' : (r : Int) < (S : Int) * (C : Int) := by exact_mod_cast hr
  have hdiv : r / C ≤ r := Nat.div_le_self _ _
  have hr2 : r / C ≤ 4096 := by omega
  have hme := Lib.hid (fun d W => shape_member M C S (r / C) 0 d W h hr2 (by omega))
  have hd' : ((r / C : Nat) : Int) = (r : Int) / (C : Int) := Int.natCast_ediv r C
  unfold geoCode at hk
  rw [h] at hk
  simp only [if_true] at hk
  have hml : memOf M (r / C) 0 < M := Nat.mod_lt _ (by omega)
  generalize memOf M (r / C) 0 = z at *
  rw [hd'] at hme
  simp only [show ((0 : Nat) : Int) = 0 from rfl] at hme
  have hq1 : 0 ≤ (r : Int) / (C : Int) := by rw [← hd']; exact Int.natCast_nonneg _
  have hq2 : (r : Int) / (C : Int) ≤ 4096 := by rw [← hd']; omega
  have hw : RowKit.wrap64 ((r : Int) / (C : Int)) = (r : Int) / (C : Int) := IntWalk.wrap64_in _ ⟨by omega, by omega⟩
  have hw' : IntKind.i64.wrap ((r : Int) / (C : Int)) = (r : Int) / (C : Int) := (IntWalk.i64_left _).trans hw
  have hC0 : ¬ C = 0 := by omega
  have hC1 : ¬ (C : Int) = 0 := by omega
  have hM0 : ¬ M = 0 := by omega
  have hM1 : ¬ (M : Int) = 0 := by omega
  have hmm : ((m : Int) - (z : Int)) + (M : Int) = ((m + M - z : Nat) : Int) := by omega
  clear hd'
  unfold geo shp at *
  generalize (S : Int) * (C : Int) = q at *
  go_enter Tryz.func108, Tryz.ntmps108
  go_wp2_with (first
    | (go_at_call 153; (with_reducible refine (hk.out _).mono ?_); rintro e w1 ⟨d, rfl, hd, hb1⟩)
    | (go_at_call 154; (with_reducible refine (hro.out _ _).mono ?_); rintro e w2 ⟨rfl, hb2⟩; have hA2 : At w2 w1.heap.size #[.int .i64 M, .int .i64 C, .int .i64 S, .int .i64 ((M : Int) - 1)] 240 := (At.new w1 _ _).below hb2 (by rw [size_alloc]; omega); have hsz := hb1.size; have hbb : Below w.heap.size w w2 := below_then ((below_then ((Below.refl w.heap.size w).alloc (Nat.le_refl _) _) hb1).alloc (by rw [size_alloc] at hsz; omega) _) hb2; have e0 := hA2.cell 0; have e1 := hA2.cell 1; have e2 := hA2.cell 2; have e3 := hA2.cell 3; have HA2 := Lib.hid hA2; clear hA2 hb1 hb2))
  have HH : Hid (∀ X, At X w1.heap.size #[.int .i64 M, .int .i64 C, .int .i64 S, .int .i64 ((M : Int) - 1)] 240 → X.cell? ⟨w1.heap.size, 0, none⟩ = some (.int .i64 M) ∧ X.cell? ⟨w1.heap.size, 1, none⟩ = some (.int .i64 C) ∧ X.cell? ⟨w1.heap.size, 2, none⟩ = some (.int .i64 S) ∧ X.cell? ⟨w1.heap.size, 3, none⟩ = some (.int .i64 ((M : Int) - 1))) := fun X h => ⟨h.cell 0, h.cell 1, h.cell 2, h.cell 3⟩
  clear e0 e1 e2 e3
  go_region_held3 (fun w' => w'.cell? ⟨w1.heap.size, 0, none⟩ = some (.int .i64 M) ∧ w'.cell? ⟨w1.heap.size, 1, none⟩ = some (.int .i64 C) ∧ w'.cell? ⟨w1.heap.size, 2, none⟩ = some (.int .i64 S) ∧ w'.cell? ⟨w1.heap.size, 3, none⟩ = some (.int .i64 ((M : Int) - 1)))
    (first | exact HH.out _ HA2.out | exact HH.out _ HA2.out.drew | exact HH.out _ HB.out)
    (first | (go_at_call 155; (with_reducible refine (hme.out _ _).mono ?_); rintro e w3 ⟨rfl, hb3⟩; have HB := Lib.hid (HA2.out.drew.below hb3 HA2.out.lt)))
  have e0 := HB.out.cell 0
  have e1 := HB.out.cell 1
  have e3 := HB.out.cell 3
  generalize (IntKind.i64.wrap (IntKind.i64.wrap ((m : Int) - (z : Int)) + (M : Int))).tmod (M : Int) = j
  by_cases hj : j = (M : Int) - 1
  · have hj' : (j == (M : Int) - 1) = true := by simp [hj]
    clear hj
    go_wp2
    go_ret3
    exact ⟨⟨_, _, rfl⟩, below_then hbb.drew hb3⟩
  · have hj' : (j == (M : Int) - 1) = false := by simp [hj]
    clear hj
    go_wp2
    go_quiet (fail)
    go_wp2
    go_ret3
    exact ⟨⟨_, _, rfl⟩, below_drewN (below_then hbb.drew hb3) _⟩

end Go.Proofs.YtpegbgomnpinfaaGreat

/- geom.Of: where a block lies. -/
set_option linter.unusedVariables false
namespace Go.Proofs.YtpegbgomnpinfaaGreat
open Go.RowKit

def placeVal (t r m p : Int) : Value := .agg #[.int .i64 t, .int .i64 r, .int .i64 m, .int .i64 p]

/-- A block's stripe, its row, its member. -/
def stripeOf (M C b : Nat) : Nat := b / ((M - 1) * C)
def rowOf (M C b : Nat) : Nat := stripeOf M C b * C + b % ((M - 1) * C) % C
def membOf (M C b : Nat) : Nat := memOf M (stripeOf M C b) (b % ((M - 1) * C) / C)

set_option maxRecDepth 100000 in
set_option maxHeartbeats 4000000 in
theorem geom_Of_form (m c s b : Int) (w : World) (h : geoIs m c s = false) : Calls Tryz.prog 171 #[geo m c s, .int .i64 b] w fun e w' => e = .returned (.tuple #[placeVal 0 0 0 0, .int .u16 60]) ∧ Below w.heap.size w w' := by
  have hk := Lib.hid (fun W => geom_of m c s W)
  unfold geoCode at hk
  rw [h] at hk
  simp only [Bool.false_eq_true, if_false] at hk
  have hb0 : Below w.heap.size w ((w.alloc (.cells #[.int .i64 m, .int .i64 c, .int .i64 s] 23)).alloc (.cells #[.int .i64 0, .int .i64 0, .int .i64 0, .int .i64 0] 258)) := ((Below.refl _ _).alloc (Nat.le_refl _) _).alloc (by rw [size_alloc]; omega) _
  have HR0 : Hid (At ((w.alloc (.cells #[.int .i64 m, .int .i64 c, .int .i64 s] 23)).alloc (.cells #[.int .i64 0, .int .i64 0, .int .i64 0, .int .i64 0] 258)) (w.heap.size + 1) #[.int .i64 0, .int .i64 0, .int .i64 0, .int .i64 0] 258) := At.new2 _ _ _ _
  unfold geo shp placeVal at *
  go_enter Tryz.func171, Tryz.ntmps171
  go_wp2_with (go_at_call 153; (with_reducible refine (hk.out _).mono ?_); rintro e w1 ⟨d, rfl, hd, hb1⟩; have hr1 := (HR0.out.below hb1 HR0.out.lt).alloc (.cells #[.int .i64 m, .int .i64 c, .int .i64 s, .int .i64 d] 240); have d0 := hr1.cell 0; have d1 := hr1.cell 1; have d2 := hr1.cell 2; have d3 := hr1.cell 3; have f0 := hr1.free 0; have f1 := hr1.free 1; have f2 := hr1.free 2; have f3 := hr1.free 3; have HR1 := Lib.hid hr1; have HB1 := Lib.hid ((below_then hb0 hb1).alloc (below_then hb0 hb1).size (.cells #[.int .i64 m, .int .i64 c, .int .i64 s, .int .i64 d] 240)); clear hr1 hb1)
  have HF := (((HR1.out.set 0 (.int .i64 0)).set 1 (.int .i64 0)).set 2 (.int .i64 0)).set 3 (.int .i64 0)
  have r0 := HF.cell 0
  have r1 := HF.cell 1
  have r2 := HF.cell 2
  have r3 := HF.cell 3
  clear d0 d1 d2 d3 f0 f1 f2 f3
  (try simp only [Exit.inBlock, Exit.then])
  refine bodyPost_ret (v := .tuple #[.agg #[.int .i64 0, .int .i64 0, .int .i64 0, .int .i64 0], .int .u16 60]) ?_ rfl ⟨rfl, (((HB1.out.setCell (p := ⟨w.heap.size + 1, 0, none⟩) (Nat.le_succ _) _).setCell (p := ⟨w.heap.size + 1, 1, none⟩) (Nat.le_succ _) _).setCell (p := ⟨w.heap.size + 1, 2, none⟩) (Nat.le_succ _) _).setCell (p := ⟨w.heap.size + 1, 3, none⟩) (Nat.le_succ _) _⟩
  rw [results_cell_tmp rfl]
  go_simp
  try rfl

set_option maxRecDepth 100000 in
set_option maxHeartbeats 4000000 in
theorem geom_Of_range (M C S : Nat) (b : Int) (w : World) (h : geoIs M C S = true) (hb : b < 0 ∨ (S : Int) * C * ((M : Int) - 1) ≤ b) : Calls Tryz.prog 171 #[geo M C S, .int .i64 b] w fun e w' => e = .returned (.tuple #[placeVal 0 0 0 0, .int .u16 3]) ∧ Below w.heap.size w w' := by
  obtain ⟨h1, h2, h3, h4, h5, h6⟩ := (geoIs_iff M C S).1 h
  have hk := Lib.hid (fun W => geom_of M C S W)
  have hro := Lib.hid (fun d W => shape_rows M C S d W h)
  obtain ⟨hlo, hhi⟩ := geo_bounds h
  unfold geoCode at hk
  rw [h] at hk
  simp only [if_true] at hk
  generalize (S : Int) * (C : Int) = q at *
  have hp0 : 0 ≤ q * ((M : Int) - 1) := Int.mul_nonneg hlo (by omega)
  have hp1 : q * ((M : Int) - 1) ≤ 4096 * 15 := Int.mul_le_mul hhi (by omega) (by omega) (by omega)
  have hpw : IntKind.i64.wrap (q * ((M : Int) - 1)) = q * ((M : Int) - 1) := (IntWalk.i64_left _).trans (IntWalk.wrap64_in _ ⟨by omega, by omega⟩)
  have hpw' : RowKit.wrap64 (q * ((M : Int) - 1)) = q * ((M : Int) - 1) := IntWalk.wrap64_in _ ⟨by omega, by omega⟩
  have hb0 : Below w.heap.size w ((w.alloc (.cells #[.int .i64 M, .int .i64 C, .int .i64 S] 23)).alloc (.cells #[.int .i64 0, .int .i64 0, .int .i64 0, .int .i64 0] 258)) := ((Below.refl _ _).alloc (Nat.le_refl _) _).alloc (by rw [size_alloc]; omega) _
  have HR0 : Hid (At ((w.alloc (.cells #[.int .i64 M, .int .i64 C, .int .i64 S] 23)).alloc (.cells #[.int .i64 0, .int .i64 0, .int .i64 0, .int .i64 0] 258)) (w.heap.size + 1) #[.int .i64 0, .int .i64 0, .int .i64 0, .int .i64 0] 258) := At.new2 _ _ _ _
  unfold geo shp placeVal at *
  by_cases hneg : b < 0
  · have hn1 : decide (b < 0) = true := decide_eq_true hneg
    clear hb
    go_enter Tryz.func171, Tryz.ntmps171
    go_wp2_with (go_at_call 153; (with_reducible refine (hk.out _).mono ?_); rintro e w1 ⟨d, rfl, hd, hb1⟩; have hr1 := (HR0.out.below hb1 HR0.out.lt).alloc (.cells #[.int .i64 M, .int .i64 C, .int .i64 S, .int .i64 ((M : Int) - 1)] 240); have HR1 := Lib.hid hr1; have HB1 := Lib.hid ((below_then hb0 hb1).alloc (below_then hb0 hb1).size (.cells #[.int .i64 M, .int .i64 C, .int .i64 S, .int .i64 ((M : Int) - 1)] 240)); have HA1 : Hid (At (w1.alloc (.cells #[.int .i64 M, .int .i64 C, .int .i64 S, .int .i64 ((M : Int) - 1)] 240)) w1.heap.size #[.int .i64 M, .int .i64 C, .int .i64 S, .int .i64 ((M : Int) - 1)] 240) := At.new _ _ _; clear hr1 hb1)
    generalize w1.alloc (.cells #[.int .i64 M, .int .i64 C, .int .i64 S, .int .i64 ((M : Int) - 1)] 240) = W1 at *
    go_quiet (fail)
    have HRX : Hid (At (W1.drewN nq) (w.heap.size + 1) #[.int .i64 0, .int .i64 0, .int .i64 0, .int .i64 0] 258) := HR1.out
    have HBX := Lib.hid (below_drewN HB1.out nq)
    generalize W1.drewN nq = W2 at *
    have HR2 : Hid (At W2 (w.heap.size + 1) #[.int .i64 0, .int .i64 0, .int .i64 0, .int .i64 0] 258) := HRX.out
    have d0 := HR2.out.cell 0
    have d1 := HR2.out.cell 1
    have d2 := HR2.out.cell 2
    have d3 := HR2.out.cell 3
    have f0 := HR2.out.free 0
    have f1 := HR2.out.free 1
    have f2 := HR2.out.free 2
    have f3 := HR2.out.free 3
    go_wp2
    have HF := (((HR2.out.set 0 (.int .i64 0)).set 1 (.int .i64 0)).set 2 (.int .i64 0)).set 3 (.int .i64 0)
    have r0 := HF.cell 0
    have r1 := HF.cell 1
    have r2 := HF.cell 2
    have r3 := HF.cell 3
    clear d0 d1 d2 d3 f0 f1 f2 f3
    (try simp only [Exit.inBlock, Exit.then])
    refine bodyPost_ret (v := .tuple #[.agg #[.int .i64 0, .int .i64 0, .int .i64 0, .int .i64 0], .int .u16 3]) ?_ rfl ⟨rfl, (((HBX.out.setCell (p := ⟨w.heap.size + 1, 0, none⟩) (Nat.le_succ _) _).setCell (p := ⟨w.heap.size + 1, 1, none⟩) (Nat.le_succ _) _).setCell (p := ⟨w.heap.size + 1, 2, none⟩) (Nat.le_succ _) _).setCell (p := ⟨w.heap.size + 1, 3, none⟩) (Nat.le_succ _) _⟩
    rw [results_cell_tmp rfl]
    go_simp
    try rfl
  · have hn1 : decide (b < 0) = false := decide_eq_false hneg
    have hn2 : decide (q * ((M : Int) - 1) ≤ b) = true := decide_eq_true (by omega)
    clear hb
    go_enter Tryz.func171, Tryz.ntmps171
    go_wp2_with (go_at_call 153; (with_reducible refine (hk.out _).mono ?_); rintro e w1 ⟨d, rfl, hd, hb1⟩; have hr1 := (HR0.out.below hb1 HR0.out.lt).alloc (.cells #[.int .i64 M, .int .i64 C, .int .i64 S, .int .i64 ((M : Int) - 1)] 240); have HR1 := Lib.hid hr1; have HB1 := Lib.hid ((below_then hb0 hb1).alloc (below_then hb0 hb1).size (.cells #[.int .i64 M, .int .i64 C, .int .i64 S, .int .i64 ((M : Int) - 1)] 240)); have HA1 : Hid (At (w1.alloc (.cells #[.int .i64 M, .int .i64 C, .int .i64 S, .int .i64 ((M : Int) - 1)] 240)) w1.heap.size #[.int .i64 M, .int .i64 C, .int .i64 S, .int .i64 ((M : Int) - 1)] 240) := At.new _ _ _; clear hr1 hb1)
    generalize w1.alloc (.cells #[.int .i64 M, .int .i64 C, .int .i64 S, .int .i64 ((M : Int) - 1)] 240) = W1 at *
    have HAD : Hid (At W1.drew w1.heap.size #[.int .i64 M, .int .i64 C, .int .i64 S, .int .i64 ((M : Int) - 1)] 240) := HA1.out.drew
    have HH : Hid (∀ X, At X w1.heap.size #[.int .i64 M, .int .i64 C, .int .i64 S, .int .i64 ((M : Int) - 1)] 240 → X.cell? ⟨w1.heap.size, 0, none⟩ = some (.int .i64 M) ∧ X.cell? ⟨w1.heap.size, 1, none⟩ = some (.int .i64 C) ∧ X.cell? ⟨w1.heap.size, 2, none⟩ = some (.int .i64 S) ∧ X.cell? ⟨w1.heap.size, 3, none⟩ = some (.int .i64 ((M : Int) - 1))) := fun X h => ⟨h.cell 0, h.cell 1, h.cell 2, h.cell 3⟩
    go_region_held3 (fun w' => w'.cell? ⟨w1.heap.size, 0, none⟩ = some (.int .i64 M) ∧ w'.cell? ⟨w1.heap.size, 1, none⟩ = some (.int .i64 C) ∧ w'.cell? ⟨w1.heap.size, 2, none⟩ = some (.int .i64 S) ∧ w'.cell? ⟨w1.heap.size, 3, none⟩ = some (.int .i64 ((M : Int) - 1)))
      (first | with_reducible exact HH.out _ HA1.out | with_reducible exact HH.out _ HAD.out | with_reducible exact HH.out _ HAE.out)
      (first | (go_at_call 154; (with_reducible refine (hro.out _ _).mono ?_); rintro e w3 ⟨rfl, hb3⟩; have HAE := Lib.hid (HAD.out.below hb3 HAD.out.lt); have HRX := Lib.hid (HR1.out.drew.below hb3 HR1.out.lt); have HBX := Lib.hid (below_then HB1.out.drew hb3)))
    generalize w3 = W2 at *
    have HR2 : Hid (At W2 (w.heap.size + 1) #[.int .i64 0, .int .i64 0, .int .i64 0, .int .i64 0] 258) := HRX.out
    have d0 := HR2.out.cell 0
    have d1 := HR2.out.cell 1
    have d2 := HR2.out.cell 2
    have d3 := HR2.out.cell 3
    have f0 := HR2.out.free 0
    have f1 := HR2.out.free 1
    have f2 := HR2.out.free 2
    have f3 := HR2.out.free 3
    go_wp2
    have HF := (((HR2.out.set 0 (.int .i64 0)).set 1 (.int .i64 0)).set 2 (.int .i64 0)).set 3 (.int .i64 0)
    have r0 := HF.cell 0
    have r1 := HF.cell 1
    have r2 := HF.cell 2
    have r3 := HF.cell 3
    clear d0 d1 d2 d3 f0 f1 f2 f3
    (try simp only [Exit.inBlock, Exit.then])
    refine bodyPost_ret (v := .tuple #[.agg #[.int .i64 0, .int .i64 0, .int .i64 0, .int .i64 0], .int .u16 3]) ?_ rfl ⟨rfl, (((HBX.out.setCell (p := ⟨w.heap.size + 1, 0, none⟩) (Nat.le_succ _) _).setCell (p := ⟨w.heap.size + 1, 1, none⟩) (Nat.le_succ _) _).setCell (p := ⟨w.heap.size + 1, 2, none⟩) (Nat.le_succ _) _).setCell (p := ⟨w.heap.size + 1, 3, none⟩) (Nat.le_succ _) _⟩
    rw [results_cell_tmp rfl]
    go_simp
    try rfl

end Go.Proofs.YtpegbgomnpinfaaGreat
