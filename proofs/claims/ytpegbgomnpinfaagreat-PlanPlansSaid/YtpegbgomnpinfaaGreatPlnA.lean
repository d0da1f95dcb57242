/- Patches and rows of bools, to be read; the library's searches in them. -/
import Derived.Test.YtpegbgomnpinfaaGreatMrg3
import Derived.Test.YtpegbgomnpinfaaGreatMrg5
set_option linter.unusedVariables false
namespace Go.Proofs.YtpegbgomnpinfaaGreat
open Go.RowKit

/-- A patch. -/
structure Pat where
  m : Int
  r : Int
  d : List UInt8

def patVal (m r : Int) (u : Value) : Value := .agg #[.int .i64 m, .int .i64 r, u]

/-- The patch p in the cells b, o. -/
structure PatAt (w : World) (b o : Nat) (p : Pat) : Prop where
  m : w.cell? ⟨b, o, none⟩ = some (.int .i64 p.m)
  r : w.cell? ⟨b, o + 1, none⟩ = some (.int .i64 p.r)
  d : ∃ u, w.cell? ⟨b, o + 2, none⟩ = some u ∧ Seg w u p.d

/-- A slice of patches, to be read. -/
def PSeg (w : World) (v : Value) (ps : List Pat) : Prop :=
  ∃ a c, v = .slice a ps.length c ∧ ps.length ≤ 140737488355328 ∧ (∀ p ∈ ps, p.d.length ≤ 140737488355000) ∧ (ps = [] ∨ ∃ b o, a = some ⟨b, o, none⟩ ∧ b < w.heap.size ∧ ∀ j (h : j < ps.length), PatAt w b (o + j * 3) ps[j])

theorem PatAt.below {w w' : World} {b o : Nat} {p : Pat} (h : PatAt w b o p) (hlt : b < w.heap.size) (hb : Below w.heap.size w w') : PatAt w' b o p := by
  obtain ⟨h1, h2, u, h3, h4⟩ := h
  exact ⟨(hb.cell (p := ⟨b, o, none⟩) hlt).trans h1, (hb.cell (p := ⟨b, o + 1, none⟩) hlt).trans h2, u, (hb.cell (p := ⟨b, o + 2, none⟩) hlt).trans h3, h4.below hb⟩

theorem PSeg.below {w w' : World} {v : Value} {ps : List Pat} (h : PSeg w v ps) (hb : Below w.heap.size w w') : PSeg w' v ps := by
  obtain ⟨a, c, h1, h2, h2', h3⟩ := h
  refine ⟨a, c, h1, h2, h2', ?_⟩
  rcases h3 with h3 | ⟨b, o, h4, h5, h6⟩
  · exact .inl h3
  · exact .inr ⟨b, o, h4, Nat.lt_of_lt_of_le h5 hb.size, fun j hj => (h6 j hj).below h5 hb⟩
theorem PSeg.shape {w : World} {v : Value} {ps : List Pat} (h : PSeg w v ps) : ∃ a c, v = .slice a ps.length c := by
  obtain ⟨a, c, h1, _⟩ := h
  exact ⟨a, c, h1⟩
theorem PSeg.few {w : World} {v : Value} {ps : List Pat} (h : PSeg w v ps) : ps.length ≤ 140737488355328 := by
  obtain ⟨a, c, h1, h2, _⟩ := h
  exact h2
theorem PSeg.full {w : World} {a : Option Addr} {n c : Nat} {ps : List Pat} (h : PSeg w (.slice a n c) ps) (hl : 0 < ps.length) : ∃ b o, a = some ⟨b, o, none⟩ ∧ b < w.heap.size ∧ ∀ j (h : j < ps.length), PatAt w b (o + j * 3) ps[j] := by
  obtain ⟨a', c', h1, h2, h2', h3⟩ := h
  simp only [Value.slice.injEq] at h1
  obtain ⟨rfl, -, rfl⟩ := h1
  rcases h3 with h3 | h3
  · subst h3; simp at hl
  · exact h3
theorem PSeg.nil (w : World) : PSeg w (.slice none 0 0) [] := ⟨none, 0, rfl, by simp, by simp, .inl rfl⟩

/-- A slice of M bools: d. -/
def BSeg (w : World) (v : Value) (d : Nat → Bool) (M : Nat) : Prop :=
  ∃ a c, v = .slice a M c ∧ (M = 0 ∨ ∃ b o, a = some ⟨b, o, none⟩ ∧ b < w.heap.size ∧ ∀ j, j < M → w.cell? ⟨b, o + j, none⟩ = some (.bool (d j)))
theorem BSeg.below {w w' : World} {v : Value} {d : Nat → Bool} {M : Nat} (h : BSeg w v d M) (hb : Below w.heap.size w w') : BSeg w' v d M := by
  obtain ⟨a, c, h1, h2⟩ := h
  refine ⟨a, c, h1, ?_⟩
  rcases h2 with h2 | ⟨b, o, h3, h4, h5⟩
  · exact .inl h2
  · exact .inr ⟨b, o, h3, Nat.lt_of_lt_of_le h4 hb.size, fun j hj => (hb.cell (p := ⟨b, o + j, none⟩) h4).trans (h5 j hj)⟩
theorem BSeg.shape {w : World} {v : Value} {d : Nat → Bool} {M : Nat} (h : BSeg w v d M) : ∃ a c, v = .slice a M c := by
  obtain ⟨a, c, h1, _⟩ := h
  exact ⟨a, c, h1⟩
theorem BSeg.full {w : World} {v : Value} {d : Nat → Bool} {M : Nat} (h : BSeg w v d M) (hM : 0 < M) : ∃ b o c, v = .slice (some ⟨b, o, none⟩) M c ∧ b < w.heap.size ∧ ∀ j, j < M → w.cell? ⟨b, o + j, none⟩ = some (.bool (d j)) := by
  obtain ⟨a, c, h1, h2⟩ := h
  rcases h2 with h2 | ⟨b, o, rfl, h4, h5⟩
  · omega
  · exact ⟨b, o, c, h1, h4, h5⟩

/-- Where the first true one is; -1: nowhere. -/
def GoneIs (d : Nat → Bool) (M : Nat) (z : Int) : Prop := (∃ k : Nat, z = k ∧ k < M ∧ d k = true ∧ ∀ i, i < k → d i = false) ∨ (z = -1 ∧ ∀ i, i < M → d i = false)

set_option maxRecDepth 100000 in
set_option maxHeartbeats 1000000 in
theorem index_bools (v : Value) (d : Nat → Bool) (M : Nat) (w : World) (h : BSeg w v d M) (hM : M ≤ 1000000) :
    Calls Tryz.prog 144 #[v, .bool true] w fun e w' => w' = w ∧ ∃ z : Int, e = .returned (.int .i64 z) ∧ GoneIs d M z := by
  obtain ⟨a, c, rfl⟩ := h.shape
  have H := Lib.hid h
  clear h
  go_enter Tryz.func144, Tryz.ntmps144
  go_wp2
  go_loopw [8] (fun q wr => ∃ k : Nat, k ≤ M ∧ q = .int .i64 k ∧ (∀ i, i < k → d i = false) ∧ wr = w) (fun q _ => M - (intOf q).toNat)
  case atStart => exact ⟨0, by omega, rfl, fun i hi => by omega, rfl⟩
  case round =>
    obtain ⟨k, hk, rfl, hz, rfl⟩ := hrel
    have HZ := Lib.hid hz
    clear hz
    by_cases hkn : k < M
    · obtain ⟨b, o, c', hve, hlt, hx⟩ := H.out.full (by omega)
      simp only [Value.slice.injEq] at hve
      obtain ⟨rfl, -, rfl⟩ := hve
      have d0 := hx k hkn
      have K1 : Hid (k + 1 ≤ M) := hkn
      clear hx
      cases hq : d k
      · rw [hq] at d0
        have HY : Hid (∀ i, i < k + 1 → d i = false) := fun i hi => by
          by_cases hik : i = k
          · subst hik; exact hq
          · exact HZ.out i (by omega)
        clear hq
        go_wp2
        exact ⟨⟨k + 1, K1.out, by go_num, HY.out, trivial⟩, by simp [intOf]; omega⟩
      · rw [hq] at d0
        have HQ := Lib.hid hq
        clear hq
        go_wp2
        go_ret
        exact ⟨rfl, _, rfl, .inl ⟨k, rfl, hkn, HQ.out, HZ.out⟩⟩
    · obtain rfl : k = M := by omega
      go_wp2
      go_ret
      exact ⟨rfl, _, rfl, .inr ⟨rfl, HZ.out⟩⟩

set_option maxHeartbeats 1000000 in
theorem short_do (x y : Int) (a : Option Addr) (n c : Nat) (w : World) (hn : n ≤ 140737488355000) : Calls Tryz.prog 138 #[.agg #[.int .i64 x, .int .i64 y, .slice a n c]] w fun e w' => e = .returned (.bool (decide (n ≠ 128))) ∧ Below w.heap.size w w' := by
  have hx : ((n : Int) != 128) = decide (n ≠ 128) := by
    by_cases h : n = 128
    · subst h; rfl
    · rw [decide_eq_true h, bne_iff_ne]; omega
  generalize (decide (n ≠ 128)) = q at *
  go_enter Tryz.func138, Tryz.ntmps138
  go_wp2
  go_ret
  exact ⟨rfl, (Below.refl _ _).alloc (Nat.le_refl _) _⟩

set_option maxHeartbeats 1000000 in
theorem given_do (x y m : Int) (u : Value) (g : Nat) (w : World) (hg : At w g #[.int .i64 m] 3) : Calls Tryz.prog 170 #[.agg #[.int .i64 x, .int .i64 y, u], .pointer (some ⟨g, 0, none⟩)] w fun e w' => e = .returned (.bool (x == m)) ∧ Below w.heap.size w w' := by
  have c0 : w.cell? ⟨g, 0, none⟩ = some (.int .i64 m) := hg.cell 0
  have hlt := hg.lt
  clear hg
  go_enter Tryz.func170, Tryz.ntmps170
  go_wp2
  go_ret
  exact ⟨rfl, (Below.refl _ _).alloc (Nat.le_refl _) _⟩

/-- Where a search ends. -/
def Found (q : Pat → Bool) (ps : List Pat) (z : Int) : Prop := (0 ≤ z ∧ ps.any q = true) ∨ (z = -1 ∧ ps.any q = false)

theorem any_take_succ {ps : List Pat} {q : Pat → Bool} {k : Nat} (hk : k < ps.length) (h : (ps.take k).any q = false) (hq : q ps[k] = false) : (ps.take (k + 1)).any q = false := by
  rw [← List.take_append_getElem (h := hk), List.any_append, h, List.any_cons, hq]
  rfl

set_option maxRecDepth 100000 in
set_option maxHeartbeats 2000000 in
theorem index_short (v : Value) (ps : List Pat) (w : World) (h : PSeg w v ps) :
    Calls Tryz.prog 169 #[v, .func (.func 138) #[] #[]] w fun e w' => Below w.heap.size w w' ∧ ∃ z : Int, e = .returned (.int .i64 z) ∧ Found (fun p => decide (p.d.length ≠ 128)) ps z := by
  obtain ⟨a, c, rfl⟩ := h.shape
  have hn := h.few
  have hdl : ∀ p ∈ ps, p.d.length ≤ 140737488355000 := by obtain ⟨_, _, _, _, h, _⟩ := h; exact h
  have HD := Lib.hid hdl
  have H := Lib.hid h
  clear h hdl
  go_enter Tryz.func169, Tryz.ntmps169
  go_wp2
  go_loopw [8] (fun q wr => ∃ k : Nat, k ≤ ps.length ∧ q = .int .i64 k ∧ (ps.take k).any (fun p => decide (p.d.length ≠ 128)) = false ∧ Below w.heap.size w wr) (fun q _ => ps.length - (intOf q).toNat)
  case atStart => exact ⟨0, by omega, rfl, by simp, Below.refl _ _⟩
  case round =>
    obtain ⟨k, hk, rfl, hz, hbw⟩ := hrel
    have HZ := Lib.hid hz
    clear hz
    by_cases hkn : k < ps.length
    · obtain ⟨b, o, rfl, hlt, hx⟩ := PSeg.full (H.out.below hbw) (by omega)
      obtain ⟨c0, c1, u, c2, hu⟩ := hx k hkn
      obtain ⟨ua, uc, rfl⟩ := hu.shape
      have K1 : Hid (k + 1 ≤ ps.length) := hkn
      have HC := Lib.hid (short_do ps[k].m ps[k].r ua ps[k].d.length uc wr (HD.out _ (List.getElem_mem hkn)))
      clear hx hu
      cases hq : decide (ps[k].d.length ≠ 128)
      · rw [hq] at HC
        have HY := Lib.hid (any_take_succ (q := fun p => decide (p.d.length ≠ 128)) hkn HZ.out hq)
        clear hq
        generalize ps[k].d.length = n at *
        generalize ps[k].m = x at *
        generalize ps[k].r = y at *
        go_wp2_with (go_at_call 138; (with_reducible refine HC.out.mono ?_); rintro e w2 ⟨rfl, hb2⟩)
        exact ⟨⟨k + 1, K1.out, by go_num, HY.out, below_then hbw hb2⟩, by simp [intOf]; omega⟩
      · rw [hq] at HC
        have HY : Hid (ps.any (fun p => decide (p.d.length ≠ 128)) = true) := List.any_eq_true.2 ⟨_, List.getElem_mem hkn, hq⟩
        clear hq
        generalize ps[k].d.length = n at *
        generalize ps[k].m = x at *
        generalize ps[k].r = y at *
        go_wp2_with (go_at_call 138; (with_reducible refine HC.out.mono ?_); rintro e w2 ⟨rfl, hb2⟩)
        go_ret
        exact ⟨below_then hbw hb2, _, rfl, .inl ⟨by omega, HY.out⟩⟩
    · obtain rfl : k = ps.length := by omega
      go_wp2
      go_ret
      refine ⟨hbw, _, rfl, .inr ⟨rfl, ?_⟩⟩
      have := HZ.out
      rwa [List.take_length] at this

set_option maxRecDepth 100000 in
set_option maxHeartbeats 2000000 in
theorem index_given (v : Value) (ps : List Pat) (m : Int) (g : Nat) (w : World) (h : PSeg w v ps) (hg : At w g #[.int .i64 m] 3) :
    Calls Tryz.prog 169 #[v, .func (.func 170) #[] #[.pointer (some ⟨g, 0, none⟩)]] w fun e w' => Below w.heap.size w w' ∧ ∃ z : Int, e = .returned (.int .i64 z) ∧ Found (fun p => p.m == m) ps z := by
  obtain ⟨a, c, rfl⟩ := h.shape
  have hn := h.few
  have HG := Lib.hid hg
  have H := Lib.hid h
  clear h hg
  go_enter Tryz.func169, Tryz.ntmps169
  go_wp2
  go_loopw [8] (fun q wr => ∃ k : Nat, k ≤ ps.length ∧ q = .int .i64 k ∧ (ps.take k).any (fun p => p.m == m) = false ∧ Below w.heap.size w wr) (fun q _ => ps.length - (intOf q).toNat)
  case atStart => exact ⟨0, by omega, rfl, by simp, Below.refl _ _⟩
  case round =>
    obtain ⟨k, hk, rfl, hz, hbw⟩ := hrel
    have HZ := Lib.hid hz
    clear hz
    by_cases hkn : k < ps.length
    · obtain ⟨b, o, rfl, hlt, hx⟩ := PSeg.full (H.out.below hbw) (by omega)
      obtain ⟨c0, c1, u, c2, hu⟩ := hx k hkn
      obtain ⟨ua, uc, rfl⟩ := hu.shape
      have K1 : Hid (k + 1 ≤ ps.length) := hkn
      have HC := Lib.hid (given_do ps[k].m ps[k].r m (.slice ua ps[k].d.length uc) g wr (HG.out.below hbw HG.out.lt))
      clear hx hu
      cases hq : (ps[k].m == m)
      · rw [hq] at HC
        have HY := Lib.hid (any_take_succ (q := fun p => p.m == m) hkn HZ.out hq)
        clear hq
        generalize ps[k].d.length = n at *
        generalize ps[k].m = x at *
        generalize ps[k].r = y at *
        go_wp2_with (go_at_call 170; (with_reducible refine HC.out.mono ?_); rintro e w2 ⟨rfl, hb2⟩)
        exact ⟨⟨k + 1, K1.out, by go_num, HY.out, below_then hbw hb2⟩, by simp [intOf]; omega⟩
      · rw [hq] at HC
        have HY : Hid (ps.any (fun p => p.m == m) = true) := List.any_eq_true.2 ⟨_, List.getElem_mem hkn, hq⟩
        clear hq
        generalize ps[k].d.length = n at *
        generalize ps[k].m = x at *
        generalize ps[k].r = y at *
        go_wp2_with (go_at_call 170; (with_reducible refine HC.out.mono ?_); rintro e w2 ⟨rfl, hb2⟩)
        go_ret
        exact ⟨below_then hbw hb2, _, rfl, .inl ⟨by omega, HY.out⟩⟩
    · obtain rfl : k = ps.length := by omega
      go_wp2
      go_ret
      refine ⟨hbw, _, rfl, .inr ⟨rfl, ?_⟩⟩
      have := HZ.out
      rwa [List.take_length] at this

set_option maxHeartbeats 1000000 in
theorem contains_short (v : Value) (ps : List Pat) (w : World) (h : PSeg w v ps) :
    Calls Tryz.prog 139 #[v, .func (.func 138) #[] #[]] w fun e w' => e = .returned (.bool (ps.any fun p => decide (p.d.length ≠ 128))) ∧ Below w.heap.size w w' := by
  have hi := Lib.hid (index_short v ps w h)
  obtain ⟨a, c, rfl⟩ := h.shape
  clear h
  go_enter Tryz.func139, Tryz.ntmps139
  go_wp2_with (go_at_call 169; (with_reducible refine hi.out.mono ?_); rintro e w2 ⟨hb, z, rfl, hz⟩)
  go_ret
  refine ⟨?_, hb⟩
  rcases hz with ⟨h1, h2⟩ | ⟨h1, h2⟩
  · rw [h2]; simp [h1]
  · rw [h2]; simp [h1]

set_option maxHeartbeats 1000000 in
theorem contains_given (v : Value) (ps : List Pat) (m : Int) (g : Nat) (w : World) (h : PSeg w v ps) (hg : At w g #[.int .i64 m] 3) :
    Calls Tryz.prog 139 #[v, .func (.func 170) #[] #[.pointer (some ⟨g, 0, none⟩)]] w fun e w' => e = .returned (.bool (ps.any fun p => p.m == m)) ∧ Below w.heap.size w w' := by
  have hi := Lib.hid (index_given v ps m g w h hg)
  obtain ⟨a, c, rfl⟩ := h.shape
  clear h hg
  go_enter Tryz.func139, Tryz.ntmps139
  go_wp2_with (go_at_call 169; (with_reducible refine hi.out.mono ?_); rintro e w2 ⟨hb, z, rfl, hz⟩)
  go_ret
  refine ⟨?_, hb⟩
  rcases hz with ⟨h1, h2⟩ | ⟨h1, h2⟩
  · rw [h2]; simp [h1]
  · rw [h2]; simp [h1]

end Go.Proofs.YtpegbgomnpinfaaGreat
