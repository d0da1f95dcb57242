/- plan: which members are given; which are the rest; which are old; how a row is written. -/
import Derived.Test.YtpegbgomnpinfaaGreatPlnC
set_option linter.unusedVariables false
namespace Go.Proofs.YtpegbgomnpinfaaGreat
open Go.RowKit

theorem slice_members : SliceOf Tryz.prog 27 3 1 8 := SliceOf.mk' (z := .int .i64 0) Tryz.underlying27 (by decide) (by kernel_rfl) rfl
def mcells (l : List Nat) : List Value := l.map fun x : Nat => .int .i64 (x : Int)
theorem mcells_length (l : List Nat) : (mcells l).length = l.length := by simp [mcells]
theorem mcells_snoc (l : List Nat) (k : Nat) : mcells (l ++ [k]) = mcells l ++ [.int .i64 (k : Int)] := by simp [mcells]
theorem mcells_at (l : List Nat) (i : Nat) (h : i < l.length) : (mcells l)[i]? = some (.int .i64 ((l[i] : Nat) : Int)) := by simp [mcells, h]

/-- Is a member given? -/
def givenIn (ps : List Pat) (m : Int) : Bool := ps.any fun p => p.m == m

set_option maxHeartbeats 1000000 in
theorem row_given {q M C S r : Nat} {vd vp : Value} {d : Nat → Bool} {ps : List Pat} {w : World} (h : RowAt w q M C S vd vp d ps r) (m : Int) :
    Calls Tryz.prog 142 #[.pointer (some ⟨q, 0, none⟩), .int .i64 m] w fun e w' => e = .returned (.bool (givenIn ps m)) ∧ Below w.heap.size w w' := by
  have hb0 : Below w.heap.size w (w.alloc (.cells #[.int .i64 m] 3)) := (Below.refl _ _).alloc (Nat.le_refl _) _
  have c4 : (w.alloc (.cells #[.int .i64 m] 3)).cell? ⟨q, 4, none⟩ = some vp := (h.below hb0).at'.cell 4
  have hc := Lib.hid (contains_given vp ps m w.heap.size _ (h.pt.below hb0) (At.new w _ _))
  unfold givenIn
  generalize (ps.any fun p => p.m == m) = z at *
  clear h
  go_enter Tryz.func142, Tryz.ntmps142
  go_wp2_with (go_at_call 139; (with_reducible refine hc.out.mono ?_); rintro e w2 ⟨rfl, hb⟩)
  go_ret
  exact ⟨rfl, below_then hb0 hb⟩

/-- The members for which q says so, below k. -/
def whichTo (q : Nat → Bool) (k : Nat) : List Nat := (List.range k).filter q
theorem whichTo_succ (q : Nat → Bool) (k : Nat) : whichTo q (k + 1) = if q k then whichTo q k ++ [k] else whichTo q k := by
  unfold whichTo
  rw [List.range_succ, List.filter_append]
  by_cases h : q k <;> simp [h]
theorem whichTo_length (q : Nat → Bool) (k : Nat) : (whichTo q k).length ≤ k := by
  unfold whichTo
  have := List.length_filter_le q (List.range k)
  simpa using this

def isRest (ps : List Pat) (par : Nat) (m : Nat) : Bool := !(m == par) && !(givenIn ps (m : Int))
def isOld (ps : List Pat) (par : Nat) (m : Nat) : Bool := (m == par) || givenIn ps (m : Int)

set_option maxHeartbeats 1000000 in
theorem rest_do {q M C S r g : Nat} {vd vp : Value} {d : Nat → Bool} {ps : List Pat} {w : World} (h : RowAt w q M C S vd vp d ps r) (hg : At w g #[.pointer (some ⟨q, 0, none⟩)] 155) (m : Nat) :
    Calls Tryz.prog 141 #[.int .i64 m, .pointer (some ⟨g, 0, none⟩)] w fun e w' => e = .returned (.bool (isRest ps (parOf M C r) m)) ∧ Below w.heap.size w w' := by
  have c0 : w.cell? ⟨g, 0, none⟩ = some (.pointer (some ⟨q, 0, none⟩)) := hg.cell 0
  have c5 : w.cell? ⟨q, 5, none⟩ = some (.int .i64 ((parOf M C r : Nat) : Int)) := h.at'.cell 5
  have hc := Lib.hid (row_given h (m : Int))
  unfold isRest
  generalize givenIn ps (m : Int) = z at *
  generalize parOf M C r = par at *
  clear h hg
  by_cases hp : m = par
  · subst hp
    rw [show (m == m) = true by simp]
    go_enter Tryz.func141, Tryz.ntmps141
    go_wp2
    go_ret
    exact ⟨rfl, Below.refl _ _⟩
  · rw [show (m == par) = false by simp [hp]]
    have hp1 : ((m : Int) == (par : Int)) = false := by simp; omega
    have hp2 : ((m : Int) != (par : Int)) = true := by simp; omega
    go_enter Tryz.func141, Tryz.ntmps141
    go_wp2_with (go_at_call 142; (with_reducible refine hc.out.mono ?_); rintro e w2 ⟨rfl, hb⟩)
    go_ret
    exact ⟨rfl, hb⟩

set_option maxRecDepth 100000 in
set_option maxHeartbeats 2000000 in
theorem which_rest {q M C S r g : Nat} {vd vp : Value} {d : Nat → Bool} {ps : List Pat} {w : World} (h : RowAt w q M C S vd vp d ps r) (hg : At w g #[.pointer (some ⟨q, 0, none⟩)] 155) (hM : M ≤ 16) :
    Calls Tryz.prog 140 #[.pointer (some ⟨q, 0, none⟩), .func (.func 141) #[] #[.pointer (some ⟨g, 0, none⟩)]] w fun e w' => ∃ v, e = .returned v ∧ w'.ownsRow w.heap.size 3 1 v (whichTo (isRest ps (parOf M C r)) M).length (mcells (whichTo (isRest ps (parOf M C r)) M)) ∧ Below w.heap.size w w' := by
  have c0 : w.cell? ⟨q, 0, none⟩ = some (.int .i64 M) := h.at'.cell 0
  have HC : Hid (∀ (m : Nat) W, Below w.heap.size w W → Calls Tryz.prog 141 #[.int .i64 m, .pointer (some ⟨g, 0, none⟩)] W fun e w' => e = .returned (.bool (isRest ps (parOf M C r) m)) ∧ Below W.heap.size W w') := fun m W hW => rest_do (h.below hW) (hg.below hW hg.lt) m
  generalize isRest ps (parOf M C r) = f at *
  clear h hg
  go_enter Tryz.func140, Tryz.ntmps140
  go_wp2
  go_loopw [5, 12] (fun v z wr => ∃ k : Nat, k ≤ M ∧ z = .int .i64 k ∧ wr.ownsRow w.heap.size 3 1 v (whichTo f k).length (mcells (whichTo f k)) ∧ Below w.heap.size w wr) (fun _ z _ => M - (intOf z).toNat)
  case atStart => exact ⟨0, by omega, rfl, World.ownsRow_nil _ _ _ _, Below.refl _ _⟩
  case round =>
    obtain ⟨k, hk', rfl, hown, hbw⟩ := hrel
    have HO := Lib.hid hown
    clear hown
    by_cases hkn : k < M
    · have K1 : Hid (k + 1 ≤ M) := hkn
      have hc := Lib.hid (HC.out k wr hbw)
      have hs := Lib.hid (whichTo_succ f k)
      have hwl := whichTo_length f k
      cases hf : f k
      · rw [hf] at hc hs
        clear hf
        simp only [Bool.false_eq_true, if_false] at hs
        go_wp2_with (go_at_call 141; (with_reducible refine hc.out.mono ?_); rintro e w2 ⟨rfl, hb2⟩)
        refine ⟨⟨k + 1, K1.out, by go_num, ?_, below_then hbw hb2⟩, by simp [intOf]; omega⟩
        rw [hs.out]
        exact ownsRow_below HO.out hb2 (Nat.le_refl _)
      · rw [hf] at hc hs
        clear hf
        simp only [if_true] at hs
        go_wp2_with (first
          | (go_at_call 141; (with_reducible refine hc.out.mono ?_); rintro e w2 ⟨rfl, hb2⟩; have hown2 := ownsRow_below HO.out hb2 (Nat.le_refl _); have HO2 := Lib.hid hown2; clear hown2; have hbb := below_then hbw hb2)
          | (refine wpList_append_one rfl _ _ 27 3 8 rfl slice_members w.heap.size u5 (whichTo f k).length _ rfl HO2.out _ rfl rfl (by unfold maxLen; omega) (by omega) hbb.size ?_; intro v' w5 hown5 hb5 hgr5))
        refine ⟨⟨k + 1, K1.out, by go_num, ?_, hbb.trans hb5⟩, by simp [intOf]; omega⟩
        rw [hs.out, mcells_snoc, List.length_append]
        exact hown5
    · obtain rfl : k = M := by omega
      go_wp2
      go_ret
      exact ⟨_, rfl, HO.out, hbw⟩

set_option maxHeartbeats 1000000 in
theorem row_rest {q M C S r : Nat} {vd vp : Value} {d : Nat → Bool} {ps : List Pat} {w : World} (h : RowAt w q M C S vd vp d ps r) (hM : M ≤ 16) :
    Calls Tryz.prog 86 #[.pointer (some ⟨q, 0, none⟩)] w fun e w' => ∃ v, e = .returned v ∧ w'.ownsRow w.heap.size 3 1 v (whichTo (isRest ps (parOf M C r)) M).length (mcells (whichTo (isRest ps (parOf M C r)) M)) ∧ Below w.heap.size w w' := by
  have hb0 : Below w.heap.size w (w.alloc (.cells #[.pointer (some ⟨q, 0, none⟩)] 155)) := (Below.refl _ _).alloc (Nat.le_refl _) _
  have hc := Lib.hid (which_rest (h.below hb0) (At.new w #[.pointer (some ⟨q, 0, none⟩)] 155) hM)
  generalize isRest ps (parOf M C r) = f at *
  generalize hl : whichTo f M = l at *
  clear h hl
  go_enter Tryz.func86, Tryz.ntmps86
  go_wp2_with (go_at_call 140; (with_reducible refine hc.out.mono ?_); rintro e w2 ⟨v, rfl, hown, hb⟩)
  go_ret
  exact ⟨v, rfl, rebase_row hown (by rw [size_alloc]; omega), below_then hb0 hb⟩

set_option maxHeartbeats 1000000 in
theorem old_do {q M C S r g : Nat} {vd vp : Value} {d : Nat → Bool} {ps : List Pat} {w : World} (h : RowAt w q M C S vd vp d ps r) (hg : At w g #[.pointer (some ⟨q, 0, none⟩)] 155) (m : Nat) :
    Calls Tryz.prog 143 #[.int .i64 m, .pointer (some ⟨g, 0, none⟩)] w fun e w' => e = .returned (.bool (isOld ps (parOf M C r) m)) ∧ Below w.heap.size w w' := by
  have c0 : w.cell? ⟨g, 0, none⟩ = some (.pointer (some ⟨q, 0, none⟩)) := hg.cell 0
  have c5 : w.cell? ⟨q, 5, none⟩ = some (.int .i64 ((parOf M C r : Nat) : Int)) := h.at'.cell 5
  have hc := Lib.hid (row_given h (m : Int))
  unfold isOld
  generalize givenIn ps (m : Int) = z at *
  generalize parOf M C r = par at *
  clear h hg
  by_cases hp : m = par
  · subst hp
    rw [show (m == m) = true by simp]
    go_enter Tryz.func143, Tryz.ntmps143
    go_wp2
    go_ret
    exact ⟨rfl, Below.refl _ _⟩
  · rw [show (m == par) = false by simp [hp]]
    have hp1 : ((m : Int) == (par : Int)) = false := by simp; omega
    have hp2 : ((m : Int) != (par : Int)) = true := by simp; omega
    go_enter Tryz.func143, Tryz.ntmps143
    go_wp2_with (go_at_call 142; (with_reducible refine hc.out.mono ?_); rintro e w2 ⟨rfl, hb⟩)
    go_ret
    exact ⟨rfl, hb⟩

set_option maxRecDepth 100000 in
set_option maxHeartbeats 2000000 in
theorem which_old {q M C S r g : Nat} {vd vp : Value} {d : Nat → Bool} {ps : List Pat} {w : World} (h : RowAt w q M C S vd vp d ps r) (hg : At w g #[.pointer (some ⟨q, 0, none⟩)] 155) (hM : M ≤ 16) :
    Calls Tryz.prog 140 #[.pointer (some ⟨q, 0, none⟩), .func (.func 143) #[] #[.pointer (some ⟨g, 0, none⟩)]] w fun e w' => ∃ v, e = .returned v ∧ w'.ownsRow w.heap.size 3 1 v (whichTo (isOld ps (parOf M C r)) M).length (mcells (whichTo (isOld ps (parOf M C r)) M)) ∧ Below w.heap.size w w' := by
  have c0 : w.cell? ⟨q, 0, none⟩ = some (.int .i64 M) := h.at'.cell 0
  have HC : Hid (∀ (m : Nat) W, Below w.heap.size w W → Calls Tryz.prog 143 #[.int .i64 m, .pointer (some ⟨g, 0, none⟩)] W fun e w' => e = .returned (.bool (isOld ps (parOf M C r) m)) ∧ Below W.heap.size W w') := fun m W hW => old_do (h.below hW) (hg.below hW hg.lt) m
  generalize isOld ps (parOf M C r) = f at *
  clear h hg
  go_enter Tryz.func140, Tryz.ntmps140
  go_wp2
  go_loopw [5, 12] (fun v z wr => ∃ k : Nat, k ≤ M ∧ z = .int .i64 k ∧ wr.ownsRow w.heap.size 3 1 v (whichTo f k).length (mcells (whichTo f k)) ∧ Below w.heap.size w wr) (fun _ z _ => M - (intOf z).toNat)
  case atStart => exact ⟨0, by omega, rfl, World.ownsRow_nil _ _ _ _, Below.refl _ _⟩
  case round =>
    obtain ⟨k, hk', rfl, hown, hbw⟩ := hrel
    have HO := Lib.hid hown
    clear hown
    by_cases hkn : k < M
    · have K1 : Hid (k + 1 ≤ M) := hkn
      have hc := Lib.hid (HC.out k wr hbw)
      have hs := Lib.hid (whichTo_succ f k)
      have hwl := whichTo_length f k
      cases hf : f k
      · rw [hf] at hc hs
        clear hf
        simp only [Bool.false_eq_true, if_false] at hs
        go_wp2_with (go_at_call 143; (with_reducible refine hc.out.mono ?_); rintro e w2 ⟨rfl, hb2⟩)
        refine ⟨⟨k + 1, K1.out, by go_num, ?_, below_then hbw hb2⟩, by simp [intOf]; omega⟩
        rw [hs.out]
        exact ownsRow_below HO.out hb2 (Nat.le_refl _)
      · rw [hf] at hc hs
        clear hf
        simp only [if_true] at hs
        go_wp2_with (first
          | (go_at_call 143; (with_reducible refine hc.out.mono ?_); rintro e w2 ⟨rfl, hb2⟩; have hown2 := ownsRow_below HO.out hb2 (Nat.le_refl _); have HO2 := Lib.hid hown2; clear hown2; have hbb := below_then hbw hb2)
          | (refine wpList_append_one rfl _ _ 27 3 8 rfl slice_members w.heap.size u5 (whichTo f k).length _ rfl HO2.out _ rfl rfl (by unfold maxLen; omega) (by omega) hbb.size ?_; intro v' w5 hown5 hb5 hgr5))
        refine ⟨⟨k + 1, K1.out, by go_num, ?_, hbb.trans hb5⟩, by simp [intOf]; omega⟩
        rw [hs.out, mcells_snoc, List.length_append]
        exact hown5
    · obtain rfl : k = M := by omega
      go_wp2
      go_ret
      exact ⟨_, rfl, HO.out, hbw⟩

set_option maxHeartbeats 1000000 in
theorem row_old {q M C S r : Nat} {vd vp : Value} {d : Nat → Bool} {ps : List Pat} {w : World} (h : RowAt w q M C S vd vp d ps r) (hM : M ≤ 16) :
    Calls Tryz.prog 87 #[.pointer (some ⟨q, 0, none⟩)] w fun e w' => ∃ v, e = .returned v ∧ w'.ownsRow w.heap.size 3 1 v (whichTo (isOld ps (parOf M C r)) M).length (mcells (whichTo (isOld ps (parOf M C r)) M)) ∧ Below w.heap.size w w' := by
  have hb0 : Below w.heap.size w (w.alloc (.cells #[.pointer (some ⟨q, 0, none⟩)] 155)) := (Below.refl _ _).alloc (Nat.le_refl _) _
  have hc := Lib.hid (which_old (h.below hb0) (At.new w #[.pointer (some ⟨q, 0, none⟩)] 155) hM)
  generalize isOld ps (parOf M C r) = f at *
  generalize hl : whichTo f M = l at *
  clear h hl
  go_enter Tryz.func87, Tryz.ntmps87
  go_wp2_with (go_at_call 140; (with_reducible refine hc.out.mono ?_); rintro e w2 ⟨v, rfl, hown, hb⟩)
  go_ret
  exact ⟨v, rfl, rebase_row hown (by rw [size_alloc]; omega), below_then hb0 hb⟩

set_option maxHeartbeats 1000000 in
theorem row_none (q : Nat) (w : World) : Calls Tryz.prog 85 #[.pointer (some ⟨q, 0, none⟩)] w fun e w' => e = .returned (.slice none 0 0) ∧ w' = w := by
  go_enter Tryz.func85, Tryz.ntmps85
  go_wp2
  go_ret
  exact ⟨rfl, rfl⟩

/-- How a row is written. -/
def modeOf (M : Nat) (ps : List Pat) (par : Nat) (z : Int) : Nat :=
  if M - 1 - ps.length = 0 then 1 else if z = par then 4 else if (0 ≤ z ∧ givenIn ps z = true) ∨ (z < 0 ∧ M - 1 - ps.length < ps.length + 1) then 3 else 2

theorem gone_is (d : Nat → Bool) : ∀ M, ∃ z, GoneIs d M z
  | 0 => ⟨-1, .inr ⟨rfl, fun i hi => by omega⟩⟩
  | M + 1 => by
    obtain ⟨z, hz⟩ := gone_is d M
    rcases hz with ⟨k, h1, h2, h3, h4⟩ | ⟨h1, h2⟩
    · exact ⟨z, .inl ⟨k, h1, by omega, h3, h4⟩⟩
    · cases hd : d M
      · exact ⟨-1, .inr ⟨rfl, fun i hi => by
          by_cases hi2 : i = M
          · subst hi2; exact hd
          · exact h2 i (by omega)⟩⟩
      · exact ⟨M, .inl ⟨M, rfl, by omega, hd, fun i hi => h2 i hi⟩⟩
theorem gone_one {d : Nat → Bool} {M : Nat} {z z' : Int} (h : GoneIs d M z) (h' : GoneIs d M z') : z = z' := by
  rcases h with ⟨k, h1, h2, h3, h4⟩ | ⟨h1, h2⟩ <;> rcases h' with ⟨k', h1', h2', h3', h4'⟩ | ⟨h1', h2'⟩
  · rcases Nat.lt_trichotomy k k' with hk | hk | hk
    · have := h4' k hk; rw [h3] at this; cases this
    · omega
    · have := h4 k' hk; rw [h3'] at this; cases this
  · have := h2' k h2; rw [h3] at this; cases this
  · have := h2 k' h2'; rw [h3'] at this; cases this
  · omega
theorem gone_lt {d : Nat → Bool} {M : Nat} {z : Int} (h : GoneIs d M z) : -1 ≤ z ∧ z < (M : Int) ∨ M = 0 := by
  rcases h with ⟨k, h1, h2, h3, h4⟩ | ⟨h1, h2⟩
  · left; omega
  · omega

set_option maxRecDepth 100000 in
set_option maxHeartbeats 4000000 in
theorem row_mode {q M C S r : Nat} {vd vp : Value} {d : Nat → Bool} {ps : List Pat} {w : World} (h : RowAt w q M C S vd vp d ps r) (hM : M ≤ 16) (hM1 : 3 ≤ M) (hps : ps.length ≤ M - 1) (z : Int) (hz : GoneIs d M z) :
    Calls Tryz.prog 88 #[.pointer (some ⟨q, 0, none⟩)] w fun e w' => e = .returned (.int .u8 (modeOf M ps (parOf M C r) z : Nat)) ∧ Below w.heap.size w w' := by
  have HR := Lib.hid h
  obtain ⟨c0, c3, c4, c5⟩ : w.cell? ⟨q, 0, none⟩ = some (.int .i64 M) ∧ w.cell? ⟨q, 3, none⟩ = some vd ∧ w.cell? ⟨q, 4, none⟩ = some vp ∧ w.cell? ⟨q, 5, none⟩ = some (.int .i64 ((parOf M C r : Nat) : Int)) := ⟨h.at'.cell 0, h.at'.cell 3, h.at'.cell 4, h.at'.cell 5⟩
  have hi : Hid (∀ W, Below w.heap.size w W → Calls Tryz.prog 144 #[vd, .bool true] W fun e w' => w' = W ∧ e = .returned (.int .i64 z)) := fun W hW => (index_bools vd d M W (h.ds.below hW) (by omega)).mono fun e w' ⟨x1, z', x2, x3⟩ => ⟨x1, by rw [x2, gone_one x3 hz]⟩
  have hgv : Hid (∀ W, Below w.heap.size w W → Calls Tryz.prog 142 #[.pointer (some ⟨q, 0, none⟩), .int .i64 z] W fun e w' => e = .returned (.bool (givenIn ps z)) ∧ Below W.heap.size W w') := fun W hW => row_given (h.below hW) z
  obtain ⟨pa, pc, rfl⟩ := h.pt.shape
  have hzl := gone_lt hz
  unfold modeOf
  generalize parOf M C r = par at *
  clear h hz
  generalize givenIn ps z = gv at *
  generalize hn : ps.length = n at *
  have hleft : (M : Int) - 1 - (n : Int) = ((M - 1 - n : Nat) : Int) := by omega
  have hl2 : M - 1 - n ≤ 16 := by omega
  have hn2 : n ≤ 16 := by omega
  generalize M - 1 - n = L at *
  clear hps hn
  have hb : Hid (∀ nq, Below w.heap.size w (w.drewN nq)) := fun nq => below_drewN (Below.refl _ _) nq
  by_cases h0 : L = 0
  · subst h0
    rw [if_pos rfl]
    go_enter Tryz.func88, Tryz.ntmps88
    go_wp2
    go_quiet (fail)
    go_wp2_with (go_at_call 144; (with_reducible refine (hi.out _ (hb.out _)).mono ?_); rintro e w2 ⟨rfl, rfl⟩)
    go_ret
    exact ⟨rfl, hb.out _⟩
  · have h01 : ((L : Int) == 0) = false := by simp; exact h0
    rw [if_neg h0]
    by_cases hzp : z = (par : Int)
    · have hzp1 : (z == (par : Int)) = true := by simp [hzp]
      rw [if_pos hzp]
      clear hzp
      go_enter Tryz.func88, Tryz.ntmps88
      go_wp2
      go_quiet (fail)
      go_wp2_with (go_at_call 144; (with_reducible refine (hi.out _ (hb.out _)).mono ?_); rintro e w2 ⟨rfl, rfl⟩)
      go_ret
      exact ⟨rfl, hb.out _⟩
    · have hzp1 : (z == (par : Int)) = false := by simp [hzp]
      rw [if_neg hzp]
      clear hzp
      by_cases hz0 : 0 ≤ z
      · have hz1 : decide (0 ≤ z) = true := decide_eq_true hz0
        have hz2 : decide (z < 0) = false := decide_eq_false (by omega)
        cases gv
        · rw [if_neg (by simp; omega)]
          go_enter Tryz.func88, Tryz.ntmps88
          go_wp2
          go_quiet (fail)
          go_wp2_with (first
            | (go_at_call 144; (with_reducible refine (hi.out _ (hb.out _)).mono ?_); rintro e w2 ⟨rfl, rfl⟩)
            | (go_at_call 142; (with_reducible refine (hgv.out _ (hb.out _)).mono ?_); rintro e w2 ⟨rfl, hb2⟩))
          go_ret
          exact ⟨rfl, (hb.out _).trans hb2⟩
        · rw [if_pos (by simp; omega)]
          go_enter Tryz.func88, Tryz.ntmps88
          go_wp2
          go_quiet (fail)
          go_wp2_with (first
            | (go_at_call 144; (with_reducible refine (hi.out _ (hb.out _)).mono ?_); rintro e w2 ⟨rfl, rfl⟩)
            | (go_at_call 142; (with_reducible refine (hgv.out _ (hb.out _)).mono ?_); rintro e w2 ⟨rfl, hb2⟩))
          go_ret
          exact ⟨rfl, (hb.out _).trans hb2⟩
      · have hz1 : decide (0 ≤ z) = false := decide_eq_false hz0
        have hz2 : decide (z < 0) = true := decide_eq_true (by omega)
        by_cases hL : L < n + 1
        · rw [if_pos (by right; omega)]
          have hL' : (L : Int) < (n : Int) + 1 := by omega
          go_enter Tryz.func88, Tryz.ntmps88
          go_wp2
          go_quiet (fail)
          go_wp2_with (go_at_call 144; (with_reducible refine (hi.out _ (hb.out _)).mono ?_); rintro e w2 ⟨rfl, rfl⟩)
          go_ret
          exact ⟨rfl, hb.out _⟩
        · rw [if_neg (by omega)]
          have hL' : ¬ (L : Int) < (n : Int) + 1 := by omega
          go_enter Tryz.func88, Tryz.ntmps88
          go_wp2
          go_quiet (fail)
          go_wp2_with (go_at_call 144; (with_reducible refine (hi.out _ (hb.out _)).mono ?_); rintro e w2 ⟨rfl, rfl⟩)
          go_ret
          exact ⟨rfl, hb.out _⟩

end Go.Proofs.YtpegbgomnpinfaaGreat
