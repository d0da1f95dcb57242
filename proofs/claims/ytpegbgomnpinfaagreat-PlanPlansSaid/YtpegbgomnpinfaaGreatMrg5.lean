/- Several texts in one: GeoD, Same. -/
import Derived.Test.YtpegbgomnpinfaaGreatMrg4
import Derived.Test.YtpegbgomnpinfaaGreatDiskB
import Derived.Test.YtpegbgomnpinfaaGreatRag
/- Geometries: the document's answers. -/
set_option linter.unusedVariables false
namespace Go.Proofs.YtpegbgomnpinfaaGreat
open Go.RowKit

set_option maxRecDepth 100000 in
set_option maxHeartbeats 2000000 in
theorem ref_check (m c s : Int) (w : World) : Calls Tryz.prog 44 #[geo m c s] w fun e w' => e = .returned (.int .i64 (geoCode m c s)) ∧ Below w.heap.size w w' := by
  have hb : Below w.heap.size w (w.alloc (.cells #[.int .i64 m, .int .i64 c, .int .i64 s] 23)) := (Below.refl _ _).alloc (Nat.le_refl _) _
  unfold geoCode
  by_cases h : geoIs m c s = true
  · rw [if_pos h]
    obtain ⟨h1, h2, h3, h4, h5, h6⟩ := (geoIs_iff m c s).1 h
    clear h
    unfold geo
    go_enter Tryz.func44, Tryz.ntmps44
    go_wp2
    go_ret
    exact ⟨rfl, hb⟩
  · rw [if_neg h]
    have h' : m < 3 ∨ (3 ≤ m ∧ 16 < m) ∨ (3 ≤ m ∧ m ≤ 16 ∧ c < 1) ∨ (3 ≤ m ∧ m ≤ 16 ∧ 1 ≤ c ∧ 16 < c) ∨ (3 ≤ m ∧ m ≤ 16 ∧ 1 ≤ c ∧ c ≤ 16 ∧ s < 1) ∨ (3 ≤ m ∧ m ≤ 16 ∧ 1 ≤ c ∧ c ≤ 16 ∧ 1 ≤ s ∧ 256 < s) := by
      rw [geoIs_iff] at h
      omega
    clear h
    unfold geo
    rcases h' with h1 | ⟨h1, h2⟩ | ⟨h1, h2, h3⟩ | ⟨h1, h2, h3, h4⟩ | ⟨h1, h2, h3, h4, h5⟩ | ⟨h1, h2, h3, h4, h5, h6⟩
    all_goals
      go_enter Tryz.func44, Tryz.ntmps44
      go_wp2
      go_ret
      exact ⟨rfl, hb⟩

set_option maxRecDepth 100000 in
set_option maxHeartbeats 2000000 in
theorem ref_rows (m c s : Int) (w : World) : Calls Tryz.prog 45 #[geo m c s] w fun e w' => e = .returned (.int .i64 (geoRows m c s)) ∧ Below w.heap.size w w' := by
  have hk := Lib.hid (fun W => ref_check m c s W)
  have hb : Below w.heap.size w (w.alloc (.cells #[.int .i64 m, .int .i64 c, .int .i64 s] 23)) := (Below.refl _ _).alloc (Nat.le_refl _) _
  have ha : At (w.alloc (.cells #[.int .i64 m, .int .i64 c, .int .i64 s] 23)) w.heap.size #[.int .i64 m, .int .i64 c, .int .i64 s] 23 := At.new _ _ _
  unfold geoRows geoCode at *
  have HA := Lib.hid ha
  have HL := Lib.hid ha.lt
  clear ha
  cases h : geoIs m c s
  · rw [h] at hk
    simp only [if_false, Bool.false_eq_true] at *
    unfold geo at *
    go_enter Tryz.func45, Tryz.ntmps45
    go_wp2_with (go_at_call 44; (with_reducible refine (hk.out _).mono ?_); rintro e w1 ⟨rfl, hb1⟩)
    go_ret
    exact ⟨rfl, below_then hb hb1⟩
  · obtain ⟨hlo, hhi⟩ := geo_bounds h
    rw [h] at hk
    simp only [if_true] at *
    unfold geo at *
    go_enter Tryz.func45, Tryz.ntmps45
    go_wp2_with (go_at_call 44; (with_reducible refine (hk.out _).mono ?_); rintro e w1 ⟨rfl, hb1⟩; have hA1 := HA.out.below hb1 HL.out; have c1 := hA1.cell 1; have c2 := hA1.cell 2; clear hA1)
    go_ret
    exact ⟨rfl, below_then hb hb1⟩

set_option maxRecDepth 100000 in
set_option maxHeartbeats 2000000 in
theorem ref_parity (M C S r : Nat) (w : World) (h : geoIs M C S = true) (hr : r < S * C) : Calls Tryz.prog 94 #[geo M C S, .int .i64 r] w fun e w' => e = .returned (.tuple #[.int .i64 (parOf M C r : Int), .int .i64 0]) ∧ Below w.heap.size w w' := by
  obtain ⟨h1, h2, h3, h4, h5, h6⟩ := (geoIs_iff M C S).1 h
  have hk := Lib.hid (fun W => ref_check M C S W)
  obtain ⟨hlo, hhi⟩ := geo_bounds h
  have hr' : (r : Int) < (S : Int) * (C : Int) := by exact_mod_cast hr
  have hdiv : r / C ≤ r := Nat.div_le_self _ _
  have hr2 : r / C ≤ 4096 := by omega
  have hlt : r / C % M < M := Nat.mod_lt _ (by omega)
  have e1 : ((parOf M C r : Nat) : Int) = (M : Int) - 1 - (r : Int) / (C : Int) % (M : Int) := by
    unfold parOf
    rw [show ((M - 1 - r / C % M : Nat) : Int) = (M : Int) - 1 - ((r / C % M : Nat) : Int) by omega, Int.natCast_emod, Int.natCast_ediv]
  have hd' : ((r / C : Nat) : Int) = (r : Int) / (C : Int) := Int.natCast_ediv r C
  have hq1 : 0 ≤ (r : Int) / (C : Int) := by rw [← hd']; exact Int.natCast_nonneg _
  have hq2 : (r : Int) / (C : Int) ≤ 4096 := by rw [← hd']; omega
  have hw : RowKit.wrap64 ((r : Int) / (C : Int)) = (r : Int) / (C : Int) := IntWalk.wrap64_in _ ⟨by omega, by omega⟩
  have hm1 : 0 ≤ (r : Int) / (C : Int) % (M : Int) := Int.emod_nonneg _ (by omega)
  have hm2 : (r : Int) / (C : Int) % (M : Int) < (M : Int) := Int.emod_lt_of_pos _ (by omega)
  have hw3 : RowKit.wrap64 ((M : Int) - 1 - (r : Int) / (C : Int) % (M : Int)) = (M : Int) - 1 - (r : Int) / (C : Int) % (M : Int) := IntWalk.wrap64_in _ ⟨by omega, by omega⟩
  unfold geoCode at hk
  rw [h] at hk
  simp only [if_true] at hk
  rw [e1]
  have hb : Below w.heap.size w (w.alloc (.cells #[.int .i64 M, .int .i64 C, .int .i64 S] 23)) := (Below.refl _ _).alloc (Nat.le_refl _) _
  have ha : At (w.alloc (.cells #[.int .i64 M, .int .i64 C, .int .i64 S] 23)) w.heap.size #[.int .i64 M, .int .i64 C, .int .i64 S] 23 := At.new _ _ _
  have HA := Lib.hid ha
  have HL := Lib.hid ha.lt
  clear ha hd' e1
  unfold geo at *
  go_enter Tryz.func94, Tryz.ntmps94
  go_wp2_with (go_at_call 44; (with_reducible refine (hk.out _).mono ?_); rintro e w1 ⟨rfl, hb1⟩; have hA1 := HA.out.below hb1 HL.out; have c0 := hA1.cell 0; have c1 := hA1.cell 1; have c2 := hA1.cell 2; clear hA1)
  go_quiet (fail)
  go_wp2
  go_ret2
  exact ⟨rfl, below_drewN (below_then hb hb1) _⟩

end Go.Proofs.YtpegbgomnpinfaaGreat

/- Lists that are the same: of bytes, of whole numbers. -/
set_option linter.unusedVariables false
namespace Go.Proofs.YtpegbgomnpinfaaGreat
open Go.RowKit

set_option maxRecDepth 100000 in
set_option maxHeartbeats 1000000 in
theorem same_any (u v : Value) (l m : List UInt8) (w : World) (hl : l.length ≤ 9223372036854775807) (hm : m.length ≤ 9223372036854775807) (hu : Seg w u l) (hv : Seg w v m) :
    Calls Tryz.prog 17 #[u, v] w fun e w' => e = .returned (.bool (decide (l = m))) ∧ Below w.heap.size w w' := by
  obtain ⟨a, c, rfl⟩ := hu.shape
  obtain ⟨b, d, rfl⟩ := hv.shape
  by_cases hlen : l.length = m.length
  · have hne : ((l.length : Int) != (m.length : Int)) = false := by simp; omega
    go_enter Tryz.func17, Tryz.ntmps17
    go_wp2_with fail
    go_loopw [5] (fun i wr => ∃ k : Nat, k ≤ l.length ∧ i = .int .i64 k ∧ l.take k = m.take k ∧ Below w.heap.size w wr) (fun i _ => l.length - (intOf i).toNat)
    case atStart => exact ⟨0, Nat.zero_le _, rfl, rfl, Below.refl _ _⟩
    case round =>
      obtain ⟨k, hk, rfl, htake, hbw⟩ := hrel
      have Hlen := Lib.hid hlen
      have Htake := Lib.hid htake
      clear htake hlen
      by_cases hlt : k < l.length
      · have hlt' : k < m.length := by have := Hlen.out; omega
        obtain ⟨b1, o1, c1, e1, hb1, h1⟩ := Seg.full (hu.below hbw) (by omega)
        obtain ⟨b2, o2, c2, e2, hb2, h2⟩ := Seg.full (hv.below hbw) (by omega)
        simp only [Value.slice.injEq] at e1 e2
        obtain ⟨rfl, _, rfl⟩ := e1
        obtain ⟨rfl, _, rfl⟩ := e2
        have c1 := h1 k hlt
        have c2 := h2 k hlt'
        have hx := u8_ne l[k] m[k]
        clear h1 h2 hu hv
        by_cases heq : l[k] = m[k]
        · rw [decide_eq_true heq] at hx
          have Hn := Lib.hid (take_eq_succ Htake.out hlt hlt' heq)
          generalize l[k] = x at *
          generalize m[k] = y at *
          clear heq
          go_wp2
          go_quiet (fail)
          go_wp2
          go_roundw
          case rel => exact ⟨k + 1, by omega, by go_num, Hn.out, below_drewN hbw _⟩
          case measure => simp [intOf]; omega
        · rw [decide_eq_false heq] at hx
          have Hn := Lib.hid (show decide (l = m) = false from decide_eq_false fun e => heq (by subst e; rfl))
          generalize l[k] = x at *
          generalize m[k] = y at *
          clear heq
          go_wp2
          go_quiet (fail)
          go_wp2
          go_ret
          exact ⟨by rw [Hn.out]; rfl, below_drewN hbw _⟩
      · have Hn := Lib.hid (show decide (l = m) = true from decide_eq_true (by
          have h := Htake.out
          rw [List.take_of_length_le (by omega), List.take_of_length_le (by have := Hlen.out; omega)] at h
          exact h))
        clear hu hv
        go_wp2
        go_ret
        exact ⟨by rw [Hn.out]; rfl, hbw⟩
  · have hne : ((l.length : Int) != (m.length : Int)) = true := by simp; omega
    have Hn := Lib.hid (show decide (l = m) = false from decide_eq_false fun e => hlen (by rw [e]))
    clear hlen hu hv
    go_enter Tryz.func17, Tryz.ntmps17
    go_wp2
    go_ret
    exact ⟨by rw [Hn.out]; rfl, Below.refl _ _⟩

/-- A list of whole numbers, to be read. -/
def ISeg (w : World) (v : Value) (l : List Nat) : Prop :=
  ∃ a c, v = .slice a l.length c ∧ (l = [] ∨ ∃ b o, a = some ⟨b, o, none⟩ ∧ b < w.heap.size ∧ ∀ j (h : j < l.length), w.cell? ⟨b, o + j, none⟩ = some (.int .i64 ((l[j] : Nat) : Int)))

theorem ISeg.below {w w' : World} {v : Value} {l : List Nat} (h : ISeg w v l) (hb : Below w.heap.size w w') : ISeg w' v l := by
  obtain ⟨a, c, h1, h2⟩ := h
  refine ⟨a, c, h1, ?_⟩
  rcases h2 with h2 | ⟨b, o, h3, h4, h5⟩
  · exact .inl h2
  · exact .inr ⟨b, o, h3, Nat.lt_of_lt_of_le h4 hb.size, fun j hj => (hb.cell (p := ⟨b, o + j, none⟩) h4).trans (h5 j hj)⟩
theorem ISeg.shape {w : World} {v : Value} {l : List Nat} (h : ISeg w v l) : ∃ a c, v = .slice a l.length c := by
  obtain ⟨a, c, h1, _⟩ := h
  exact ⟨a, c, h1⟩
theorem ISeg.full {w : World} {a : Option Addr} {n c : Nat} {l : List Nat} (h : ISeg w (.slice a n c) l) (hl : 0 < l.length) : ∃ b o, a = some ⟨b, o, none⟩ ∧ b < w.heap.size ∧ ∀ j (h : j < l.length), w.cell? ⟨b, o + j, none⟩ = some (.int .i64 ((l[j] : Nat) : Int)) := by
  obtain ⟨a', c', h1, h2⟩ := h
  simp only [Value.slice.injEq] at h1
  obtain ⟨rfl, -, rfl⟩ := h1
  rcases h2 with h2 | h2
  · subst h2; simp at hl
  · exact h2

set_option maxRecDepth 100000 in
set_option maxHeartbeats 1000000 in
theorem same_ints (u v : Value) (l m : List Nat) (w : World) (hl : l.length ≤ 1000000) (hm : m.length ≤ 1000000) (hu : ISeg w u l) (hv : ISeg w v m) :
    Calls Tryz.prog 64 #[u, v] w fun e w' => e = .returned (.bool (decide (l = m))) ∧ Below w.heap.size w w' := by
  obtain ⟨a, c, rfl⟩ := hu.shape
  obtain ⟨b, d, rfl⟩ := hv.shape
  by_cases hlen : l.length = m.length
  · have hne : ((l.length : Int) != (m.length : Int)) = false := by simp; omega
    go_enter Tryz.func64, Tryz.ntmps64
    go_wp2_with fail
    go_loopw [5] (fun i wr => ∃ k : Nat, k ≤ l.length ∧ i = .int .i64 k ∧ l.take k = m.take k ∧ Below w.heap.size w wr) (fun i _ => l.length - (intOf i).toNat)
    case atStart => exact ⟨0, Nat.zero_le _, rfl, rfl, Below.refl _ _⟩
    case round =>
      obtain ⟨k, hk, rfl, htake, hbw⟩ := hrel
      have Hlen := Lib.hid hlen
      have Htake := Lib.hid htake
      clear htake hlen
      by_cases hlt : k < l.length
      · have hlt' : k < m.length := by have := Hlen.out; omega
        obtain ⟨b1, o1, rfl, hb1, h1⟩ := ISeg.full (hu.below hbw) (by omega)
        obtain ⟨b2, o2, rfl, hb2, h2⟩ := ISeg.full (hv.below hbw) (by omega)
        have c1 := h1 k hlt
        have c2 := h2 k hlt'
        clear h1 h2 hu hv
        by_cases heq : l[k] = m[k]
        · have hx : (((l[k] : Nat) : Int) != ((m[k] : Nat) : Int)) = false := by rw [heq]; simp
          have Hn := Lib.hid (take_eq_succ Htake.out hlt hlt' heq)
          generalize l[k] = x at *
          generalize m[k] = y at *
          clear heq
          go_wp2
          go_quiet (fail)
          go_wp2
          go_roundw
          case rel => exact ⟨k + 1, by omega, by go_num, Hn.out, below_drewN hbw _⟩
          case measure => simp [intOf]; omega
        · have hx : (((l[k] : Nat) : Int) != ((m[k] : Nat) : Int)) = true := by simp only [bne_iff_ne, ne_eq]; omega
          have Hn := Lib.hid (show decide (l = m) = false from decide_eq_false fun e => heq (by subst e; rfl))
          generalize l[k] = x at *
          generalize m[k] = y at *
          clear heq
          go_wp2
          go_quiet (fail)
          go_wp2
          go_ret
          exact ⟨by rw [Hn.out]; rfl, below_drewN hbw _⟩
      · have Hn := Lib.hid (show decide (l = m) = true from decide_eq_true (by
          have h := Htake.out
          rw [List.take_of_length_le (by omega), List.take_of_length_le (by have := Hlen.out; omega)] at h
          exact h))
        clear hu hv
        go_wp2
        go_ret
        exact ⟨by rw [Hn.out]; rfl, hbw⟩
  · have hne : ((l.length : Int) != (m.length : Int)) = true := by simp; omega
    have Hn := Lib.hid (show decide (l = m) = false from decide_eq_false fun e => hlen (by rw [e]))
    clear hlen hu hv
    go_enter Tryz.func64, Tryz.ntmps64
    go_wp2
    go_ret
    exact ⟨by rw [Hn.out]; rfl, Below.refl _ _⟩

end Go.Proofs.YtpegbgomnpinfaaGreat
