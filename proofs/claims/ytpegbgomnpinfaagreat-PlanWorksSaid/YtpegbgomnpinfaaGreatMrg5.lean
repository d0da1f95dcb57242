/- Several texts in one: PlnN, PlnC. -/
import Derived.Test.YtpegbgomnpinfaaGreatMrg4
/- geom.Of: where a block lies that is there. -/
set_option linter.unusedVariables false
namespace Go.Proofs.YtpegbgomnpinfaaGreat
open Go.RowKit

theorem le_small {x : Nat} (h : x ≤ 100000) : (x : Int) ≤ 100000000 := by omega
theorem le_small2 {x y : Nat} (h : x + y ≤ 100000) : (x : Int) + (y : Int) ≤ 100000000 := by omega
theorem wr_small {x : Int} (h0 : 0 ≤ x) (h1 : x ≤ 100000000) : IntKind.i64.wrap x = x := (IntWalk.i64_left _).trans (IntWalk.wrap64_in _ ⟨by omega, by omega⟩)
theorem wr_small' {x : Int} (h0 : 0 ≤ x) (h1 : x ≤ 100000000) : RowKit.wrap64 x = x := IntWalk.wrap64_in _ ⟨by omega, by omega⟩

set_option maxRecDepth 100000 in
set_option maxHeartbeats 8000000 in
theorem geom_Of_ok (M C S b : Nat) (w : World) (h : geoIs M C S = true) (hb : b < S * C * (M - 1)) : Calls Tryz.prog 171 #[geo M C S, .int .i64 b] w fun e w' => (∃ t p : Int, e = .returned (.tuple #[placeVal t (rowOf M C b : Nat) (membOf M C b : Nat) p, .int .u16 0])) ∧ Below w.heap.size w w' := by
  obtain ⟨h1, h2, h3, h4, h5, h6⟩ := (geoIs_iff M C S).1 h
  have hk := Lib.hid (fun W => geom_of M C S W)
  have hro := Lib.hid (fun d W => shape_rows M C S d W h)
  obtain ⟨hlo, hhi⟩ := geo_bounds h
  have hSC : S * C ≤ 4096 := by exact_mod_cast hhi
  unfold geoCode at hk
  rw [h] at hk
  simp only [if_true] at hk
  have hb' : (b : Int) < (S : Int) * C * ((M : Int) - 1) := by
    have e1 : ((M - 1 : Nat) : Int) = (M : Int) - 1 := by omega
    rw [← e1]
    exact_mod_cast hb
  have hD0 : 0 < (M - 1) * C := Nat.mul_pos (by omega) (by omega)
  have hD1 : (M - 1) * C ≤ 15 * 16 := Nat.mul_le_mul (by omega) (by omega)
  have hDe : ((M : Int) - 1) * (C : Int) = (((M - 1) * C : Nat) : Int) := by
    rw [Int.natCast_mul]
    congr 1
    omega
  have hbl : b ≤ 4096 * 15 := by
    have : S * C * (M - 1) ≤ 4096 * 15 := Nat.mul_le_mul hSC (by omega)
    omega
  have hT0 : b / ((M - 1) * C) ≤ 4096 := by
    rw [Nat.div_le_iff_le_mul_add_pred hD0]
    have : S * C * (M - 1) = S * ((M - 1) * C) := by rw [Nat.mul_assoc, Nat.mul_comm C]
    have h3 : b < S * ((M - 1) * C) := by omega
    have h4 : S * ((M - 1) * C) ≤ 256 * ((M - 1) * C) := Nat.mul_le_mul_right _ (by omega)
    have h5 : 256 * ((M - 1) * C) ≤ 4096 * ((M - 1) * C) := Nat.mul_le_mul_right _ (by omega)
    rw [Nat.mul_comm ((M - 1) * C) 4096]
    omega
  have hI0 : b % ((M - 1) * C) < (M - 1) * C := Nat.mod_lt _ hD0
  unfold rowOf membOf stripeOf
  generalize hD : (M - 1) * C = D at *
  have hTe : (b : Int) / (D : Int) = ((b / D : Nat) : Int) := rfl
  have hIe : Int.tmod (b : Int) (D : Int) = ((b % D : Nat) : Int) := rfl
  have hme := Lib.hid (fun d W => shape_member M C S (b / D) (b % D / C) d W h hT0 (by have := Nat.div_le_self (b % D) C; omega))
  have hpa := Lib.hid (fun d W => shape_parity M C S (b / D) d W h hT0)
  have hX0 : b / D * C ≤ 4096 * 16 := Nat.mul_le_mul hT0 (by omega)
  have hXe : ((b / D : Nat) : Int) * (C : Int) = ((b / D * C : Nat) : Int) := (Int.natCast_mul _ _).symm
  have hJe : ((b % D : Nat) : Int) / (C : Int) = ((b % D / C : Nat) : Int) := rfl
  have hKe : Int.tmod ((b % D : Nat) : Int) (C : Int) = ((b % D % C : Nat) : Int) := rfl
  have hK0 : b % D % C < C := Nat.mod_lt _ (by omega)
  have hJ0 : b % D / C ≤ 300 := by have := Nat.div_le_self (b % D) C; omega
  generalize memOf M (b / D) (b % D / C) = mm at *
  generalize M - 1 - b / D % M = pp at *
  generalize b / D * C = X at *
  generalize b % D / C = J at *
  generalize b % D % C = K at *
  generalize b / D = T at *
  generalize b % D = I at *
  have hX1 : X ≤ 65536 := hX0
  have hXK : X + K ≤ 100000 := by clear hb hb' hbl hD0 hD1 hI0 hme hpa hk hro hhi hlo hSC; omega
  have hD2 : D ≤ 240 := hD1
  have hb2 : b ≤ 61440 := hbl
  have hhi2 : (S : Int) * (C : Int) ≤ 4096 := hhi
  have hlo2 : 0 ≤ (S : Int) * (C : Int) := hlo
  clear hb hI0 hSC hD hX0 hbl hD1 hlo hhi hK0
  have hCn : ¬ (C : Int) = 0 := by clear hb' hhi2 hlo2; omega
  have hDn : ¬ (D : Int) = 0 := by clear hb' hhi2 hlo2; omega
  have hCn' : ¬ C = 0 := by clear hb' hhi2 hlo2; omega
  have hDn' : ¬ D = 0 := by clear hb' hhi2 hlo2; omega
  have i1 : (D : Int) ≤ 100000000 := le_small (Nat.le_trans hD2 (by decide))
  have i2 : (T : Int) ≤ 100000000 := le_small (Nat.le_trans hT0 (by decide))
  have i3 : (X : Int) ≤ 100000000 := le_small (Nat.le_trans hX1 (by decide))
  have i4 : (X : Int) + (K : Int) ≤ 100000000 := le_small2 hXK
  have i5 : (J : Int) ≤ 100000000 := le_small (Nat.le_trans hJ0 (by decide))
  have w1' := wr_small (Int.natCast_nonneg D) i1
  have w2' := wr_small' (Int.natCast_nonneg D) i1
  have w3' := wr_small (Int.natCast_nonneg T) i2
  have w4' := wr_small' (Int.natCast_nonneg T) i2
  have w5' := wr_small (Int.natCast_nonneg X) i3
  have w6' := wr_small' (Int.natCast_nonneg X) i3
  have w7' := wr_small (Int.add_nonneg (Int.natCast_nonneg X) (Int.natCast_nonneg K)) i4
  have w8' := wr_small' (Int.add_nonneg (Int.natCast_nonneg X) (Int.natCast_nonneg K)) i4
  have w9' := wr_small (Int.natCast_nonneg J) i5
  have wa' := wr_small' (Int.natCast_nonneg J) i5
  clear i1 i2 i3 i4 i5
  generalize (S : Int) * (C : Int) = q at *
  have hM15 : (M : Int) - 1 ≤ 15 := by clear hb' hhi2 hlo2; omega
  have hM0 : 0 ≤ (M : Int) - 1 := by clear hb' hhi2 hlo2; omega
  have hp1 : q * ((M : Int) - 1) ≤ 4096 * 15 := Int.mul_le_mul hhi2 hM15 hM0 (by decide)
  have hp0 : 0 ≤ q * ((M : Int) - 1) := Int.mul_nonneg hlo2 hM0
  have hpw := wr_small hp0 (Int.le_trans hp1 (by decide))
  have hpw' := wr_small' hp0 (Int.le_trans hp1 (by decide))
  have hn1 : decide ((b : Int) < 0) = false := decide_eq_false (Int.not_lt.2 (Int.natCast_nonneg b))
  have hn2 : decide (q * ((M : Int) - 1) ≤ (b : Int)) = false := decide_eq_false (Int.not_le.2 hb')
  have hb0 : Below w.heap.size w ((w.alloc (.cells #[.int .i64 M, .int .i64 C, .int .i64 S] 23)).alloc (.cells #[.int .i64 0, .int .i64 0, .int .i64 0, .int .i64 0] 258)) := ((Below.refl _ _).alloc (Nat.le_refl _) _).alloc (by rw [size_alloc]; omega) _
  have HR0 : Hid (At ((w.alloc (.cells #[.int .i64 M, .int .i64 C, .int .i64 S] 23)).alloc (.cells #[.int .i64 0, .int .i64 0, .int .i64 0, .int .i64 0] 258)) (w.heap.size + 1) #[.int .i64 0, .int .i64 0, .int .i64 0, .int .i64 0] 258) := At.new2 _ _ _ _
  clear hb' hT0 hlo2 hhi2 hp0 hp1 hD0 hX1 hXK hD2 hb2 hJ0 hM15 hM0
  unfold geo shp placeVal at *
  go_enter Tryz.func171, Tryz.ntmps171
  go_wp2_with (go_at_call 153; (with_reducible refine (hk.out _).mono ?_); rintro e w1 ⟨d, rfl, hd, hb1⟩; have hr1 := (HR0.out.below hb1 HR0.out.lt).alloc (.cells #[.int .i64 M, .int .i64 C, .int .i64 S, .int .i64 ((M : Int) - 1)] 240); have HR1 := Lib.hid hr1; have HB1 := Lib.hid ((below_then hb0 hb1).alloc (below_then hb0 hb1).size (.cells #[.int .i64 M, .int .i64 C, .int .i64 S, .int .i64 ((M : Int) - 1)] 240)); have HA1 : Hid (At (w1.alloc (.cells #[.int .i64 M, .int .i64 C, .int .i64 S, .int .i64 ((M : Int) - 1)] 240)) w1.heap.size #[.int .i64 M, .int .i64 C, .int .i64 S, .int .i64 ((M : Int) - 1)] 240) := At.new _ _ _; clear hr1 hb1)
  generalize w1.alloc (.cells #[.int .i64 M, .int .i64 C, .int .i64 S, .int .i64 ((M : Int) - 1)] 240) = W1 at *
  have HAD : Hid (At W1.drew w1.heap.size #[.int .i64 M, .int .i64 C, .int .i64 S, .int .i64 ((M : Int) - 1)] 240) := HA1.out.drew
  have HH : Hid (∀ X, At X w1.heap.size #[.int .i64 M, .int .i64 C, .int .i64 S, .int .i64 ((M : Int) - 1)] 240 → X.cell? ⟨w1.heap.size, 0, none⟩ = some (.int .i64 M) ∧ X.cell? ⟨w1.heap.size, 1, none⟩ = some (.int .i64 C) ∧ X.cell? ⟨w1.heap.size, 2, none⟩ = some (.int .i64 S) ∧ X.cell? ⟨w1.heap.size, 3, none⟩ = some (.int .i64 ((M : Int) - 1))) := fun X h => ⟨h.cell 0, h.cell 1, h.cell 2, h.cell 3⟩
  go_region_held3 (fun w' => w'.cell? ⟨w1.heap.size, 0, none⟩ = some (.int .i64 M) ∧ w'.cell? ⟨w1.heap.size, 1, none⟩ = some (.int .i64 C) ∧ w'.cell? ⟨w1.heap.size, 2, none⟩ = some (.int .i64 S) ∧ w'.cell? ⟨w1.heap.size, 3, none⟩ = some (.int .i64 ((M : Int) - 1)))
    (first | with_reducible exact HH.out _ HA1.out | with_reducible exact HH.out _ HAD.out | with_reducible exact HH.out _ HAE.out)
    (first | (go_at_call 154; (with_reducible refine (hro.out _ _).mono ?_); rintro e w3 ⟨rfl, hb3⟩; have HAE := Lib.hid (HAD.out.below hb3 HAD.out.lt); have HR3 := Lib.hid (HR1.out.drew.below hb3 HR1.out.lt); have HB3 := Lib.hid (below_then HB1.out.drew hb3); clear hb3))
  clear HAD HA1 HR1 HB1
  obtain ⟨k0, k1, k2, k3⟩ := HH.out _ HAE.out
  go_wp2
  go_quiet (fail)
  have HA4 : Hid (At (w3.drewN nq) w1.heap.size #[.int .i64 M, .int .i64 C, .int .i64 S, .int .i64 ((M : Int) - 1)] 240) := HAE.out
  have HR4 : Hid (At (w3.drewN nq) (w.heap.size + 1) #[.int .i64 0, .int .i64 0, .int .i64 0, .int .i64 0] 258) := HR3.out
  have HB4 := Lib.hid (below_drewN HB3.out nq)
  clear k0 k1 k2 k3 HAE HR3 HB3 hTe hIe hDe hpw hpw' hn1 hn2
  generalize w3.drewN nq = w4 at *
  have HAD : Hid (At w4.drew w1.heap.size #[.int .i64 M, .int .i64 C, .int .i64 S, .int .i64 ((M : Int) - 1)] 240) := HA4.out.drew
  have HRD : Hid (At w4.drew (w.heap.size + 1) #[.int .i64 0, .int .i64 0, .int .i64 0, .int .i64 0] 258) := HR4.out.drew
  have HBD : Hid (Below w.heap.size w w4.drew) := HB4.out.drew
  have hne : w1.heap.size ≠ w.heap.size + 1 := fun e => by
    have h1 := HA4.out
    have h2 := HR4.out
    rw [e] at h1
    unfold At at h1 h2
    rw [h1] at h2
    simp only [Option.some.injEq, Obj.cells.injEq] at h2
    exact absurd h2.2.1 (by decide)
  go_wp2
  go_region_held3 (fun w' => w'.cell? ⟨w1.heap.size, 0, none⟩ = some (.int .i64 M) ∧ w'.cell? ⟨w1.heap.size, 1, none⟩ = some (.int .i64 C) ∧ w'.cell? ⟨w1.heap.size, 2, none⟩ = some (.int .i64 S) ∧ w'.cell? ⟨w1.heap.size, 3, none⟩ = some (.int .i64 ((M : Int) - 1)))
    (first | with_reducible exact HH.out _ HA4.out | with_reducible exact HH.out _ HAD.out | with_reducible exact HH.out _ HA5.out | with_reducible exact HH.out _ HA6.out | with_reducible exact HH.out _ HA7.out)
    (first
      | (go_at_call 155; (with_reducible refine (hme.out _ w4.drew).mono ?_); rintro e w5 ⟨rfl, hb5⟩; have HA5 := Lib.hid (HAD.out.below hb5 HAD.out.lt); have HR5 := Lib.hid (HRD.out.below hb5 HRD.out.lt); have HB5 := Lib.hid (below_then HBD.out hb5); clear hb5)
      | (go_at_call 162; (with_reducible refine (hpa.out _ w4.drew).mono ?_); rintro e w5 ⟨rfl, hb5⟩; have HA5 := Lib.hid (HAD.out.below hb5 HAD.out.lt); have HR5 := Lib.hid (HRD.out.below hb5 HRD.out.lt); have HB5 := Lib.hid (below_then HBD.out hb5); clear hb5)
      | (go_at_call 155; (with_reducible refine (hme.out _ w5).mono ?_); rintro e w6 ⟨rfl, hb6⟩; have HA6 := Lib.hid (HA5.out.below hb6 HA5.out.lt); have hr6 := HR5.out.below hb6 HR5.out.lt; have HB6 := Lib.hid (below_then HB5.out hb6); have d0 := hr6.cell 0; have d1 := hr6.cell 1; have d2 := hr6.cell 2; have d3 := hr6.cell 3; have f0 := hr6.free 0; have f1 := hr6.free 1; have f2 := hr6.free 2; have f3 := hr6.free 3; have HR6 := Lib.hid hr6; have HA7 := Lib.hid ((((HA6.out.setOther (a := ⟨w.heap.size + 1, 0, none⟩) hne (.int .i64 T)).setOther (a := ⟨w.heap.size + 1, 1, none⟩) hne (.int .i64 ((X : Int) + (K : Int)))).setOther (a := ⟨w.heap.size + 1, 2, none⟩) hne (.int .i64 mm)).setOther (a := ⟨w.heap.size + 1, 3, none⟩) hne (.int .i64 pp)); clear hr6 hb6)
      | (go_at_call 162; (with_reducible refine (hpa.out _ w5).mono ?_); rintro e w6 ⟨rfl, hb6⟩; have HA6 := Lib.hid (HA5.out.below hb6 HA5.out.lt); have hr6 := HR5.out.below hb6 HR5.out.lt; have HB6 := Lib.hid (below_then HB5.out hb6); have d0 := hr6.cell 0; have d1 := hr6.cell 1; have d2 := hr6.cell 2; have d3 := hr6.cell 3; have f0 := hr6.free 0; have f1 := hr6.free 1; have f2 := hr6.free 2; have f3 := hr6.free 3; have HR6 := Lib.hid hr6; have HA7 := Lib.hid ((((HA6.out.setOther (a := ⟨w.heap.size + 1, 0, none⟩) hne (.int .i64 T)).setOther (a := ⟨w.heap.size + 1, 1, none⟩) hne (.int .i64 ((X : Int) + (K : Int)))).setOther (a := ⟨w.heap.size + 1, 2, none⟩) hne (.int .i64 mm)).setOther (a := ⟨w.heap.size + 1, 3, none⟩) hne (.int .i64 pp)); clear hr6 hb6))
  all_goals
    have HF := (((HR6.out.set 0 (.int .i64 T)).set 1 (.int .i64 ((X : Int) + (K : Int)))).set 2 (.int .i64 mm)).set 3 (.int .i64 pp)
    have r0 := HF.cell 0
    have r1 := HF.cell 1
    have r2 := HF.cell 2
    have r3 := HF.cell 3
    clear d0 d1 d2 d3 f0 f1 f2 f3
    go_wp2
    (try simp only [Exit.inBlock, Exit.then])
    refine bodyPost_ret (v := .tuple #[.agg #[.int .i64 T, .int .i64 ((X : Int) + (K : Int)), .int .i64 mm, .int .i64 pp], .int .u16 0]) ?_ rfl ⟨⟨T, pp, by rw [Int.natCast_add]⟩, (((HB6.out.setCell (p := ⟨w.heap.size + 1, 0, none⟩) (Nat.le_succ _) _).setCell (p := ⟨w.heap.size + 1, 1, none⟩) (Nat.le_succ _) _).setCell (p := ⟨w.heap.size + 1, 2, none⟩) (Nat.le_succ _) _).setCell (p := ⟨w.heap.size + 1, 3, none⟩) (Nat.le_succ _) _⟩
    rw [results_cell_tmp rfl]
    go_simp
    try rfl

end Go.Proofs.YtpegbgomnpinfaaGreat

/- plan.of: the row that patches are of. -/
set_option linter.unusedVariables false
namespace Go.Proofs.YtpegbgomnpinfaaGreat
open Go.RowKit

/-- At most one is true. -/
def Lone (d : Nat → Bool) (M : Nat) : Prop := ∀ i j, i < M → j < M → d i = true → d j = true → i = j

/-- What may be planned. -/
structure PlanOk (M C S : Nat) (d : Nat → Bool) (ps : List Pat) (r : Nat) : Prop where
  hg : geoIs M C S = true
  hr : r < S * C
  ne : 0 < ps.length
  rows : ∀ p ∈ ps, p.r = (r : Int)
  lo : ∀ p ∈ ps, 0 ≤ p.m
  hi : ∀ p ∈ ps, p.m < (M : Int)
  np : ∀ p ∈ ps, p.m ≠ ((parOf M C r : Nat) : Int)
  rising : ∀ i j (hi : i < ps.length) (hj : j < ps.length), i < j → ps[i].m < ps[j].m
  len : ∀ p ∈ ps, p.d.length = 128
  lone : Lone d M

structure RowAt (W : World) (q M C S : Nat) (vd vp : Value) (d : Nat → Bool) (ps : List Pat) (r : Nat) : Prop where
  at' : At W q #[.int .i64 M, .int .i64 C, .int .i64 S, vd, vp, .int .i64 ((parOf M C r : Nat) : Int)] 162
  ds : BSeg W vd d M
  pt : PSeg W vp ps
theorem RowAt.below {W W' : World} {q M C S : Nat} {vd vp : Value} {d : Nat → Bool} {ps : List Pat} {r : Nat} (h : RowAt W q M C S vd vp d ps r) (hb : Below W.heap.size W W') : RowAt W' q M C S vd vp d ps r :=
  ⟨h.at'.below hb h.at'.lt, h.ds.below hb, h.pt.below hb⟩

/-- The member ahead of the k-th patch. -/
def lastOf (ps : List Pat) (k : Nat) : Int := if h : 0 < k ∧ k - 1 < ps.length then (ps[k - 1]'h.2).m else -1
theorem lastOf_lt {M C S : Nat} {d : Nat → Bool} {ps : List Pat} {r : Nat} (h : PlanOk M C S d ps r) (k : Nat) (hk : k < ps.length) : lastOf ps k < ps[k].m := by
  unfold lastOf
  split
  · rename_i hh
    exact h.rising _ _ hh.2 hk (by omega)
  · have := h.lo _ (List.getElem_mem hk)
    omega
theorem lastOf_succ (ps : List Pat) (k : Nat) (hk : k < ps.length) : lastOf ps (k + 1) = ps[k].m := by
  unfold lastOf
  rw [dif_pos ⟨by omega, by simpa using hk⟩]
  simp

/-- How many are lost. -/
def LostIs (d : Nat → Bool) (k : Nat) (z : Int) : Prop := (z = 0 ∧ ∀ i, i < k → d i = false) ∨ (z = 1 ∧ ∃ i, i < k ∧ d i = true)

set_option maxRecDepth 100000 in
set_option maxHeartbeats 8000000 in
theorem plan_of (M C S r : Nat) (vd vp : Value) (d : Nat → Bool) (ps : List Pat) (w : World) (ok : PlanOk M C S d ps r) (hd : BSeg w vd d M) (hp : PSeg w vp ps) :
    Calls Tryz.prog 84 #[geo M C S, vd, vp] w fun e w' => ∃ q, e = .returned (.tuple #[.pointer (some ⟨q, 0, none⟩), .int .u16 0]) ∧ RowAt w' q M C S vd vp d ps r ∧ Below w.heap.size w w' ∧ w.heap.size ≤ q := by
  obtain ⟨h1, h2, h3, h4, h5, h6⟩ := (geoIs_iff M C S).1 ok.hg
  have hk := Lib.hid (fun W => geom_check M C S W)
  have hpar := Lib.hid (fun W => geom_parity M C S r W ok.hg ok.hr)
  have hat : Hid (∀ m : Int, 0 ≤ m → m < (M : Int) → ∀ W, Calls Tryz.prog 108 #[geo M C S, .int .i64 m, .int .i64 r] W fun e w' => (∃ b p, e = .returned (.tuple #[.int .i64 b, .bool p, .int .u16 0])) ∧ Below W.heap.size W w') := fun m hm0 hm1 W => by
    obtain ⟨k, rfl⟩ := Int.eq_ofNat_of_zero_le hm0
    exact geom_at_ok M C S k r W ok.hg (by exact_mod_cast hm1) ok.hr
  unfold geoCode at hk
  rw [ok.hg] at hk
  simp only [if_true] at hk
  have hpl : parOf M C r < M := by unfold parOf; omega
  generalize hpp : parOf M C r = par at *
  have HD := Lib.hid hd
  have HP := Lib.hid hp
  have HO := Lib.hid ok
  have hn0 := ok.ne
  have hn1 : ((ps.length : Int) == 0) = false := by simp; intro h; rw [h] at hn0; simp at hn0
  have hfew := hp.few
  have hb0 : Below w.heap.size w (w.alloc (.cells #[.int .i64 M, .int .i64 C, .int .i64 S] 23)) := (Below.refl _ _).alloc (Nat.le_refl _) _
  have HA : Hid (At (w.alloc (.cells #[.int .i64 M, .int .i64 C, .int .i64 S] 23)) w.heap.size #[.int .i64 M, .int .i64 C, .int .i64 S] 23) := At.new _ _ _
  obtain ⟨da, dc, rfl⟩ := hd.shape
  obtain ⟨pa, pc, rfl⟩ := hp.shape
  clear hd hp ok
  unfold geo at *
  go_enter Tryz.func84, Tryz.ntmps84
  go_wp2_with (go_at_call 101; (with_reducible refine (hk.out _).mono ?_); rintro e w1 ⟨rfl, hb1⟩; have ha1 := HA.out.below hb1 HA.out.lt; have c0 := ha1.cell 0; have c1 := ha1.cell 1; have c2 := ha1.cell 2; have HA1 := Lib.hid ha1; have HB1 := Lib.hid (below_then hb0 hb1); clear ha1)
  clear c0 c1 c2
  go_loopw [39] (fun q wr => ∃ k : Nat, k ≤ ps.length ∧ q = .int .i64 k ∧ Below w.heap.size w wr ∧ At wr w.heap.size #[.int .i64 M, .int .i64 C, .int .i64 S] 23) (fun q _ => ps.length - (intOf q).toNat)
  case atStart => exact ⟨0, by omega, rfl, HB1.out, HA1.out⟩
  case round =>
    obtain ⟨k, hk', rfl, hbw, hag⟩ := hrel
    have HG := Lib.hid hag
    have hlt0 := hag.lt
    have c0 := hag.cell 0
    have c1 := hag.cell 1
    have c2 := hag.cell 2
    clear hag
    by_cases hkn : k < ps.length
    · obtain ⟨b, o, rfl, hlt, hx⟩ := PSeg.full (HP.out.below hbw) (by omega)
      obtain ⟨p0, p1, u, p2, hu⟩ := hx k hkn
      obtain ⟨ua, uc, rfl⟩ := hu.shape
      have K1 : Hid (k + 1 ≤ ps.length) := hkn
      have hm0 := HO.out.lo _ (List.getElem_mem hkn)
      have hm1 := HO.out.hi _ (List.getElem_mem hkn)
      have hat' := Lib.hid (hat.out _ hm0 hm1)
      rw [HO.out.rows _ (List.getElem_mem hkn)] at p1
      clear hx hu
      generalize ps[k].d.length = n at *
      generalize ps[k].m = x at *
      as_aux_lemma =>
        go_wp2_with (go_at_call 108; (with_reducible refine (hat'.out _).mono ?_); rintro e w2 ⟨⟨zb, zp, rfl⟩, hb2⟩)
        refine ⟨⟨k + 1, K1.out, by go_num, below_then (hbw.alloc hbw.size _) hb2, (HG.out.alloc _).below hb2 (by rw [size_alloc]; omega)⟩, by simp [intOf]; omega⟩
    · obtain rfl : k = ps.length := by omega
      obtain ⟨b, o, rfl, hlt, hx⟩ := PSeg.full (HP.out.below hbw) (by omega)
      obtain ⟨p0, p1, -⟩ := hx 0 (by omega)
      simp only [Nat.zero_mul, Nat.add_zero] at p0 p1
      rw [HO.out.rows _ (List.getElem_mem (by omega))] at p1
      obtain ⟨W0, hW0⟩ : ∃ W0, W0 = wr.alloc (.cells #[.int .i64 M, .int .i64 C, .int .i64 S, .slice da M dc, .slice (some ⟨b, o, none⟩) ps.length pc, .int .i64 0] 162) := ⟨_, rfl⟩
      have hr0 : At W0 wr.heap.size #[.int .i64 M, .int .i64 C, .int .i64 S, .slice da M dc, .slice (some ⟨b, o, none⟩) ps.length pc, .int .i64 0] 162 := by rw [hW0]; exact At.new _ _ _
      have hg0 : At W0 w.heap.size #[.int .i64 M, .int .i64 C, .int .i64 S] 23 := by rw [hW0]; exact HG.out.alloc _
      have hbw0 : Below w.heap.size w W0 := by rw [hW0]; exact hbw.alloc hbw.size _
      have HR0 := Lib.hid hr0
      have HG0 := Lib.hid hg0
      have hcut : Hid (∀ X, Below W0.heap.size W0 X → X.cell? ⟨w.heap.size, 0, none⟩ = some (.int .i64 M) ∧ X.cell? ⟨w.heap.size, 1, none⟩ = some (.int .i64 C) ∧ X.cell? ⟨w.heap.size, 2, none⟩ = some (.int .i64 S) ∧ X.cell? ⟨b, o + 1, none⟩ = some (.int .i64 r)) := fun X hX => by
        have := HG0.out.below hX HG0.out.lt
        have hlt' : b < W0.heap.size := by rw [hW0, size_alloc]; omega
        refine ⟨this.cell 0, this.cell 1, this.cell 2, (hX.cell (p := ⟨b, o + 1, none⟩) hlt').trans ?_⟩
        rw [hW0]
        exact (World.cell?_alloc_lt _ _ (a := ⟨b, o + 1, none⟩) hlt).trans p1
      have hblt : b ≠ wr.heap.size := by omega
      have hglt : w.heap.size ≠ wr.heap.size := by omega
      have hz0 : W0.heap.size = wr.heap.size + 1 := by rw [hW0, size_alloc]
      have hcut2 : Hid (∀ X, Below W0.heap.size W0 X → ∀ v, (X.setCell ⟨wr.heap.size, 5, none⟩ v).cell? ⟨w.heap.size, 0, none⟩ = some (.int .i64 M) ∧ (X.setCell ⟨wr.heap.size, 5, none⟩ v).cell? ⟨w.heap.size, 1, none⟩ = some (.int .i64 C) ∧ (X.setCell ⟨wr.heap.size, 5, none⟩ v).cell? ⟨w.heap.size, 2, none⟩ = some (.int .i64 S) ∧ (X.setCell ⟨wr.heap.size, 5, none⟩ v).cell? ⟨b, o + 1, none⟩ = some (.int .i64 r)) := fun X hX v => by
        obtain ⟨k0, k1, k2, k3⟩ := hcut.out X hX
        have hst := Chg.setCell (S := fun q => q = wr.heap.size) (Chg.refl _ X) ⟨wr.heap.size, 5, none⟩ (.inl rfl) v
        have hXs := hX.size
        exact ⟨(hst.cell (p := ⟨w.heap.size, 0, none⟩) (by show w.heap.size < _; omega) hglt).trans k0, (hst.cell (p := ⟨w.heap.size, 1, none⟩) (by show w.heap.size < _; omega) hglt).trans k1, (hst.cell (p := ⟨w.heap.size, 2, none⟩) (by show w.heap.size < _; omega) hglt).trans k2, (hst.cell (p := ⟨b, o + 1, none⟩) (by show b < _; omega) hblt).trans k3⟩
      subst hW0
      clear hx hr0 hg0 p0 p1 hlt
      go_wp2
      clear c0 c1 c2
      go_region_held3 (fun w' => w'.cell? ⟨w.heap.size, 0, none⟩ = some (.int .i64 M) ∧ w'.cell? ⟨w.heap.size, 1, none⟩ = some (.int .i64 C) ∧ w'.cell? ⟨w.heap.size, 2, none⟩ = some (.int .i64 S) ∧ w'.cell? ⟨b, o + 1, none⟩ = some (.int .i64 r))
        (first | exact hcut.out _ (Below.refl _ _) | exact hcut.out _ (Below.refl _ _).drew | exact hcut.out _ HB2.out | exact HC2.out)
        (first | (go_at_call 122; (with_reducible refine (hpar.out _).mono ?_); rintro e w2 ⟨rfl, hb2⟩; have HB2 := Lib.hid ((Below.refl _ _).drew.trans hb2); have hR2 := HR0.out.below HB2.out HR0.out.lt; have d5 : w2.cell? ⟨wr.heap.size, 5, none⟩ = some (.int .i64 0) := hR2.cell 5; have f5 := hR2.free 5; have HR2 := Lib.hid hR2; have HC2 := Lib.hid (hcut2.out _ HB2.out (.int .i64 (par : Int))); clear hR2 hb2))
      have hR3 := HR2.out.set 5 (.int .i64 (par : Int))
      have hbw3 : Below w.heap.size w (w2.setCell ⟨wr.heap.size, 5, none⟩ (.int .i64 (par : Int))) := (hbw0.trans ((HB2.out).mono (by show w.heap.size ≤ (wr.alloc _).heap.size; rw [hz0]; omega))).setCell (p := ⟨wr.heap.size, 5, none⟩) (Nat.le_of_lt hlt0) _
      generalize hrb : wr.heap.size = rb at *
      have hrb' : w.heap.size ≤ rb := Nat.le_of_lt hlt0
      generalize w2.setCell ⟨rb, 5, none⟩ (.int .i64 (par : Int)) = w3 at *
      have HR3 := Lib.hid hR3
      have HB3 := Lib.hid hbw3
      clear d5 f5 hR3 hbw3 HC2 HR2 HB2 hcut2 hcut hz0 HG0 HR0 hbw0 hblt hglt hrb hlt0 HG hbw
      go_wp2
      go_loopw [15, 76] (fun v q wr => ∃ k : Nat, k ≤ ps.length ∧ q = .int .i64 k ∧ v = .int .i64 (lastOf ps k) ∧ Below w.heap.size w wr ∧ At wr rb #[.int .i64 M, .int .i64 C, .int .i64 S, .slice da M dc, .slice (some ⟨b, o, none⟩) ps.length pc, .int .i64 (par : Int)] 162) (fun _ q _ => ps.length - (intOf q).toNat)
      case atStart => exact ⟨0, by omega, rfl, by unfold lastOf; rw [dif_neg (by omega)], HB3.out, HR3.out⟩
      case round =>
        obtain ⟨k, hk', rfl, rfl, hbq, haq⟩ := hrel
        have HQ := Lib.hid haq
        have HBQ := Lib.hid hbq
        obtain ⟨b', o', hve, hlt, hx⟩ := PSeg.full (HP.out.below hbq) (by omega)
        simp only [Option.some.injEq, Addr.mk.injEq, and_true] at hve
        obtain ⟨rfl, rfl⟩ := hve
        have hltr := haq.lt
        by_cases hkn : k < ps.length
        · obtain ⟨p0, p1, u, p2, hu⟩ := hx k hkn
          obtain ⟨-, q1, -⟩ := hx 0 (by omega)
          simp only [Nat.zero_mul, Nat.add_zero] at q1
          obtain ⟨ua, uc, rfl⟩ := hu.shape
          have K1 : Hid (k + 1 ≤ ps.length) := hkn
          rw [HO.out.rows _ (List.getElem_mem hkn)] at p1
          rw [HO.out.rows _ (List.getElem_mem (by omega))] at q1
          have hlast := lastOf_lt HO.out k hkn
          have hls := Lib.hid (lastOf_succ ps k hkn)
          have hnp : (ps[k].m == (par : Int)) = false := beq_eq_false_iff_ne.2 (by rw [← hpp]; exact HO.out.np _ (List.getElem_mem hkn))
          have hle : decide (ps[k].m ≤ lastOf ps k) = false := decide_eq_false (by omega)
          have c5 : wr.cell? ⟨rb, 5, none⟩ = some (.int .i64 (par : Int)) := haq.cell 5
          clear hx hu hbq haq
          generalize lastOf ps k = la at *
          generalize ps[k].d.length = n at *
          generalize ps[k].m = x at *
          as_aux_lemma =>
            go_wp2
            go_quiet (fail)
            go_wp2
            refine ⟨⟨k + 1, K1.out, by go_num, by rw [hls.out], below_drewN (HBQ.out.alloc HBQ.out.size _) _, (HQ.out.alloc _)⟩, by simp [intOf]; omega⟩
        · obtain rfl : k = ps.length := by omega
          have hshort : Hid (∀ W, Below w.heap.size w W → Calls Tryz.prog 139 #[.slice (some ⟨b, o, none⟩) ps.length pc, .func (.func 138) #[] #[]] W fun e w' => e = .returned (.bool false) ∧ Below W.heap.size W w') := fun W hW => by
            refine (contains_short _ ps W (HP.out.below hW)).mono fun e w' ⟨x1, x2⟩ => ⟨?_, x2⟩
            rw [x1]
            have : (ps.any fun p => decide (p.d.length ≠ 128)) = false := by
              rw [List.any_eq_false]
              intro p hp
              have := HO.out.len p hp
              simp [this]
            rw [this]
          clear hx hlt hbq haq
          go_wp2_with (go_at_call 139; (with_reducible refine (hshort.out _ HBQ.out).mono ?_); rintro e w4 ⟨rfl, hb4⟩; have HQ4 := Lib.hid (HQ.out.below hb4 HQ.out.lt); have HB4 := Lib.hid (below_then HBQ.out hb4))
          go_loopw [19, 110] (fun v q wr => ∃ (k : Nat) (z : Int), k ≤ M ∧ q = .int .i64 k ∧ v = .int .i64 z ∧ LostIs d k z ∧ wr = w4) (fun _ q _ => M - (intOf q).toNat)
          case atStart => exact ⟨0, 0, by omega, rfl, rfl, .inl ⟨rfl, fun i hi => by omega⟩, rfl⟩
          case round =>
            obtain ⟨k, z, hk', rfl, rfl, hz, rfl⟩ := hrel
            have HZ := Lib.hid hz
            have hz01 : z = 0 ∨ z = 1 := by rcases hz with ⟨h, -⟩ | ⟨h, -⟩ <;> omega
            clear hz
            by_cases hkM : k < M
            · have K1 : Hid (k + 1 ≤ M) := hkM
              obtain ⟨db, do', dc', hve, hltd, hxd⟩ := (HD.out.below HB4.out).full (by omega)
              simp only [Value.slice.injEq] at hve
              obtain ⟨rfl, -, rfl⟩ := hve
              have d0 := hxd k hkM
              clear hxd
              cases hq : d k
              · rw [hq] at d0
                have hz' : Hid (LostIs d (k + 1) z) := by
                  rcases HZ.out with ⟨h1, h2⟩ | ⟨h1, i, h2, h3⟩
                  · refine .inl ⟨h1, fun i hi => ?_⟩
                    by_cases hik : i = k
                    · subst hik; exact hq
                    · exact h2 i (by omega)
                  · exact .inr ⟨h1, i, by omega, h3⟩
                clear hq
                as_aux_lemma =>
                  go_wp2
                  exact ⟨⟨k + 1, z, K1.out, by go_num, rfl, hz'.out, trivial⟩, by simp [intOf]; omega⟩
              · rw [hq] at d0
                have hz' : Hid (z = 0 ∧ LostIs d (k + 1) 1) := by
                  rcases HZ.out with ⟨h1, h2⟩ | ⟨h1, i, h2, h3⟩
                  · exact ⟨h1, .inr ⟨rfl, k, by omega, hq⟩⟩
                  · have := HO.out.lone i k (by omega) hkM h3 hq
                    omega
                obtain rfl := hz'.out.1
                clear hq
                as_aux_lemma =>
                  go_wp2
                  exact ⟨⟨k + 1, 1, K1.out, by go_num, rfl, hz'.out.2, trivial⟩, by simp [intOf]; omega⟩
            · obtain rfl : k = M := by omega
              have hz1 : decide ((1 : Int) < z) = false := decide_eq_false (by omega)
              go_wp2
              go_ret2
              refine ⟨rb, rfl, ⟨?_, HD.out.below HB4.out, HP.out.below HB4.out⟩, HB4.out, hrb'⟩
              rw [hpp]
              exact HQ4.out

end Go.Proofs.YtpegbgomnpinfaaGreat
