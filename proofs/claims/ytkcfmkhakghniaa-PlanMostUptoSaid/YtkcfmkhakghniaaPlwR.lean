/- PlanMost: the walk, where rows are planned. -/
import Derived.Test.YtkcfmkhakghniaaPlwQ
import Derived.Test.YtkcfmkhakghniaaPlwJ
set_option linter.unusedVariables false
namespace Go.Proofs.Ytkcfmkhakghniaa
open Go.RowKit

abbrev cgeo3 (M C S : Nat) : Array Value := #[.int .i64 M, .int .i64 C, .int .i64 S]

/-- What stands while rows are planned. -/
structure MostAt (w wx : World) (M C S gd kk bL : Nat) (vL : Value) (L : List (Value × List OP)) : Prop where
  law : LawAt w wx w.heap.size M (fun _ => False) (.slice none 0 0) [] [] [(gd, bcells (goneAt kk) M, 4), (w.heap.size, cgeo3 M C S, 23)]
  rows : RowsAt wx bL vL L
section
variable {w wx wy : World} {M C S gd kk bL : Nat} {vL : Value} {L : List (Value × List OP)}
theorem MostAt.below (h : MostAt w wx M C S gd kk bL vL L) (hb : Below wx.heap.size wx wy) : MostAt w wy M C S gd kk bL vL L := ⟨h.law.below hb, h.rows.below hb⟩
theorem MostAt.alloc' {o : Obj} (h : MostAt w wx M C S gd kk bL vL L) : MostAt w (wx.alloc o) M C S gd kk bL vL L := h.below ((Below.refl _ _).alloc (Nat.le_refl _) _)
theorem MostAt.drew' (h : MostAt w wx M C S gd kk bL vL L) : MostAt w wx.drew M C S gd kk bL vL L := h.below (Below.refl _ _).drew
theorem MostAt.geo (h : MostAt w wx M C S gd kk bL vL L) : At wx w.heap.size (cgeo3 M C S) 23 := h.law.keep 1 rfl
theorem MostAt.bseg (h : MostAt w wx M C S gd kk bL vL L) : BSeg wx (.slice (some ⟨gd, 0, none⟩) M M) (goneAt kk) M := bseg_of_at (h.law.keep 0 rfl)
theorem MostAt.pseg (h : MostAt w wx M C S gd kk bL vL L) {x : Value × List OP} (hx : x ∈ L) {ps : List Pat} (hp : x.2.map (·.1) = ps) (hf : x.2.length ≤ 140737488355328) : PSeg wx x.1 ps := by
  rw [← hp]
  exact (h.rows.each x hx).pseg hf
theorem MostAt.cell {lg lc : Nat} (h : MostAt w wx M C S gd kk bL (.slice (some ⟨lg, 0, none⟩) L.length lc) L) {i : Nat} (hi : i < L.length) : wx.cell? ⟨lg, i, none⟩ = some (L[i]'hi).1 := by
  obtain ⟨g, cap, hve, -, -, hc, -⟩ := ownsRow_cell h.rows.row (by omega)
  simp only [Value.slice.injEq, Option.some.injEq, Addr.mk.injEq] at hve
  obtain ⟨⟨rfl, -, -⟩, -, -⟩ := hve
  rw [hc i hi, List.getElem?_map, List.getElem?_eq_getElem hi]
  rfl
theorem MostAt.keep {lg lc : Nat} (h : MostAt w wx M C S gd kk bL (.slice (some ⟨lg, 0, none⟩) L.length lc) L) {i : Nat} (hi : i < L.length) {u : Value} (hu : (L[i]'hi).1 = u) :
    wx.cell? ⟨w.heap.size, 0, none⟩ = some (.int .i64 M) ∧ wx.cell? ⟨w.heap.size, 1, none⟩ = some (.int .i64 C) ∧ wx.cell? ⟨w.heap.size, 2, none⟩ = some (.int .i64 S) ∧ wx.cell? ⟨lg, i, none⟩ = some u :=
  ⟨h.geo.cell 0, h.geo.cell 1, h.geo.cell 2, by rw [← hu]; exact h.cell hi⟩
end

theorem MostAt.pseg' {w wx : World} {M C S gd kk bL : Nat} {vL : Value} {L : List (Value × List OP)} (h : MostAt w wx M C S gd kk bL vL L) {x : Value × List OP} (hx : x ∈ L) {u : Value} (hu : x.1 = u) {ps : List Pat} (hp : x.2.map (·.1) = ps) (hf : ps.length ≤ 140737488355328) : PSeg wx u ps := by
  rw [← hu]
  exact h.pseg hx hp (by rw [← hp, List.length_map] at hf; exact hf)
/-- A plan of the round's own is stored. -/
theorem MostAt.plan {w wo wy : World} {M C S gd kk bL g : Nat} {vL : Value} {L : List (Value × List OP)} {cs : Array Value} (h : MostAt w wo M C S gd kk bL vL L) (hc : Chg (fun k => k = g) wo wy) (ha : At wo g cs 77) (hg : w.heap.size ≤ g) : MostAt w wy M C S gd kk bL vL L := by
  have ne : ∀ {k : Nat} {cs' : Array Value} {t : TypeId}, At wo k cs' t → t ≠ 77 → ¬ k = g := fun {k cs' t} h1 h2 e => by
    subst e
    unfold At at h1 ha
    rw [h1] at ha
    simp only [Option.some.injEq, Obj.cells.injEq] at ha
    exact h2 ha.2.1
  refine ⟨⟨fun p hp => (by cases hp), fun p hp => ?_, ORow.nil _ _, fun k hk => (by cases hk), List.Pairwise.nil, h.law.ksep, fun p hp => (by cases hp), h.law.klow, Nat.le_trans h.law.hB hc.size, h.law.lowB, Chg.own h.law.bel hc (fun k hk => by rw [hk]; exact hg), fun k hk => False.elim hk⟩, h.rows.store hc ha (by decide) (by decide) (by decide)⟩
  obtain ⟨h1, h2, h3⟩ := h.law.kept p hp
  refine ⟨h1.mod hc (ne h1 ?_), h2, h3⟩
  simp only [List.mem_cons, List.not_mem_nil, or_false] at hp
  rcases hp with rfl | rfl <;> simp

/-- What stands beside the round's rows. -/
structure MostX (wx : World) (bL : Nat) (vL : Value) (L : List (Value × List OP)) (gp : Nat) (cs : Array Value) (vq vr : Value) (ps : List Pat) (dv : Nat → Value) (Lr : List Nat) : Prop where
  rows : RowsAt wx bL vL L
  plan : At wx gp cs 77
  puts : PRow wx 0 vq ps ps.length dv
  reads : wx.ownsRow 0 3 1 vr Lr.length (mcells Lr)
section
variable {wx wy : World} {bL gp : Nat} {vL vq vr : Value} {L : List (Value × List OP)} {cs : Array Value} {ps : List Pat} {dv : Nat → Value} {Lr : List Nat}
theorem MostX.below (h : MostX wx bL vL L gp cs vq vr ps dv Lr) (hb : Below wx.heap.size wx wy) : MostX wy bL vL L gp cs vq vr ps dv Lr :=
  ⟨h.rows.below hb, h.plan.below hb h.plan.lt, h.puts.below hb, ownsRow_below h.reads hb (Nat.le_refl _)⟩
theorem MostX.store {g : Nat} {ds : Array Value} (h : MostX wx bL vL L gp cs vq vr ps dv Lr) (hc : Chg (fun k => k = g) wx wy) (ha : At wx g ds 34) : MostX wy bL vL L gp cs vq vr ps dv Lr := by
  have ne : ¬ gp = g := fun e => by
    have hp := h.plan
    subst e
    unfold At at hp ha
    rw [hp] at ha
    simp only [Option.some.injEq, Obj.cells.injEq] at ha
    exact absurd ha.2.1 (by decide)
  exact ⟨h.rows.store hc ha (by decide) (by decide) (by decide), h.plan.mod hc ne, h.puts.mod hc (fun z hz e => own_ne_at h.puts.row ha (by decide) (e ▸ hz)) (fun j hj z hz e => own_ne_at (h.puts.dat j hj) ha (by decide) (e ▸ hz)), ownsRow_mod h.reads hc (fun z hz e => own_ne_at h.reads ha (by decide) (e ▸ hz))⟩
end

theorem most_mod {M gn kk : Nat} (h : M ≤ 16) (hk : kk ≤ M) (e : (gn : Int) % ((M : Int) + 1) = (kk : Int)) :
    IntKind.i64.wrap ((M : Int) + 1) = (M : Int) + 1 ∧ RowKit.wrap64 ((M : Int) + 1) = (M : Int) + 1 ∧ (gn : Int).tmod ((M : Int) + 1) = (kk : Int) ∧ IntKind.i64.wrap (kk : Int) = (kk : Int) ∧ RowKit.wrap64 (kk : Int) = (kk : Int) := by
  have et : (gn : Int).tmod ((M : Int) + 1) = (kk : Int) := by rw [Int.tmod_eq_emod_of_nonneg (Int.natCast_nonneg _)]; exact e
  clear e
  exact ⟨wr_small (by omega) (by omega), wr_small' (by omega) (by omega), et, wr_small (by omega) (by omega), wr_small' (by omega) (by omega)⟩

theorem firstSum_le (L : List (Value × List OP)) (k : Nat) (hk : k ≤ L.length) : firstSum L k ≤ firstSum L L.length := by
  unfold firstSum
  rw [List.take_length]
  have e : L.map (fun x => x.2.length) = (L.take k).map (fun x => x.2.length) ++ (L.drop k).map (fun x => x.2.length) := by rw [← List.map_append, List.take_append_drop]
  rw [e, List.sum_append]
  omega
theorem most_room {n a b i l p T : Nat} (h1 : n ≤ a + i) (h2 : b = a + p) (h3 : l + b ≤ T) (h4 : i + 1 ≤ l) (h5 : T ≤ 512) : n + p + 1 ≤ 512 ∧ n + p + 1 ≤ b + (i + 1) := by omega
theorem loop_less {l i : Nat} (h : i < l) : l - (intOf (.int .i64 ((i : Int) + 1))).toNat < l - (intOf (.int .i64 (i : Int))).toNat := by simp [intOf]; omega
theorem most_sum {n x : Nat} (h : n + x ≤ 512) : RowKit.wrap64 ((n : Int) + (x : Int)) = ((n + x : Nat) : Int) := (wr_small' (by omega) (by omega)).trans (by omega)
theorem most_step {n p x b : Nat} (h : n + p + 1 ≤ 512 ∧ n + p + 1 ≤ b) (hx : x ≤ p + 1) : n + x ≤ 512 ∧ n + x ≤ b := by omega
theorem put_tail {w : World} {a : Option Addr} {c : Nat} {u : Int × List UInt8} {tl us : List (Int × List UInt8)} (e : us = u :: tl) (h : PutSeg w (.slice a us.length c) us) (hc : us.length ≤ c) :
    PutSeg w (.slice (if c = 1 then a else a.map fun x => x.add 2) (us.length - 1) (c - 1)) tl := by
  subst e
  obtain ⟨a', c', h1, h2, h3, h4⟩ := h
  simp only [Value.slice.injEq, true_and] at h1
  obtain ⟨rfl, rfl⟩ := h1
  refine ⟨_, _, rfl, by simp at h2; omega, fun v hv => h3 v (List.mem_cons_of_mem _ hv), ?_⟩
  cases tl with
  | nil => exact .inl rfl
  | cons t tl =>
    right
    rcases h4 with h4 | ⟨b, o, rfl, h6, h7⟩
    · cases h4
    · rw [if_neg (by simp at hc; omega)]
      refine ⟨b, o + 2, rfl, h6, fun j hj => ?_⟩
      have := h7 (j + 1) (by simp at hj ⊢; omega)
      rw [show o + 2 + j * 2 = o + (j + 1) * 2 by omega]
      exact this

set_option maxRecDepth 100000 in
set_option maxHeartbeats 16000000 in
theorem most_main (M C S gn : Nat) (vu vr : Value) (us : List (Int × List UInt8)) (ls : List (List UInt8)) (w : World) (ok : BatchOk M C S us) (hgn : gn < 256) (hu : PutSeg w vu us) (hv : Segs w vr ls) (hll : ls.length ≤ 140737488351232) (hdl : ∀ l ∈ ls, l.length ≤ 140737488351232)
    (hknown : ∀ W, Calls Try.prog 27 #[] W fun e w' => e = .returned (.bool true) ∧ Below W.heap.size W w')
    (hm1 : muchIs (us.map (·.2.length)) = false) (hm2 : muchIs (ls.map List.length) = false) (hcap : ∀ a n c, vu = .slice a n c → n ≤ c) :
    Calls Try.prog 6 #[geo M C S, vu, .int .u8 gn, vr] w fun e w' => e = .returned (.bool true) ∧ Below w.heap.size w w' := by
  obtain ⟨h1, h2, h3, h4, h5, h6⟩ := (geoIs_iff M C S).1 ok.hg
  have hM3 : 3 ≤ M := by omega
  have hM16 : M ≤ 16 := by omega
  have hb0 : Below w.heap.size w (w.alloc (.cells (cgeo3 M C S) 23)) := (Below.refl _ _).alloc (Nat.le_refl _) _
  have HL0 := Lib.hid ((LawAt.start w M).newKept (g := w.heap.size) (cs := cgeo3 M C S) (t := 23) hb0 (At.new _ _ _) (Nat.le_refl _) (by decide) (by decide))
  have hmp : Hid (∀ W, Below w.heap.size w W → _) := fun W hW => much_puts vu us W (hu.below hW)
  have hmr : Hid (∀ W, Below w.heap.size w W → _) := fun W hW => much_rows vr ls W (hv.below hW) hll hdl
  rw [hm1] at hmp
  rw [hm2] at hmr
  have HKN := Lib.hid hknown
  have HU := Lib.hid hu
  have HV := Lib.hid hv
  have HDL := Lib.hid hdl
  have HOK := Lib.hid ok
  have hmo : Hid (∀ W, Below w.heap.size w W → _) := fun W hW => plan_Most M C S vu us W ok (hu.below hW)
  have hsp : Hid (∀ W, Below w.heap.size w W → _) := fun W hW => plan_SplitE M C S vu us W ok (hu.below hW)
  have hT := most_few (M := M) (C := C) (S := S) ok.few
  have hT2 : mostIn M (S * C) (tabAll M C us) ≤ 2 * us.length := most_twice M C (S * C) us us.length
  have hmost : Hid (∀ L, SplitIs M C S us L → L.length + firstSum L L.length = mostIn M (S * C) (tabAll M C us)) := fun L h => split_most h
  generalize hTe : mostIn M (S * C) (tabAll M C us) = T at *
  have HTE := Lib.hid hTe
  obtain ⟨kk, hkk, eC⟩ : ∃ kk : Nat, kk ≤ M ∧ (gn : Int) % ((M : Int) + 1) = (kk : Int) := ⟨gn % (M + 1), by have := Nat.mod_lt gn (show 0 < M + 1 by omega); omega, (Int.natCast_emod gn (M + 1)).symm⟩
  have hne : ¬ ((M : Int) + 1 = 0) := by omega
  have hne2 : ¬ (M + 1 = 0) := by omega
  obtain ⟨ua, uc, rfl⟩ := hu.shape
  have HCAP := Lib.hid (hcap _ _ _ rfl)
  clear hcap
  obtain ⟨ra, rc, rfl⟩ := hv.shape
  have HB0 := Lib.hid hb0
  have hg0 := HL0.out.keep 0 rfl
  have c0 := hg0.cell 0
  have c1 := hg0.cell 1
  have c2 := hg0.cell 2
  clear hu hv hm1 hm2 hknown hdl hb0 ok hTe hg0
  unfold geo at *
  go_enter Try.func6, Try.ntmps6
  go_upto_region 10 with (first
    | (go_at_call 25; (with_reducible refine (hmp.out _ HB0.out).mono ?_); rintro e w1 ⟨rfl, rfl⟩)
    | (go_at_call 30; (with_reducible refine (hmr.out _ HB0.out).mono ?_); rintro e w1 ⟨rfl, rfl⟩)
    | (go_at_call 31; (with_reducible refine (hmo.out _ HB0.out).mono ?_); rintro e w1 ⟨rfl, hb1⟩; have HL1 := Lib.hid (HL0.out.below hb1); have hg1 := HL1.out.keep 0 rfl; have c0 := hg1.cell 0; have c1 := hg1.cell 1; have c2 := hg1.cell 2; clear hb1 hg1)
    | (go_at_call 26; (with_reducible refine (hsp.out _ HL1.out.bel).mono ?_); rintro e w2 ⟨⟨vL, L, rfl, hLr, hSI⟩, hb2⟩; obtain ⟨la, lc, rfl⟩ := ownsRow_shape hLr.row; have HL2 := Lib.hid (HL1.out.below hb2); have HLR := Lib.hid hLr; have HSI := Lib.hid hSI; clear hb2 hLr hSI)
    | (go_at_call 27; (with_reducible refine (HKN.out _).mono ?_); rintro e w3 ⟨rfl, hb3⟩; have HL3 := Lib.hid (HL2.out.below hb3); have HLR3 := Lib.hid (HLR.out.below hb3); have hg1 := HL3.out.keep 0 rfl; have c0 := hg1.cell 0; have c1 := hg1.cell 1; have c2 := hg1.cell 2; clear hb3 hg1)
    | (refine wpList_make_same rfl _ _ 74 4 1 1 rfl slice_bools (.bool false) (by kernel_rfl) _ _ _ _ M rfl rfl rfl rfl (by omega) (by unfold maxLen; omega) ?_; intro w4 a4 b4; rw [bcells_zero] at a4; have HL4 := Lib.hid ((HL3.out.newKept b4 a4 (Nat.le_refl _) (by decide) (by decide)).hold (Z := fun k => k = w3.heap.size) (fun k hk => (by cases hk)) (fun k hk => by subst hk; exact ⟨HL3.out.bel.size, a4.lt⟩)); have HLR4 := Lib.hid (HLR3.out.below b4); have hgd : w3.heap.size < w4.heap.size := a4.lt; have hg1 := HL4.out.keep 1 rfl; have c0 := hg1.cell 0; clear a4 b4 hg1))
  have hgdlt : w3.heap.size < w4.heap.size := hgd
  obtain ⟨ew, ew2, et, ek, ek2⟩ := most_mod hM16 hkk eC
  go_quiet (fail)
  clear ew ew2 et ek ek2
  go_upto_if 62 with fail
  have hbq : Below w4.heap.size w4 (w4.drewN nq) := below_drewN (Below.refl _ _) nq
  have HL5 := Lib.hid (HL4.out.below hbq)
  have HLR5 := Lib.hid (HLR4.out.below hbq)
  have hgd5 : w3.heap.size < (w4.drewN nq).heap.size := hgd
  clear hbq HL4 HLR4 hgd hgdlt c0
  generalize w4.drewN nq = w5 at *
  generalize w3.heap.size = gd at *
  generalize w1.heap.size = bL at *
  have hcel := HL5.out.keep 1 rfl
  have c0 := hcel.cell 0
  clear hcel
  go_cut [] from 54 to 70 (fun wx => LawAt w wx w.heap.size M (fun k => k = gd) (.slice none 0 0) [] [] [(gd, bcells (goneAt kk) M, 4), (w.heap.size, cgeo3 M C S, 23)] ∧ RowsAt wx bL (.slice la L.length lc) L)
  case first =>
    by_cases hkM : kk < M
    · have a2 := HL5.out.keep 0 rfl
      have f0 := a2.free kk
      have d0 : w5.cell? ⟨gd, kk, none⟩ = some (.bool false) := (a2.cell kk).trans (bcells_at _ _ _ hkM)
      have HA2 := Lib.hid a2
      clear a2
      go_wp2_with fail
      go_meet
      have h := HL5.out.setKept' (i := 0) rfl rfl (fun x hx => by cases hx) kk (.bool true)
      rw [bcells_set] at h
      have e : bcells (fun i => if i = kk then true else false) M = bcells (goneAt kk) M := bcells_congr fun i _ => by
        unfold goneAt
        by_cases hi : i = kk <;> simp [hi]
      rw [e] at h
      have hch : Chg (fun z => z = gd) w5 (w5.setCell ⟨gd, kk, none⟩ (.bool true)) := Chg.setCell (S := fun z => z = gd) (Chg.refl _ _) ⟨gd, kk, none⟩ (.inl rfl) _
      exact ⟨h, HLR5.out.store hch HA2.out (by decide) (by decide) (by decide)⟩
    · go_wp2_with fail
      go_meet
      have e : bcells (fun _ => false) M = bcells (goneAt kk) M := bcells_congr fun i hi => by
        unfold goneAt
        simp
        omega
      have h := HL5.out
      rw [e] at h
      exact ⟨h, HLR5.out⟩
  case rest =>
    obtain ⟨hL6, hR6⟩ := hcut
    have HL6 := Lib.hid (hL6.hold (Z := fun _ => False) (fun k hk => (by cases hk)) (fun k hk => False.elim hk))
    have HLR6 := Lib.hid hR6
    clear hL6 hR6 HL5 HLR5 hgd5 c0 hmp hmr eC hne hne2 hmo hsp HB0 HL0
    have HSUM := Lib.hid (firstSum_le L)
    have HTL := Lib.hid (hmost.out L HSI.out)
    have HT5 := Lib.hid hT
    have HT2 := Lib.hid hT2
    have hL5 : L.length ≤ 512 := by have := HTL.out; omega
    clear hT hT2 hmost
    go_wp2_with fail
    go_loopw [14, 15] (fun t q wx => ∃ i n : Nat, i ≤ L.length ∧ q = .int .i64 i ∧ t = .int .i64 n ∧ n ≤ firstSum L i + i ∧ LawAt w wx w.heap.size M (fun _ => False) (.slice none 0 0) [] [] [(gd, bcells (goneAt kk) M, 4), (w.heap.size, cgeo3 M C S, 23)] ∧ RowsAt wx bL (.slice la L.length lc) L) (fun _ q _ => L.length - (intOf q).toNat)
    case atStart => exact ⟨0, 0, by omega, rfl, rfl, by omega, HL6.out, HLR6.out⟩
    case round =>
      obtain ⟨i, n, hi, rfl, rfl, hn, hLx, hRx⟩ := hrel
      have HLX := Lib.hid hLx
      have HRX := Lib.hid hRx
      clear hLx hRx HL6 HLR6
      by_cases hi2 : i < L.length
      · have I1 : Hid (i + 1 ≤ L.length) := hi2
        obtain ⟨lg, lcap, hve, -, -, -, -⟩ := ownsRow_cell HRX.out.row (by omega)
        simp only [Value.slice.injEq, true_and] at hve
        obtain ⟨rfl, rfl⟩ := hve
        have HMA : Hid (MostAt w wr M C S gd kk bL (.slice (some ⟨lg, 0, none⟩) L.length lc) L) := ⟨HLX.out, HRX.out⟩
        have hrl : i < (rowsIn M (S * C) (tabAll M C us)).length := by
          have h := congrArg List.length HSI.out
          rw [List.length_map, List.length_map] at h
          omega
        obtain ⟨r, hr⟩ : ∃ r, (rowsIn M (S * C) (tabAll M C us))[i] = r := ⟨_, rfl⟩
        have hrm := which_mem.1 (hr ▸ List.getElem_mem hrl : r ∈ whichTo _ _)
        have hxe : (L[i]'hi2).2.map (·.1) = patsIn M (tabAll M C us) r := by
          have h := HSI.out
          unfold SplitIs at h
          have h1 := congrArg (fun l => l[i]?) h
          simp only [List.getElem?_map, List.getElem?_eq_getElem hi2, List.getElem?_eq_getElem hrl, Option.map_some, Option.some.injEq] at h1
          rw [h1, hr]
        have hok := Lib.hid (pats_ok HOK.out.hg HOK.out.there HOK.out.len (gone_lone kk M) hrm.1 hrm.2)
        have hz := Lib.hid (gone_at_is kk M)
        have hfs := firstSum_succ L i hi2
        have hxl : (L[i]'hi2).2.length = (patsIn M (tabAll M C us) r).length := by rw [← hxe, List.length_map]
        generalize hpe : patsIn M (tabAll M C us) r = ps at *
        have hpf : ps.length ≤ M := Nat.le_trans hok.out.few (Nat.sub_le _ _)
        have hmem := List.getElem_mem hi2
        have HXE := Lib.hid hxe
        have HMEM := Lib.hid hmem
        have HXL := Lib.hid hxl
        have HNB := Lib.hid (most_room hn (hfs.trans (by rw [hxl])) (show L.length + firstSum L (i + 1) ≤ T by have := HSUM.out (i + 1) hi2; have := HTL.out; omega) hi2 HT5.out)
        have hof : Hid (∀ W vd vp, BSeg W vd (goneAt kk) M → PSeg W vp ps → _) := fun W vd vp h1 h2 => plan_Of M C S r vd vp (goneAt kk) ps W hok.out h1 h2 _ hz.out
        have hwk : Hid (∀ W vd vq vr vrd ls', BSeg W vd (goneAt kk) M → PSeg W vq ps → ISeg W vr (readsOf ps (parOf M C r) M (modeOf M ps (parOf M C r) (if kk < M then (kk : Int) else -1))) → Segs W vrd ls' → ls'.length = M → (∀ m, m < M → (ls'.getD m []).length = 128) →
            Calls Try.prog 34 #[geo M C S, vd, planVal r (modeOf M ps (parOf M C r) (if kk < M then (kk : Int) else -1) : Nat) (parOf M C r : Nat) vq vr, vrd] W fun e w' => ∃ v X, e = .returned (.tuple #[v, .int .u16 0]) ∧ ORow w' W.heap.size v X ∧ 1 ≤ X.length ∧ X.length ≤ ps.length + 1 ∧ Below W.heap.size W w') := fun W vd vq vr vrd ls' h1 h2 h3 h4 h5 h6 =>
          (plan_Work M C S r vd vq vr vrd (goneAt kk) ps ls' W hok.out _ hz.out h1 h2 h3 h4 h5 (fun m hm => ⟨(reads_up hok.out hz.out hm).1, h6 m (reads_up hok.out hz.out hm).1⟩)).mono fun e w' ⟨v, X, e1, e2, e3, e4⟩ => by
            have hl := e3.length_eq
            rw [List.length_map] at hl
            refine ⟨v, X, e1, e2, ?_, ?_, e4⟩
            · rw [hl]; exact out_some hok.out
            · rw [hl]; exact out_few
        have hrf := readsOf_length ps (parOf M C r) M (modeOf M ps (parOf M C r) (if kk < M then (kk : Int) else -1))
        generalize hmd : modeOf M ps (parOf M C r) (if kk < M then (kk : Int) else -1) = md at *
        generalize hLe : readsOf ps (parOf M C r) M md = Lr at *
        generalize hpa : parOf M C r = par at *
        have hgeo : Hid (geo M C S = .agg #[.int .i64 M, .int .i64 C, .int .i64 S]) := rfl
        simp only [hgeo.out] at hof hwk
        unfold planVal at hwk
        obtain ⟨xv, hxv⟩ : ∃ xv, (L[i]'hi2).1 = xv := ⟨_, rfl⟩
        have HXV := Lib.hid hxv
        have hsh : ∃ a c, xv = .slice a ps.length c := by
          obtain ⟨a, c, e⟩ := ownsRow_shape (HRX.out.each _ hmem).row
          rw [hxl] at e
          exact ⟨a, c, by rw [← hxv, e]⟩
        obtain ⟨xa, xc, rfl⟩ := hsh
        clear hr hrm hxe hxl hpe hmem hfs hmd hLe hpa hxv hrl
        go_upto_region 16 with fail
        go_cut [16, 17] from 71 to 152 (fun s16 s17 wx => ∃ gp vq vr2, s16 = .pointer (some ⟨gp, 0, none⟩) ∧ s17 = .int .u16 0 ∧ MostAt w wx M C S gd kk bL (.slice (some ⟨lg, 0, none⟩) L.length lc) L ∧ At wx gp #[.int .i64 r, .int .u8 md, .int .i64 par, vq, vr2] 77 ∧ (∃ dv, PRow wx 0 vq ps ps.length dv) ∧ wx.ownsRow 0 3 1 vr2 Lr.length (mcells Lr))
        case first =>
          go_region_held3 (fun w' => w'.cell? ⟨w.heap.size, 0, none⟩ = some (.int .i64 M) ∧ w'.cell? ⟨w.heap.size, 1, none⟩ = some (.int .i64 C) ∧ w'.cell? ⟨w.heap.size, 2, none⟩ = some (.int .i64 S) ∧ w'.cell? ⟨lg, i, none⟩ = some (.slice xa ps.length xc))
            (first | (refine MostAt.keep (?_ : MostAt w _ M C S gd kk bL (.slice (some ⟨lg, 0, none⟩) L.length lc) L) hi2 HXV.out; (repeat (first | with_reducible exact HMA.out | with_reducible exact HMO.out | with_reducible exact HMF.out | with_reducible refine MostAt.alloc' ?_ | with_reducible refine MostAt.drew' ?_))))
            (first
              | (go_at_call 32; (with_reducible refine Calls.mono (hof.out _ _ _ ?_ ?_) ?_); (focus (refine MostAt.bseg (?_ : MostAt w _ M C S gd kk bL (.slice (some ⟨lg, 0, none⟩) L.length lc) L); (repeat (first | with_reducible exact HMA.out | with_reducible exact HMO.out | with_reducible exact HMF.out | with_reducible refine MostAt.alloc' ?_ | with_reducible refine MostAt.drew' ?_)))); (focus (refine MostAt.pseg' (?_ : MostAt w _ M C S gd kk bL (.slice (some ⟨lg, 0, none⟩) L.length lc) L) HMEM.out HXV.out HXE.out ?_; (focus (repeat (first | with_reducible exact HMA.out | with_reducible exact HMO.out | with_reducible exact HMF.out | with_reducible refine MostAt.alloc' ?_ | with_reducible refine MostAt.drew' ?_))); omega)); rintro e wo ⟨vq, vr2, dv, rfl, hpr, hri, hbo⟩; obtain ⟨qa, qc, rfl⟩ := ownsRow_shape hpr.row; obtain ⟨ra2, rc2, rfl⟩ := ownsRow_shape hri; have hmo : MostAt w wo M C S gd kk bL (.slice (some ⟨lg, 0, none⟩) L.length lc) L := (by refine MostAt.below ?_ hbo; (repeat (first | with_reducible exact HMA.out | with_reducible exact HMO.out | with_reducible exact HMF.out | with_reducible refine MostAt.alloc' ?_ | with_reducible refine MostAt.drew' ?_))); have HMO := Lib.hid hmo; have HBO := Lib.hid hbo; clear hbo; (first
                | (refine cut_at wo wr.heap.size ?_ ?_; (focus ((repeat (first | (with_reducible refine at_top ?_; (first | with_reducible rfl | (simp only [size_alloc]; done))) | with_reducible refine at_alloc' ?_ | with_reducible refine at_drew' ?_ | with_reducible refine at_below' ?_ HBO.out)); done)); intro hZ; have hps := plan_store hZ (.int .i64 r) (.int .u8 md) (.int .i64 par) (.slice qa ps.length qc) (.slice ra2 Lr.length rc2); have d0 := hZ.cell 0; have d1 := hZ.cell 1; have d2 := hZ.cell 2; have d3 := hZ.cell 3; have d4 := hZ.cell 4; have f0 := hZ.free 0; have f1 := hZ.free 1; have f2 := hZ.free 2; have f3 := hZ.free 3; have f4 := hZ.free 4; have HMF := Lib.hid (hmo.plan hps.2 hZ (HLX.out.bel.size)); have HPA := Lib.hid hps.1; have HPR := Lib.hid ((hpr.lower (Nat.zero_le _)).mod hps.2 (fun z hz e => own_ne_at hpr.row hZ (by decide) (e ▸ hz)) (fun j hj z hz e => own_ne_at (hpr.dat j hj) hZ (by decide) (e ▸ hz))); have HRI := Lib.hid (ownsRow_mod (rebase_row hri (Nat.zero_le _)) hps.2 (fun z hz e => own_ne_at hri hZ (by decide) (e ▸ hz))); clear hZ hps hmo hpr hri)
                | (have hal := (show Below wo.heap.size wo (wo.alloc (.cells #[.int .i64 r, .int .u8 md, .int .i64 par, .slice qa ps.length qc, .slice ra2 Lr.length rc2] 77)) from (Below.refl _ _).alloc (Nat.le_refl _) _); have HMF := Lib.hid (hmo.below hal); have HPA : Hid (At (wo.alloc (.cells #[.int .i64 r, .int .u8 md, .int .i64 par, .slice qa ps.length qc, .slice ra2 Lr.length rc2] 77)) wo.heap.size #[.int .i64 r, .int .u8 md, .int .i64 par, .slice qa ps.length qc, .slice ra2 Lr.length rc2] 77) := At.new _ _ _; have HPR := Lib.hid ((hpr.lower (Nat.zero_le _)).below hal); have HRI := Lib.hid (ownsRow_below (rebase_row hri (Nat.zero_le _)) hal (Nat.le_refl _)); clear hal hmo hpr hri))))
          all_goals go_wp2_with fail
          all_goals go_meet
          all_goals exact ⟨_, _, _, rfl, rfl, HMF.out, HPA.out, ⟨_, HPR.out⟩, HRI.out⟩
        case rest =>
          obtain ⟨gp, vq, vr2, rfl, rfl, hMA, hPA, ⟨dv, hPR⟩, hRI⟩ := hcut
          have HLA := Lib.hid hMA.law
          have HX0 : Hid (MostX wc bL (.slice (some ⟨lg, 0, none⟩) L.length lc) L gp #[.int .i64 r, .int .u8 md, .int .i64 par, vq, vr2] vq vr2 ps dv Lr) := ⟨hMA.rows, hPA, hPR, hRI⟩
          have hgg := hMA.geo
          have c0 := hgg.cell 0
          clear hMA hPA hPR hRI hgg hof HMA
          obtain ⟨A0, HA0⟩ : ∃ A0 : Nat → List UInt8, Hid (∀ j, A0 j = if j < ls.length ∧ (ls.getD j []).length = 128 then ls.getD j [] else secOf (UInt8.ofNat (j : Int).toNat)) := ⟨_, fun j => rfl⟩
          go_wp2_with (first
            | (refine wpList_make_zero rfl _ _ 51 34 24 rfl slice_rowsB (.slice none 0 0) (by kernel_rfl) rfl (fun _ => .slice none 0 0) _ _ _ _ M rfl rfl rfl rfl (by omega) (by unfold maxLen; omega) ?_; intro w7 a7 b7; have HLN := Lib.hid (HLA.out.newRow b7 a7); have HXN := Lib.hid (HX0.out.below b7); clear a7 b7 HLA HX0))
          generalize wc.heap.size = ga at *
          clear c0
          go_loopw [19] (fun q wx => ∃ k : Nat, k ≤ M ∧ q = .int .i64 k ∧ LawAt w wx w.heap.size M (fun _ => False) (.slice none 0 0) [] [(ga, fun j => if j < k then A0 j else [])] [(gd, bcells (goneAt kk) M, 4), (w.heap.size, cgeo3 M C S, 23)] ∧ MostX wx bL (.slice (some ⟨lg, 0, none⟩) L.length lc) L gp #[.int .i64 r, .int .u8 md, .int .i64 par, vq, vr2] vq vr2 ps dv Lr) (fun q _ => M - (intOf q).toNat)
          case atStart =>
            refine ⟨0, by omega, rfl, ?_, HXN.out⟩
            have e1 : (fun j => if j < 0 then A0 j else []) = fun _ => [] := by funext j; rw [if_neg (by omega)]
            rw [e1]
            exact HLN.out
          case round =>
            obtain ⟨k, hk, rfl, hLy, hXy⟩ := hrel
            have HLY := Lib.hid hLy
            have HXY := Lib.hid hXy
            have hgg := hLy.keep 1 rfl
            have c0 := hgg.cell 0
            clear hLy hXy hgg HLN HXN
            by_cases hkM : k < M
            · as_aux_lemma =>
                have K1 : Hid (k + 1 ≤ M) := hkM
                have HSEC := Lib.hid (fun W => sec13i (k : Int) W (by omega) (by omega))
                go_upto_region 24 with (first
                  | (go_at_call 33; (with_reducible refine (HSEC.out _).mono ?_); rintro e w7 ⟨rfl, hu7, hb7⟩; have HL7 := Lib.hid (HLY.out.below hb7); have HX7 := Lib.hid (HXY.out.below hb7); have HU7 := Lib.hid hu7; have f0 := (HL7.out.row 0 rfl).free k; obtain ⟨u0, d0, -⟩ := (HL7.out.row 0 rfl).cell hkM; clear hb7 hu7))
                have HL8 := Lib.hid (HL7.out.setRow (i := 0) rfl hkM (seg_sec HU7.out (secOf_length _)) (HLY.out.offNew HU7.out))
                obtain ⟨cs0, hat⟩ := LawAt.at_row (HL7.out.row 0 rfl)
                have HX8 := Lib.hid (HX7.out.store (Chg.setCell (S := fun z => z = ga) (Chg.refl _ _) ⟨ga, k, none⟩ (.inl rfl) (.slice (some ⟨wr.heap.size, 0, none⟩) 128 128)) hat)
                clear f0 d0 hat c0
                go_cut [115] from 92 to 122 (fun s115 wx => s115 = .bool (decide (k < ls.length ∧ (ls.getD k []).length = 128)) ∧ LawAt w wx w.heap.size M (fun _ => False) (.slice none 0 0) [] [(ga, fun j => if j = k then secOf (UInt8.ofNat (k : Int).toNat) else if j < k then A0 j else [])] [(gd, bcells (goneAt kk) M, 4), (w.heap.size, cgeo3 M C S, 23)] ∧ MostX wx bL (.slice (some ⟨lg, 0, none⟩) L.length lc) L gp #[.int .i64 r, .int .u8 md, .int .i64 par, vq, vr2] vq vr2 ps dv Lr)
                case first =>
                  by_cases h1 : k < ls.length
                  · obtain ⟨b, o, c', hve, hlt, hx⟩ := Segs.full (HV.out.below HL8.out.bel) (by omega)
                    simp only [Value.slice.injEq] at hve
                    obtain ⟨rfl, -, rfl⟩ := hve
                    obtain ⟨u, d1, hu⟩ := hx k h1
                    have hgl : ls.getD k [] = ls[k]'h1 := by rw [List.getD_eq_getElem?_getD, List.getElem?_eq_getElem h1]; rfl
                    have hlen := HDL.out _ (List.getElem_mem h1)
                    have hgl' : (ls.getD k []).length = (ls[k]'h1).length := by rw [hgl]
                    obtain ⟨ua, uc, rfl⟩ := hu.shape
                    clear hx hu hgl
                    have HGL := Lib.hid hgl'
                    clear hgl'
                    generalize (ls[k]'h1).length = nn at *
                    by_cases h2 : nn = 128
                    · subst h2
                      go_wp2_with fail
                      go_meet
                      exact ⟨by rw [HGL.out]; simp [h1], HL8.out, HX8.out⟩
                    · have h3 : ((nn : Int) == 128) = false := by simp; omega
                      go_wp2_with fail
                      go_meet
                      exact ⟨by rw [HGL.out]; simp [h1, h2], HL8.out, HX8.out⟩
                  · go_wp2_with fail
                    go_meet
                    exact ⟨by simp [h1], HL8.out, HX8.out⟩
                case rest =>
                  obtain ⟨rfl, hL9, hX9⟩ := hcut
                  have HL9 := Lib.hid hL9
                  have HX9 := Lib.hid hX9
                  clear hL9 hX9 HL8 HX8 HL7 HX7 HU7 HSEC
                  have f0 := (HL9.out.row 0 rfl).free k
                  obtain ⟨u0, d0, -⟩ := (HL9.out.row 0 rfl).cell hkM
                  by_cases hP : k < ls.length ∧ (ls.getD k []).length = 128
                  · obtain ⟨h1, h2⟩ := hP
                    obtain ⟨b, o, c', hve, hlt, hx⟩ := Segs.full (HV.out.below HL9.out.bel) (by omega)
                    simp only [Value.slice.injEq] at hve
                    obtain ⟨rfl, -, rfl⟩ := hve
                    obtain ⟨u, d1, hu⟩ := hx k h1
                    obtain ⟨b', o', c'', hve', hlt', hx'⟩ := Segs.full HV.out (by omega)
                    simp only [Value.slice.injEq, Option.some.injEq, Addr.mk.injEq] at hve'
                    obtain ⟨⟨rfl, rfl, -⟩, -, rfl⟩ := hve'
                    obtain ⟨u', d1', hu'⟩ := hx' k h1
                    have e1 := (HL9.out.bel.cell (p := ⟨b, o + k, none⟩) hlt').trans d1'
                    rw [d1] at e1
                    simp only [Option.some.injEq] at e1
                    subst e1
                    have hoff := HL9.out.offOld hu'
                    have hgl : ls.getD k [] = ls[k]'h1 := by rw [List.getD_eq_getElem?_getD, List.getElem?_eq_getElem h1]; rfl
                    have HLA2 := Lib.hid (HL9.out.setRow (i := 0) rfl hkM hu hoff)
                    obtain ⟨cs0, hat⟩ := LawAt.at_row (HL9.out.row 0 rfl)
                    have HXA2 := Lib.hid (HX9.out.store (Chg.setCell (S := fun z => z = ga) (Chg.refl _ _) ⟨ga, k, none⟩ (.inl rfl) u) hat)
                    have hRk : A0 k = ls[k]'h1 := by rw [HA0.out k, if_pos ⟨h1, h2⟩, hgl]
                    have HRK := Lib.hid hRk
                    rw [hgl] at h2
                    obtain ⟨ua, uc, rfl⟩ := hu.shape
                    have hdec : decide (k < ls.length ∧ (ls.getD k []).length = 128) = true := decide_eq_true ⟨h1, by rw [hgl]; exact h2⟩
                    clear hx hu hx' hu' hoff hRk hat
                    rw [hdec]
                    rw [h2] at d1 d1' HLA2 HXA2
                    go_wp2_with fail
                    go_roundw
                    case measure => simp [intOf]; omega
                    refine ⟨k + 1, K1.out, by go_num, HLA2.out.told (i := 0) (G := fun j => if j < k + 1 then A0 j else []) rfl (fun j hj => ?_), HXA2.out⟩
                    show (if j < k + 1 then A0 j else []) = if j = k then ls[k]'h1 else if j = k then _ else if j < k then A0 j else []
                    by_cases hjk : j = k
                    · subst hjk; rw [if_pos (by omega), if_pos rfl, HRK.out]
                    · rw [if_neg hjk, if_neg hjk]
                      by_cases h3 : j < k
                      · rw [if_pos (by omega), if_pos h3]
                      · rw [if_neg (by omega), if_neg h3]
                  · have hdec : decide (k < ls.length ∧ (ls.getD k []).length = 128) = false := decide_eq_false hP
                    rw [hdec]
                    go_wp2_with fail
                    go_roundw
                    case measure => simp [intOf]; omega
                    refine ⟨k + 1, K1.out, by go_num, HL9.out.told (i := 0) (G := fun j => if j < k + 1 then A0 j else []) rfl (fun j hj => ?_), HX9.out⟩
                    show (if j < k + 1 then A0 j else []) = if j = k then _ else if j < k then A0 j else []
                    by_cases hjk : j = k
                    · subst hjk; rw [if_pos (by omega), if_pos rfl, HA0.out j, if_neg hP]
                    · rw [if_neg hjk]
                      by_cases h3 : j < k
                      · rw [if_pos (by omega), if_pos h3]
                      · rw [if_neg (by omega), if_neg h3]
            · as_aux_lemma =>
                obtain rfl : M = k := by omega
                have hlt := HLY.out.told (i := 0) (G := A0) rfl (fun j hj => by show _ = if j < M then _ else _; rw [if_pos hj])
                have HLT := Lib.hid hlt
                have hA128 : ∀ j, (A0 j).length = 128 := fun j => by
                  rw [HA0.out j]
                  split
                  · rename_i h; exact h.2
                  · exact secOf_length _
                have HSG := Lib.hid (HLT.out.row 0 rfl).segs
                have HLEN : Hid (((List.range M).map A0).length = M) := by show _ = _; simp
                have HMM : Hid (∀ m, m < M → (((List.range M).map A0).getD m []).length = 128) := fun m hm => by rw [rows_getD _ hm]; exact hA128 m
                have HBS := Lib.hid (bseg_of_at (HLT.out.keep 0 rfl))
                have HPQ := Lib.hid (HXY.out.puts.pseg (by omega))
                have HIQ := Lib.hid (iseg_of_members HXY.out.reads)
                have hgg := HLT.out.keep 1 rfl
                have c0 := hgg.cell 0
                have c1 := hgg.cell 1
                have c2 := hgg.cell 2
                have hpl := HXY.out.plan
                have p0 := hpl.cell 0
                have p1 := hpl.cell 1
                have p2 := hpl.cell 2
                have p3 := hpl.cell 3
                have p4 := hpl.cell 4
                clear hlt hA128 hgg hpl HLY
                go_wp2_with (first
                  | (go_at_call 34; (with_reducible refine (hwk.out _ _ _ _ _ _ HBS.out HPQ.out HIQ.out HSG.out HLEN.out HMM.out).mono ?_); rintro e ww ⟨vl, XL, rfl, hol, hx1, hx2, hbw⟩; obtain ⟨xla, xlc, rfl⟩ := ownsRow_shape hol.row; have hma : MostAt w ww M C S gd kk bL (.slice (some ⟨lg, 0, none⟩) L.length lc) L := ⟨(HLT.out.below hbw).dropRow (List.nil_sublist _), (HXY.out.below hbw).rows⟩; have e0 := hma.cell hi2; rw [HXV.out] at e0; have HMA := Lib.hid hma; clear hol hbw hma))
                obtain ⟨hq1, hq2⟩ := most_step HNB.out hx2
                have HQ2 := Lib.hid hq2
                clear hq2
                have I2 : Hid (i < L.length) := hi2
                refine ⟨⟨i + 1, n + XL.length, I1.out, by go_num, ?_, HQ2.out, HMA.out.law, HMA.out.rows⟩, ?_⟩
                · exact congrArg (Value.int .i64) (most_sum hq1)
                · exact loop_less I2.out
      · as_aux_lemma =>
          obtain rfl : i = L.length := by omega
          have hnT : n ≤ T := by have := HTL.out; omega
          by_cases h0 : us.length = 0
          · obtain rfl : T = 0 := by have := HT2.out; omega
            obtain rfl : n = 0 := by omega
            go_wp2_with fail
            go_ret
            exact ⟨rfl, HLX.out.bel⟩
          · obtain ⟨u1, tl, hus⟩ : ∃ u1 tl, us = u1 :: tl := by
              cases us with
              | nil => simp at h0
              | cons u tl => exact ⟨u, tl, rfl⟩
            have okt : BatchOk M C S tl := ⟨HOK.out.hg, by have := HOK.out.few; rw [hus] at this; simp at this; omega, fun u hu => HOK.out.there u (by rw [hus]; exact List.mem_cons_of_mem _ hu), fun u hu => HOK.out.len u (by rw [hus]; exact List.mem_cons_of_mem _ hu)⟩
            have hmono : mostIn M (S * C) (tabAll M C tl) ≤ T := by
              rw [← HTE.out, hus]
              exact most_mono fun r m h => tab_tail M C u1 tl tl.length r m h
            have hmt : Hid (∀ W v, PutSeg W v tl → Calls Try.prog 31 #[geo M C S, v] W _) := fun W v hv => plan_Most M C S v tl W okt hv
            have HPT := Lib.hid (put_tail hus HU.out HCAP.out)
            have HTLN : Hid (us.length ≤ 1 → tl = []) := fun h => by
              rw [hus] at h
              exact List.eq_nil_of_length_eq_zero (by simpa using h)
            have hg := HLX.out.keep 1 rfl
            have c0 := hg.cell 0
            have c1 := hg.cell 1
            have c2 := hg.cell 2
            have HT2' : Hid (T ≤ 2 * us.length) := HT2.out
            have hue : ((us.length : Int) == 0) = false := beq_false_of_ne (by omega)
            have hb1 : decide ((n : Int) ≤ (T : Int)) = true := decide_eq_true (by omega)
            have hu256 : us.length ≤ 256 := HOK.out.few
            have hcap := HCAP.out
            generalize mostIn M (S * C) (tabAll M C tl) = T' at *
            have hb2 : decide ((T' : Int) ≤ (T : Int)) = true := decide_eq_true (by omega)
            have hb3 : decide ((T : Int) ≤ 2 * (us.length : Int)) = true := decide_eq_true (by have := HT2.out; omega)
            unfold geo at hmt
            clear hg okt hus
            have HK : Hid (∀ X, Below wr.heap.size wr X → X.cell? ⟨w.heap.size, 0, none⟩ = some (.int .i64 M) ∧ X.cell? ⟨w.heap.size, 1, none⟩ = some (.int .i64 C) ∧ X.cell? ⟨w.heap.size, 2, none⟩ = some (.int .i64 S)) := fun X hX => by
              have hg := (HLX.out.keep 1 rfl).below hX (HLX.out.keep 1 rfl).lt
              exact ⟨hg.cell 0, hg.cell 1, hg.cell 2⟩
            clear c0 c1 c2
            have hi1 : (1 : Int) ≤ (us.length : Int) := by omega
            have hi0 : ¬ us.length = 0 := h0
            by_cases hc1 : uc = 1
            · subst hc1
              have HP0 : Hid (∀ W, PutSeg W (.slice ua 0 0) tl) := fun W => by
                rw [HTLN.out hcap]
                exact ⟨ua, 0, rfl, by simp, by simp, .inl rfl⟩
              go_wp2_with fail
              go_region_held3 (fun w' => w'.cell? ⟨w.heap.size, 0, none⟩ = some (.int .i64 M) ∧ w'.cell? ⟨w.heap.size, 1, none⟩ = some (.int .i64 C) ∧ w'.cell? ⟨w.heap.size, 2, none⟩ = some (.int .i64 S))
                (first | exact HK.out _ (Below.refl _ _) | exact HK.out _ (Below.refl _ _).drew | exact HK.out _ HB4.out)
                (first | (go_at_call 31; (with_reducible refine (hmt.out _ _ (HP0.out _)).mono ?_); rintro e w4 ⟨rfl, hb4⟩; have HB4 := Lib.hid ((Below.refl _ _).drew.trans hb4); clear hb4))
              go_wp2_with fail
              go_ret
              exact ⟨by simp, below_then HLX.out.bel HB4.out⟩
            · have hne1 : ¬ uc = 1 := hc1
              rw [if_neg hne1] at HPT
              obtain ⟨b, o, rfl, -, -⟩ := PutSeg.full HU.out (by omega)
              have HP0 : Hid (∀ W, Below wr.heap.size wr W → PutSeg W (.slice (some ⟨b, o + 2, none⟩) (us.length - 1) (uc - 1)) tl) := fun W hW => PutSeg.below (v := .slice (some ⟨b, o + 2, none⟩) (us.length - 1) (uc - 1)) HPT.out (below_then HLX.out.bel hW)
              go_wp2_with fail
              go_region_held3 (fun w' => w'.cell? ⟨w.heap.size, 0, none⟩ = some (.int .i64 M) ∧ w'.cell? ⟨w.heap.size, 1, none⟩ = some (.int .i64 C) ∧ w'.cell? ⟨w.heap.size, 2, none⟩ = some (.int .i64 S))
                (first | exact HK.out _ (Below.refl _ _) | exact HK.out _ (Below.refl _ _).drew | exact HK.out _ HB4.out)
                (first | (go_at_call 31; (with_reducible refine (hmt.out _ _ (HP0.out _ (Below.refl _ _).drew)).mono ?_); rintro e w4 ⟨rfl, hb4⟩; have HB4 := Lib.hid ((Below.refl _ _).drew.trans hb4); clear hb4))
              go_wp2_with fail
              go_ret
              exact ⟨by simp, below_then HLX.out.bel HB4.out⟩

end Go.Proofs.Ytkcfmkhakghniaa
