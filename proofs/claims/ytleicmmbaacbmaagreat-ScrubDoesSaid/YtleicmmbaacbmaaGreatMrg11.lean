/- Several texts in one: ScrA, ScrB. -/
import Derived.Test.YtleicmmbaacbmaaGreatMrg9
import Derived.Test.YtleicmmbaacbmaaGreatMrg10
/- Scrub: whether there is such a row and member. -/
set_option linter.unusedVariables false
namespace Go.Proofs.YtleicmmbaacbmaaGreat
open Go.RowKit

/-- What 'may' answers. -/
def mayCode (n : Nat) (m c s member row : Int) : Int :=
  if geoIs m c s then (if (n : Int) = m + 1 then (if 0 ≤ member ∧ member < m ∧ 0 ≤ row ∧ row < s * c then 0 else 3) else 1) else 60

set_option maxRecDepth 100000 in
set_option maxHeartbeats 4000000 in
theorem scrub_may {w : World} {T : Nat → Nat} {b : Nat} {st : BaySt} (h : BayAt w T b st) (m c s member row : Int) :
    Calls Tryz.prog 61 #[.pointer (some ⟨b, 0, none⟩), geo m c s, .int .i64 member, .int .i64 row] w fun e w' => e = .returned (.int .u16 (mayCode st.n m c s member row)) ∧ Below w.heap.size w w' := by
  have hk := Lib.hid (fun W => geom_check m c s W)
  have hr := Lib.hid (fun W => geom_rows m c s W)
  have hfew := bay_slots_few h
  have hb : Below w.heap.size w (w.alloc (.cells #[.int .i64 m, .int .i64 c, .int .i64 s] 23)) := (Below.refl _ _).alloc (Nat.le_refl _) _
  have ha : At (w.alloc (.cells #[.int .i64 m, .int .i64 c, .int .i64 s] 23)) w.heap.size #[.int .i64 m, .int .i64 c, .int .i64 s] 23 := At.new _ _ _
  have HS : Hid (∀ W, Below w.heap.size w W → Calls Tryz.prog 86 #[.pointer (some ⟨b, 0, none⟩)] W fun e w' => e = .returned (.int .i64 (st.n : Int)) ∧ w' = W) := fun W hW => bay_slots (h.below hW)
  have HA := Lib.hid ha
  have HL := Lib.hid ha.lt
  clear ha h
  generalize st.n = n at *
  unfold mayCode geoCode geoRows at *
  cases hg : geoIs m c s
  · rw [hg] at hk
    simp only [if_false, Bool.false_eq_true] at *
    unfold geo at *
    go_enter Tryz.func61, Tryz.ntmps61
    go_wp2_with (go_at_call 85; (with_reducible refine (hk.out _).mono ?_); rintro e w1 ⟨rfl, hb1⟩)
    go_ret
    exact ⟨rfl, below_then hb hb1⟩
  · obtain ⟨hlo, hhi⟩ := geo_bounds hg
    obtain ⟨h1, h2, -⟩ := (geoIs_iff m c s).1 hg
    rw [hg] at hk hr
    simp only [if_true] at *
    unfold geo at *
    by_cases hn : (n : Int) = m + 1
    · rw [if_pos hn]
      have hn' : ((n : Int) != (m + 1)) = false := by simp [hn]
      generalize s * c = q at *
      clear hn
      by_cases hin : 0 ≤ member ∧ member < m ∧ 0 ≤ row ∧ row < q
      · rw [if_pos hin]
        obtain ⟨i1, i2, i3, i4⟩ := hin
        go_enter Tryz.func61, Tryz.ntmps61
        go_wp2_with (go_at_call 85; (with_reducible refine (hk.out _).mono ?_); rintro e w1 ⟨rfl, hb1⟩; have hA1 := HA.out.below hb1 HL.out; have c0 := hA1.cell 0; have c1 := hA1.cell 1; have c2 := hA1.cell 2; clear hA1; have hbb := below_then hb hb1; have HS1 : Hid (∀ k, Calls Tryz.prog 86 #[.pointer (some ⟨b, 0, none⟩)] (w1.drewN k) fun e w' => e = .returned (.int .i64 (n : Int)) ∧ ∃ j, w' = w1.drewN j) := fun k => (HS.out _ (below_drewN hbb k)).mono fun e w' ⟨x1, x2⟩ => ⟨x1, k, x2⟩)
        go_quiet ((go_at_call 86; exact HS1.out _))
        go_wp2_with (go_at_call 62; (with_reducible refine (hr.out _).mono ?_); rintro e w2 ⟨rfl, hb2⟩)
        go_ret
        exact ⟨rfl, below_then (below_drewN hbb _) hb2⟩
      · rw [if_neg hin]
        have hin' : (0 ≤ member ∧ member < m ∧ 0 ≤ row ∧ q ≤ row) ∨ member < 0 ∨ (0 ≤ member ∧ m ≤ member) ∨ (0 ≤ member ∧ member < m ∧ row < 0) := by omega
        clear hin
        rcases hin' with ⟨i1, i2, i3, i4⟩ | hin'
        · go_enter Tryz.func61, Tryz.ntmps61
          go_wp2_with (go_at_call 85; (with_reducible refine (hk.out _).mono ?_); rintro e w1 ⟨rfl, hb1⟩; have hA1 := HA.out.below hb1 HL.out; have c0 := hA1.cell 0; have c1 := hA1.cell 1; have c2 := hA1.cell 2; clear hA1; have hbb := below_then hb hb1; have HS1 : Hid (∀ k, Calls Tryz.prog 86 #[.pointer (some ⟨b, 0, none⟩)] (w1.drewN k) fun e w' => e = .returned (.int .i64 (n : Int)) ∧ ∃ j, w' = w1.drewN j) := fun k => (HS.out _ (below_drewN hbb k)).mono fun e w' ⟨x1, x2⟩ => ⟨x1, k, x2⟩)
          go_quiet ((go_at_call 86; exact HS1.out _))
          go_wp2_with (go_at_call 62; (with_reducible refine (hr.out _).mono ?_); rintro e w2 ⟨rfl, hb2⟩)
          go_ret
          exact ⟨rfl, below_then (below_drewN hbb _) hb2⟩
        · rcases hin' with i1 | ⟨i1, i2⟩ | ⟨i1, i2, i3⟩
          all_goals
            go_enter Tryz.func61, Tryz.ntmps61
            go_wp2_with (go_at_call 85; (with_reducible refine (hk.out _).mono ?_); rintro e w1 ⟨rfl, hb1⟩; have hA1 := HA.out.below hb1 HL.out; have c0 := hA1.cell 0; have c1 := hA1.cell 1; have c2 := hA1.cell 2; clear hA1; have hbb := below_then hb hb1; have HS1 : Hid (∀ k, Calls Tryz.prog 86 #[.pointer (some ⟨b, 0, none⟩)] (w1.drewN k) fun e w' => e = .returned (.int .i64 (n : Int)) ∧ ∃ j, w' = w1.drewN j) := fun k => (HS.out _ (below_drewN hbb k)).mono fun e w' ⟨x1, x2⟩ => ⟨x1, k, x2⟩)
            go_quiet ((go_at_call 86; exact HS1.out _))
            go_wp2
            go_ret
            exact ⟨rfl, below_drewN hbb _⟩
    · rw [if_neg hn]
      have hn' : ((n : Int) != (m + 1)) = true := by simp [hn]
      clear hn
      go_enter Tryz.func61, Tryz.ntmps61
      go_wp2_with (go_at_call 85; (with_reducible refine (hk.out _).mono ?_); rintro e w1 ⟨rfl, hb1⟩; have hA1 := HA.out.below hb1 HL.out; have c0 := hA1.cell 0; have c1 := hA1.cell 1; have c2 := hA1.cell 2; clear hA1; have hbb := below_then hb hb1; have HS1 : Hid (∀ k, Calls Tryz.prog 86 #[.pointer (some ⟨b, 0, none⟩)] (w1.drewN k) fun e w' => e = .returned (.int .i64 (n : Int)) ∧ ∃ j, w' = w1.drewN j) := fun k => (HS.out _ (below_drewN hbb k)).mono fun e w' ⟨x1, x2⟩ => ⟨x1, k, x2⟩)
      go_quiet ((go_at_call 86; exact HS1.out _))
      go_wp2
      go_ret
      exact ⟨rfl, below_drewN hbb _⟩

end Go.Proofs.YtleicmmbaacbmaaGreat

/- Scrub: the sectors of a row are handed to a sum. -/
set_option linter.unusedVariables false
namespace Go.Proofs.YtleicmmbaacbmaaGreat
open Go.RowKit

/-- Trouble. -/
def trVal (t : Option (Nat × Nat)) : Value := .agg #[.int .i64 (((t.getD (0, 0)).1 : Nat) : Int), .int .u16 (((t.getD (0, 0)).2 : Nat) : Int)]

theorem trouble_set {w : World} {r : Nat} {a c : Value} (h : At w r #[a, c] 72) (x y : Value) :
    ((w.setCell ⟨r, 0, none⟩ x).setCell ⟨r, 1, none⟩ y).cell? ⟨r, 0, none⟩ = some x ∧ ((w.setCell ⟨r, 0, none⟩ x).setCell ⟨r, 1, none⟩ y).cell? ⟨r, 1, none⟩ = some y ∧ Chg (fun q => q = r) w ((w.setCell ⟨r, 0, none⟩ x).setCell ⟨r, 1, none⟩ y) := by
  have h2 := (h.set 0 x).set 1 y
  exact ⟨h2.cell 0, h2.cell 1, Chg.setCell (S := fun q => q = r) (Chg.setCell (S := fun q => q = r) (Chg.refl _ _) ⟨r, 0, none⟩ (.inl rfl) _) ⟨r, 1, none⟩ (.inl rfl) _⟩

/-- Where 'each' stands behind k members. -/
structure EachAt (w : World) (T : Nat → Nat) (b g gb : Nat) (H : Handed) (k : Nat) (wr : World) : Prop where
  bay : BayAt wr T b H.s
  sum : ∃ many : Int, 0 ≤ many ∧ many ≤ k ∧ SumAt wr g gb 128 H.f many
  chg : Chg (fun q => T q ≠ 0 ∨ q = g ∨ q = gb) w wr

set_option maxRecDepth 100000 in
set_option maxHeartbeats 4000000 in
theorem scrub_each {w : World} {T : Nat → Nat} {b : Nat} {st : BaySt} (h : BayAt w T b st) (M : Nat) (c s : Int) (row : Nat) (but : Int) (g gb : Nat) (hs : SumAt w g gb 128 (fun _ => 0) 0) (hg : T g = 0) (hgb : T gb = 0)
    (hM : M ≤ 16) (hrow : row ≤ 4096) (hcnt : st.cnt 0 ≤ 999999000000) (hsm : st.small 1000000) :
    Calls Tryz.prog 90 #[.pointer (some ⟨b, 0, none⟩), geo M c s, .int .i64 row, .int .i64 but, .func (.func 91) #[.pointer (some ⟨g, 0, none⟩)] #[]] w fun e w' =>
      e = .returned (trVal (st.hand (1 + row) but M).t) ∧ EachAt w T b g gb (st.hand (1 + row) but M) M w' := by
  have hzg := hs.sum.lt
  have hzb := hs.row.lt
  have H := Lib.hid h
  have HS := Lib.hid hs
  have HC := Lib.hid hcnt
  have HM := Lib.hid hsm
  have e1 : (w.alloc (.cells #[.int .i64 M, .int .i64 c, .int .i64 s] 23)).heap.size = w.heap.size + 1 := size_alloc _ _
  have HNR : Hid (¬ (T (w.heap.size + 1) ≠ 0 ∨ w.heap.size + 1 = g ∨ w.heap.size + 1 = gb)) := by
    have := h.virgin (w.heap.size + 1) (by omega)
    rintro (e | e | e)
    · exact e this
    · omega
    · omega
  clear h hs hcnt hsm
  unfold geo
  go_enter Tryz.func90, Tryz.ntmps90
  go_wp2
  go_loopw [16] (fun q wr => ∃ k : Nat, k ≤ M ∧ q = .int .i64 k ∧ (st.hand (1 + row) but k).t = none ∧ EachAt w T b g gb (st.hand (1 + row) but k) k wr ∧ At wr (w.heap.size + 1) #[.int .i64 0, .int .u16 0] 72) (fun q _ => M - (intOf q).toNat)
  case atStart =>
    refine ⟨0, by omega, rfl, rfl, ⟨H.out.keep (S := fun _ => False) (((Chg.refl _ _).alloc _).alloc _) (fun _ _ h => h), ⟨0, by omega, by omega, (HS.out.mod (S := fun _ => False) (((Chg.refl _ _).alloc _).alloc _) (fun h => h) (fun h => h))⟩, ((Chg.refl _ _).alloc _).alloc _⟩, At.new2 _ _ _ _⟩
  case round =>
    obtain ⟨k, hk, rfl, hnone, hE, hR⟩ := hrel
    have HR := Lib.hid hR
    have HN := Lib.hid hnone
    have HE := Lib.hid hE
    clear hR hnone hE
    by_cases hkM : k < M
    · have K1 : Hid (k + 1 ≤ M) := hkM
      by_cases hb : (k : Int) = but
      · subst hb
        go_wp2
        refine ⟨⟨k + 1, K1.out, by go_num, ?_, ?_, HR.out⟩, by simp [intOf]; omega⟩
        · rw [hand_but _ _ _ _ rfl]; exact HN.out
        · rw [hand_but _ _ _ _ rfl]
          obtain ⟨many, m1, m2, m3⟩ := HE.out.sum
          exact ⟨HE.out.bay, ⟨many, m1, by omega, m3⟩, HE.out.chg⟩
      · have hrd := hand_reads st (1 + row) but k
        have hread := bay_read HE.out.bay k (1 + row) (by have := hrd.hi; have := HC.out; omega) (hrd.small _ HM.out)
        have hreads := read_reads (st.hand (1 + row) but k).s k (1 + row)
        by_cases hc : ((st.hand (1 + row) but k).s.read k (1 + row)).1 = 0
        · obtain ⟨x, hx⟩ := (read_code _ _ _).1.1 hc
          have hok := Lib.hid (hand_ok st (1 + row) but k HN.out hb x hx)
          have hb' : ((k : Int) == but) = false := by simp [hb]
          have hread' : Hid (Calls Tryz.prog 103 #[.pointer (some ⟨b, 0, none⟩), .int .i64 (k : Int), .int .i64 (1 + (row : Int))] wr fun e w' => ∃ v, e = .returned (.tuple #[v, .int .u16 0]) ∧ BayAt w' T b (st.hand (1 + row) but (k + 1)).s ∧ Chg (fun q => T q ≠ 0) wr w' ∧ w'.ownsRow wr.heap.size 5 1 v 128 (ucells x)) := by
            refine Lib.hid (hread.mono fun e w' ⟨v, h1, h2, h3, h4, h5⟩ => ⟨v, ?_, ?_, h3, h4 x hx⟩)
            · rw [h1, hc]; try rfl
            · rw [hok.out]
              exact h2
          obtain ⟨many, hm0, hm1, hsum⟩ := HE.out.sum
          have HSU := Lib.hid hsum
          have HX : Hid (∀ W v, W.ownsRow wr.heap.size 5 1 v 128 (ucells x) → Seg W v x ∧ x.length = 128 ∧ ∀ a q c, v = .slice (some a) q c → a.block ≠ gb) := fun W v ho => by
            have hl : x.length = 128 := by have := ho.1; rw [ucells_length] at this; omega
            refine ⟨seg_of_owns (by rw [hl]; exact ho), hl, fun a q c hv => ?_⟩
            obtain ⟨g', cap, hv2, hle, -⟩ := ownsRow_full ho (by omega)
            rw [hv2] at hv
            simp only [Value.slice.injEq, Option.some.injEq] at hv
            rw [← hv.1]
            have := HE.out.chg.size
            show g' ≠ gb
            omega
          clear hread hreads hrd hb hsum
          go_wp2_with (first
            | (go_at_call 103; refine hread'.out.mono ?_; rintro e w1 ⟨v, rfl, hB1, hc1, hown⟩; have HB1 := Lib.hid hB1; have HO := Lib.hid hown; clear hB1 hown)
            | (go_at_call 91; refine (xor_add g gb 128 _ many v x w1 (HSU.out.mod hc1 (by simp [hg]) (by simp [hgb])) (by omega) (HX.out w1 v HO.out).1 (HX.out w1 v HO.out).2.1 (HX.out w1 v HO.out).2.2 hm0 (by omega)).mono ?_; rintro e w2 ⟨rfl, hs2, hc2⟩; have HS2 := Lib.hid hs2; clear hs2))
          have hC2 : Chg (fun q => T q ≠ 0 ∨ q = g ∨ q = gb) wr w2 := (hc1.mono fun q hq => .inl hq).trans (hc2.mono fun q hq => .inr hq)
          refine ⟨⟨k + 1, K1.out, by go_num, ?_, ?_, HR.out.mod hC2 HNR.out⟩, by simp [intOf]; omega⟩
          · rw [hok.out]
          · refine ⟨HB1.out.keep hc2 (fun q hq hq2 => ?_), ⟨many + 1, by omega, by omega, ?_⟩, HE.out.chg.trans hC2⟩
            · rcases hq2 with rfl | rfl
              · exact hq hg
              · exact hq hgb
            · rw [hok.out]; exact HS2.out
        · have hok := Lib.hid (hand_bad st (1 + row) but k HN.out hb hc)
          have hcode := Lib.hid (hand_code st (1 + row) but (k + 1))
          have hst := Lib.hid (hand_stop st (1 + row) but (k + 1) (by rw [hok.out]; simp) M hkM)
          have hb' : ((k : Int) == but) = false := by simp [hb]
          generalize hcd : ((st.hand (1 + row) but k).s.read k (1 + row)).1 = cd at *
          have hcd1 : ((cd : Int) == 0) = false := by simp; exact hc
          have hcd2 : ((cd : Int) != 0) = true := by simp; exact hc
          have hread' : Hid (Calls Tryz.prog 103 #[.pointer (some ⟨b, 0, none⟩), .int .i64 (k : Int), .int .i64 (1 + (row : Int))] wr fun e w' => ∃ v, e = .returned (.tuple #[v, .int .u16 (cd : Int)]) ∧ BayAt w' T b (st.hand (1 + row) but (k + 1)).s ∧ Chg (fun q => T q ≠ 0) wr w') := by
            refine Lib.hid (hread.mono fun e w' ⟨v, h1, h2, h3, h4, h5⟩ => ⟨v, ?_, ?_, h3⟩)
            · rw [h1, hcd]
            · rw [hok.out]
              exact h2
          have HO := Lib.hid hok.out
          clear hread hreads hrd hb hc hcd hok
          go_wp2_with (go_at_call 103; refine hread'.out.mono ?_; rintro e w1 ⟨v, rfl, hB1, hc1⟩; have HB1 := Lib.hid hB1; have hC1 : Chg (fun q => T q ≠ 0 ∨ q = g ∨ q = gb) wr w1 := hc1.mono (fun q hq => .inl hq); have HC1 := Lib.hid hC1; have HC0 := Lib.hid hc1; have hR1 := HR.out.mod hC1 HNR.out; have d0 : w1.cell? ⟨w.heap.size + 1, 0, none⟩ = some (.int .i64 0) := hR1.cell 0; have d1 : w1.cell? ⟨w.heap.size + 1, 1, none⟩ = some (.int .u16 0) := hR1.cell 1; have f0 := hR1.free 0; have f1 := hR1.free 1; have HR1 := Lib.hid hR1; clear hB1 hc1 hC1 hR1)
          obtain ⟨r0, r1, hset⟩ := trouble_set HR1.out (.int .i64 (k : Int)) (.int .u16 (cd : Int))
          clear d0 d1 f0 f1
          (try simp only [Exit.inBlock, Exit.then])
          refine bodyPost_ret (v := trVal (some (k, cd))) ?_ rfl ⟨?_, ?_⟩
          · rw [results_cell rfl]
            go_simp
            rfl
          · rw [hst.out, HO.out]
          · rw [hst.out]
            obtain ⟨many, m1, m2, m3⟩ := HE.out.sum
            have hHs : (st.hand (1 + row) but (k + 1)).f = (st.hand (1 + row) but k).f := by rw [HO.out]
            refine ⟨HB1.out.keep hset (fun q hq e => ?_), ⟨many, m1, by omega, ?_⟩, chg_and (HE.out.chg.trans HC1.out) hset (fun q hq e => by omega)⟩
            · subst e; exact HNR.out (.inl hq)
            · rw [hHs]
              exact (m3.mod HC0.out (by simp [hg]) (by simp [hgb])).mod hset (by omega) (by omega)
    · obtain rfl : k = M := by omega
      have d0 : wr.cell? ⟨w.heap.size + 1, 0, none⟩ = some (.int .i64 0) := HR.out.cell 0
      have d1 : wr.cell? ⟨w.heap.size + 1, 1, none⟩ = some (.int .u16 0) := HR.out.cell 1
      have f0 := HR.out.free 0
      have f1 := HR.out.free 1
      obtain ⟨r0, r1, hset⟩ := trouble_set HR.out (.int .i64 0) (.int .u16 0)
      go_wp2
      clear d0 d1 f0 f1
      (try simp only [Exit.inBlock, Exit.then])
      refine bodyPost_ret (v := trVal none) ?_ rfl ⟨?_, ?_⟩
      · rw [results_cell rfl]
        go_simp
        rfl
      · rw [HN.out]
      · obtain ⟨many, m1, m2, m3⟩ := HE.out.sum
        exact ⟨HE.out.bay.keep hset (fun q hq e => by subst e; exact HNR.out (.inl hq)), ⟨many, m1, m2, m3.mod hset (by omega) (by omega)⟩, chg_and HE.out.chg hset (fun q hq e => by omega)⟩

end Go.Proofs.YtleicmmbaacbmaaGreat
