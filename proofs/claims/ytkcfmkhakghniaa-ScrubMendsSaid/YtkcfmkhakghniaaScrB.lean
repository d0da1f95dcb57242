/- Scrub: the sectors of a row are handed to a sum. -/
import Derived.Test.YtkcfmkhakghniaaScrA
import Derived.Test.YtkcfmkhakghniaaXorB
set_option linter.unusedVariables false
namespace Go.Proofs.Ytkcfmkhakghniaa
open Go.RowKit

/-- Trouble. -/
def trVal (t : Option (Nat × Nat)) : Value := .agg #[.int .i64 (((t.getD (0, 0)).1 : Nat) : Int), .int .u16 (((t.getD (0, 0)).2 : Nat) : Int)]

theorem trouble_set {w : World} {r : Nat} {a c : Value} (h : At w r #[a, c] 37) (x y : Value) :
    ((w.setCell ⟨r, 0, none⟩ x).setCell ⟨r, 1, none⟩ y).cell? ⟨r, 0, none⟩ = some x ∧ ((w.setCell ⟨r, 0, none⟩ x).setCell ⟨r, 1, none⟩ y).cell? ⟨r, 1, none⟩ = some y ∧ Chg (fun q => q = r) w ((w.setCell ⟨r, 0, none⟩ x).setCell ⟨r, 1, none⟩ y) := by
  have h2 := (h.set 0 x).set 1 y
  exact ⟨h2.cell 0, h2.cell 1, Chg.setCell (S := fun q => q = r) (Chg.setCell (S := fun q => q = r) (Chg.refl _ _) ⟨r, 0, none⟩ (.inl rfl) _) ⟨r, 1, none⟩ (.inl rfl) _⟩

/-- Where 'each' stands behind k members. -/
structure EachAt (w : World) (T : Nat → Nat) (b g gb : Nat) (H : Handed) (k : Nat) (wr : World) : Prop where
  bay : BayAt wr T b H.s
  sum : ∃ many : Int, 0 ≤ many ∧ many ≤ k ∧ SumAt wr g gb 128 H.f many
  chg : Chg (fun q => T q ≠ 0 ∨ q = g ∨ q = gb) w wr

set_option maxRecDepth 100000 in
set_option maxHeartbeats 4000000 in
theorem scrub_each {w : World} {T : Nat → Nat} {b : Nat} {st : BaySt} (h : BayAt w T b st) (M : Nat) (c s : Int) (row : Nat) (but : Int) (g gb : Nat) (hs : SumAt w g gb 128 (fun _ => 0) 0) (hg : T g = 0) (hgb : T gb = 0)
    (hM : M ≤ 16) (hrow : row ≤ 4096) (hcnt : st.cnt 0 ≤ 999999000000) (hsm : st.small 1000000) :
    Calls Try.prog 81 #[.pointer (some ⟨b, 0, none⟩), geo M c s, .int .i64 row, .int .i64 but, .func (.func 70) #[.pointer (some ⟨g, 0, none⟩)] #[]] w fun e w' =>
      e = .returned (trVal (st.hand (1 + row) but M).t) ∧ EachAt w T b g gb (st.hand (1 + row) but M) M w' := by
  have hzg := hs.sum.lt
  have hzb := hs.row.lt
  have H := Lib.hid h
  have HS := Lib.hid hs
  have HC := Lib.hid hcnt
  have HM := Lib.hid hsm
  have e1 : (w.alloc (.cells #[.int .i64 M, .int .i64 c, .int .i64 s] 23)).heap.size = w.heap.size + 1 := size_alloc _ _
  have HNR : Hid (¬ (T (w.heap.size + 1) ≠ 0 ∨ w.heap.size + 1 = g ∨ w.heap.size + 1 = gb)) := by
    have := h.virgin (w.heap.size + 1) (by omega)
    rintro (e | e | e)
    · exact e this
    · omega
    · omega
  clear h hs hcnt hsm
  unfold geo
  go_enter Try.func81, Try.ntmps81
  go_wp2
  go_loopw [16] (fun q wr => ∃ k : Nat, k ≤ M ∧ q = .int .i64 k ∧ (st.hand (1 + row) but k).t = none ∧ EachAt w T b g gb (st.hand (1 + row) but k) k wr ∧ At wr (w.heap.size + 1) #[.int .i64 0, .int .u16 0] 37) (fun q _ => M - (intOf q).toNat)
  case atStart =>
    refine ⟨0, by omega, rfl, rfl, ⟨H.out.keep (S := fun _ => False) (((Chg.refl _ _).alloc _).alloc _) (fun _ _ h => h), ⟨0, by omega, by omega, (HS.out.mod (S := fun _ => False) (((Chg.refl _ _).alloc _).alloc _) (fun h => h) (fun h => h))⟩, ((Chg.refl _ _).alloc _).alloc _⟩, At.new2 _ _ _ _⟩
  case round =>
    obtain ⟨k, hk, rfl, hnone, hE, hR⟩ := hrel
    have HR := Lib.hid hR
    have HN := Lib.hid hnone
    have HE := Lib.hid hE
    clear hR hnone hE
    by_cases hkM : k < M
    · have K1 : Hid (k + 1 ≤ M) := hkM
      by_cases hb : (k : Int) = but
      · subst hb
        go_wp2
        refine ⟨⟨k + 1, K1.out, by go_num, ?_, ?_, HR.out⟩, by simp [intOf]; omega⟩
        · rw [hand_but _ _ _ _ rfl]; exact HN.out
        · rw [hand_but _ _ _ _ rfl]
          obtain ⟨many, m1, m2, m3⟩ := HE.out.sum
          exact ⟨HE.out.bay, ⟨many, m1, by omega, m3⟩, HE.out.chg⟩
      · have hrd := hand_reads st (1 + row) but k
        have hread := bay_read HE.out.bay k (1 + row) (by have := hrd.hi; have := HC.out; omega) (hrd.small _ HM.out)
        have hreads := read_reads (st.hand (1 + row) but k).s k (1 + row)
        by_cases hc : ((st.hand (1 + row) but k).s.read k (1 + row)).1 = 0
        · obtain ⟨x, hx⟩ := (read_code _ _ _).1.1 hc
          have hok := Lib.hid (hand_ok st (1 + row) but k HN.out hb x hx)
          have hb' : ((k : Int) == but) = false := by simp [hb]
          have hread' : Hid (Calls Try.prog 22 #[.pointer (some ⟨b, 0, none⟩), .int .i64 (k : Int), .int .i64 (1 + (row : Int))] wr fun e w' => ∃ v, e = .returned (.tuple #[v, .int .u16 0]) ∧ BayAt w' T b (st.hand (1 + row) but (k + 1)).s ∧ Chg (fun q => T q ≠ 0) wr w' ∧ w'.ownsRow wr.heap.size 5 1 v 128 (ucells x)) := by
            refine Lib.hid (hread.mono fun e w' ⟨v, h1, h2, h3, h4, h5⟩ => ⟨v, ?_, ?_, h3, h4 x hx⟩)
            · rw [h1, hc]; try rfl
            · rw [hok.out]
              exact h2
          obtain ⟨many, hm0, hm1, hsum⟩ := HE.out.sum
          have HSU := Lib.hid hsum
          have HX : Hid (∀ W v, W.ownsRow wr.heap.size 5 1 v 128 (ucells x) → Seg W v x ∧ x.length = 128 ∧ ∀ a q c, v = .slice (some a) q c → a.block ≠ gb) := fun W v ho => by
            have hl : x.length = 128 := by have := ho.1; rw [ucells_length] at this; omega
            refine ⟨seg_of_owns (by rw [hl]; exact ho), hl, fun a q c hv => ?_⟩
            obtain ⟨g', cap, hv2, hle, -⟩ := ownsRow_full ho (by omega)
            rw [hv2] at hv
            simp only [Value.slice.injEq, Option.some.injEq] at hv
            rw [← hv.1]
            have := HE.out.chg.size
            show g' ≠ gb
            omega
          clear hread hreads hrd hb hsum
          go_wp2_with (first
            | (go_at_call 22; refine hread'.out.mono ?_; rintro e w1 ⟨v, rfl, hB1, hc1, hown⟩; have HB1 := Lib.hid hB1; have HO := Lib.hid hown; clear hB1 hown)
            | (go_at_call 70; refine (xor_add g gb 128 _ many v x w1 (HSU.out.mod hc1 (by simp [hg]) (by simp [hgb])) (by omega) (HX.out w1 v HO.out).1 (HX.out w1 v HO.out).2.1 (HX.out w1 v HO.out).2.2 hm0 (by omega)).mono ?_; rintro e w2 ⟨rfl, hs2, hc2⟩; have HS2 := Lib.hid hs2; clear hs2))
          have hC2 : Chg (fun q => T q ≠ 0 ∨ q = g ∨ q = gb) wr w2 := (hc1.mono fun q hq => .inl hq).trans (hc2.mono fun q hq => .inr hq)
          refine ⟨⟨k + 1, K1.out, by go_num, ?_, ?_, HR.out.mod hC2 HNR.out⟩, by simp [intOf]; omega⟩
          · rw [hok.out]
          · refine ⟨HB1.out.keep hc2 (fun q hq hq2 => ?_), ⟨many + 1, by omega, by omega, ?_⟩, HE.out.chg.trans hC2⟩
            · rcases hq2 with rfl | rfl
              · exact hq hg
              · exact hq hgb
            · rw [hok.out]; exact HS2.out
        · have hok := Lib.hid (hand_bad st (1 + row) but k HN.out hb hc)
          have hcode := Lib.hid (hand_code st (1 + row) but (k + 1))
          have hst := Lib.hid (hand_stop st (1 + row) but (k + 1) (by rw [hok.out]; simp) M hkM)
          have hb' : ((k : Int) == but) = false := by simp [hb]
          generalize hcd : ((st.hand (1 + row) but k).s.read k (1 + row)).1 = cd at *
          have hcd1 : ((cd : Int) == 0) = false := by simp; exact hc
          have hcd2 : ((cd : Int) != 0) = true := by simp; exact hc
          have hread' : Hid (Calls Try.prog 22 #[.pointer (some ⟨b, 0, none⟩), .int .i64 (k : Int), .int .i64 (1 + (row : Int))] wr fun e w' => ∃ v, e = .returned (.tuple #[v, .int .u16 (cd : Int)]) ∧ BayAt w' T b (st.hand (1 + row) but (k + 1)).s ∧ Chg (fun q => T q ≠ 0) wr w') := by
            refine Lib.hid (hread.mono fun e w' ⟨v, h1, h2, h3, h4, h5⟩ => ⟨v, ?_, ?_, h3⟩)
            · rw [h1, hcd]
            · rw [hok.out]
              exact h2
          have HO := Lib.hid hok.out
          clear hread hreads hrd hb hc hcd hok
          go_wp2_with (go_at_call 22; refine hread'.out.mono ?_; rintro e w1 ⟨v, rfl, hB1, hc1⟩; have HB1 := Lib.hid hB1; have hC1 : Chg (fun q => T q ≠ 0 ∨ q = g ∨ q = gb) wr w1 := hc1.mono (fun q hq => .inl hq); have HC1 := Lib.hid hC1; have HC0 := Lib.hid hc1; have hR1 := HR.out.mod hC1 HNR.out; have d0 : w1.cell? ⟨w.heap.size + 1, 0, none⟩ = some (.int .i64 0) := hR1.cell 0; have d1 : w1.cell? ⟨w.heap.size + 1, 1, none⟩ = some (.int .u16 0) := hR1.cell 1; have f0 := hR1.free 0; have f1 := hR1.free 1; have HR1 := Lib.hid hR1; clear hB1 hc1 hC1 hR1)
          obtain ⟨r0, r1, hset⟩ := trouble_set HR1.out (.int .i64 (k : Int)) (.int .u16 (cd : Int))
          clear d0 d1 f0 f1
          (try simp only [Exit.inBlock, Exit.then])
          refine bodyPost_ret (v := trVal (some (k, cd))) ?_ rfl ⟨?_, ?_⟩
          · rw [results_cell rfl]
            go_simp
            rfl
          · rw [hst.out, HO.out]
          · rw [hst.out]
            obtain ⟨many, m1, m2, m3⟩ := HE.out.sum
            have hHs : (st.hand (1 + row) but (k + 1)).f = (st.hand (1 + row) but k).f := by rw [HO.out]
            refine ⟨HB1.out.keep hset (fun q hq e => ?_), ⟨many, m1, by omega, ?_⟩, chg_and (HE.out.chg.trans HC1.out) hset (fun q hq e => by omega)⟩
            · subst e; exact HNR.out (.inl hq)
            · rw [hHs]
              exact (m3.mod HC0.out (by simp [hg]) (by simp [hgb])).mod hset (by omega) (by omega)
    · obtain rfl : k = M := by omega
      have d0 : wr.cell? ⟨w.heap.size + 1, 0, none⟩ = some (.int .i64 0) := HR.out.cell 0
      have d1 : wr.cell? ⟨w.heap.size + 1, 1, none⟩ = some (.int .u16 0) := HR.out.cell 1
      have f0 := HR.out.free 0
      have f1 := HR.out.free 1
      obtain ⟨r0, r1, hset⟩ := trouble_set HR.out (.int .i64 0) (.int .u16 0)
      go_wp2
      clear d0 d1 f0 f1
      (try simp only [Exit.inBlock, Exit.then])
      refine bodyPost_ret (v := trVal none) ?_ rfl ⟨?_, ?_⟩
      · rw [results_cell rfl]
        go_simp
        rfl
      · rw [HN.out]
      · obtain ⟨many, m1, m2, m3⟩ := HE.out.sum
        exact ⟨HE.out.bay.keep hset (fun q hq e => by subst e; exact HNR.out (.inl hq)), ⟨many, m1, m2, m3.mod hset (by omega) (by omega)⟩, chg_and HE.out.chg hset (fun q hq e => by omega)⟩

end Go.Proofs.Ytkcfmkhakghniaa
