/- Scrub of a calm bay. -/
import Derived.Test.YtkcfmkhakghniaaScrF
import Derived.Test.YtkcfmkhakghniaaScrG
import Derived.Test.YtkcfmkhakghniaaCalm3
set_option linter.unusedVariables false
namespace Go.Proofs.Ytkcfmkhakghniaa
open Go.RowKit

theorem calm_rows {w : World} {T : Nat → Nat} {b : Nat} {s : BaySt} {sz : Nat → Nat} (h : BayAt w T b s) (hc : CalmBay s sz) (M C S : Nat) (hg : geoIs M C S = true) (hn : s.n = M + 1) (hsz : ∀ m, m < M → sz m = 1 + S * C)
    (hcnt : s.cnt 0 ≤ 999998000000) (hsm : s.small 1000000) :
    Calls Try.prog 16 #[.pointer (some ⟨b, 0, none⟩), geo M C S] w fun e w' =>
      ∃ v, e = .returned (.tuple #[v, .agg #[.int .i64 0, .int .u16 0]]) ∧ w'.ownsRow w.heap.size 3 1 v (uneven s M (S * C)).length (kcells (uneven s M (S * C))) ∧ BayAt w' T b (s.ticks 0 (S * C * M)) ∧ Chg (fun q => T q ≠ 0) w w' := by
  have hl := look_calm hc M (by omega) (S * C) (fun j hj => by rw [hsz j hj]; omega)
  refine (scrub_rows h M C S hg hn hcnt hsm).mono fun e w' ⟨v, h1, h2, h3, h4, h5⟩ => ?_
  rw [hl] at h1 h2 h4
  exact ⟨v, h1, h2 rfl, h4, h5⟩

theorem calm_lost {w : World} {T : Nat → Nat} {b : Nat} {s : BaySt} {sz : Nat → Nat} (h : BayAt w T b s) (hc : CalmBay s sz) (M C S m r : Nat) (hg : geoIs M C S = true) (hn : s.n = M + 1) (hsz : ∀ m, m < M → sz m = 1 + S * C) (hm : m < M) (hr : r < S * C)
    (hcnt : s.cnt 0 ≤ 999998000000) (hsm : s.small 1000000) :
    Calls Try.prog 17 #[.pointer (some ⟨b, 0, none⟩), geo M C S, .int .i64 m, .int .i64 r] w fun e w' =>
      ∃ v, e = .returned (.tuple #[v, .agg #[.int .i64 0, .int .u16 0]]) ∧ w'.ownsRow w.heap.size 5 1 v 128 (ucells (sumL (xorTo (fun j => s.sec j (1 + r)) m M) 128)) ∧ BayAt w' T b (s.ticks 0 (M - 1)) ∧ Chg (fun q => T q ≠ 0) w w' := by
  have hh := hand_calm hc (1 + r) (m : Int) M (by omega) (fun j hj => by rw [hsz j hj]; omega)
  have hM := handed_but (m : Int) M (by omega) (by omega)
  rw [show handed (m : Int) M = M - 1 by omega, show ((1 + r : Nat) : Int) = 1 + (r : Int) by omega] at hh
  refine (scrub_lost h M C S m r hg hn hm hr (by omega) hsm).mono fun e w' ⟨v, h1, h2, h3, h4⟩ => ?_
  rw [hh] at h1 h2 h3
  exact ⟨v, h1, h2.1 rfl, h3, h4⟩

/-- What a row that was mended leaves. -/
structure Mended (s s' : BaySt) (sz : Nat → Nat) (M p r : Nat) : Prop where
  calm : CalmBay s' sz
  n : s'.n = s.n
  small : ∀ m, s.small m → s'.small (m + 1)
  c0 : s'.cnt 0 = s.cnt 0 + ((M - 1 : Nat) : Int)
  c1 : s'.cnt 1 = s.cnt 1 + 1
  c2 : s'.cnt 2 = s.cnt 2 + 1
  sec : ∀ j q, j < s.n → q < sz j → s'.sec j q = if j = p ∧ q = 1 + r then sumL (xorTo (fun j => s.sec j (1 + r)) p M) 128 else s.sec j q
  dry : ∀ j, s.dry j → s'.dry j
  dryp : s'.dry p

theorem calm_mend_plain {s : BaySt} {sz : Nat → Nat} (hc : CalmBay s sz) (M R p r : Nat) (hn : s.n = M + 1) (hsz : ∀ m, m < M → sz m = 1 + R) (hp : p < M) (hr : r < R) : ∃ s', s.mend M p r = (none, s') ∧ Mended s s' sz M p r := by
  have hh := hand_calm hc (1 + r) (p : Int) M (by omega) (fun j hj => by rw [hsz j hj]; omega)
  have hM := handed_but (p : Int) M (by omega) (by omega)
  rw [show handed (p : Int) M = M - 1 by omega, show ((1 + r : Nat) : Int) = 1 + (r : Int) by omega] at hh
  have hc1 := hc.ticks 0 (M - 1)
  obtain ⟨s1, e1, hw, hsec, hdry, hcnt⟩ := write_calm hc1 p (1 + r) (sumL (xorTo (fun j => s.sec j (1 + r)) p M) 128) (by show p < s.n; omega) (by rw [hsz p hp]; omega) (sumL_length _ _)
  have hn1 : s1.n = s.n := hw.n
  obtain ⟨s2, e2, hf⟩ := flush_calm hw.calm p (by omega)
  rw [show ((1 + r : Nat) : Int) = 1 + (r : Int) by omega] at e1
  have hsec' : ∀ j q, j < s.n → q < sz j → s2.sec j q = if j = p ∧ q = 1 + r then sumL (xorTo (fun j => s.sec j (1 + r)) p M) 128 else s.sec j q := fun j q hj hq => by
    rw [hf.sec j q (by omega) hq, hsec j q]
    rfl
  refine ⟨s2, ?_, ⟨hf.calm, hf.n.trans hn1, fun m hm => hf.small _ (hw.small m hm), ?_, ?_, ?_, hsec', fun j hd => ?_, hf.dry⟩⟩
  · unfold BaySt.mend
    rw [hh]
    simp only [ne_eq, not_true_eq_false, if_false]
    rw [e1]
    simp only [not_true_eq_false, if_false]
    rw [e2]
    simp
  · rw [hf.c0, hw.c0, cnt_ticks]
  · rw [hf.c1, hcnt]; rfl
  · rw [hf.hi, hw.c2]; rfl
  · by_cases hj : j = p
    · subst hj; exact hf.dry
    · exact hf.rest j hj (hdry j hj hd)

theorem calm_mend {w : World} {T : Nat → Nat} {b : Nat} {s s' : BaySt} (h : BayAt w T b s) (M C S r : Nat) (hg : geoIs M C S = true) (hn : s.n = M + 1) (hr : r < S * C)
    (hcnt : s.cnt 0 ≤ 999998000000) (hcnt1 : s.cnt 1 ≤ 999998000000) (hcnt2 : s.cnt 2 ≤ 999998000000) (hsm : s.small 999999) (he : s.mend M (parOf M C r) r = (none, s')) :
    Calls Try.prog 23 #[.pointer (some ⟨b, 0, none⟩), geo M C S, .int .i64 r] w fun e w' =>
      e = .returned (.agg #[.int .i64 0, .int .u16 0]) ∧ BayPost w T b s' w' := by
  refine (scrub_mend h M C S r hg hn hr (by omega) (by omega) (by omega) hsm).mono fun e' w' ⟨h1, h2⟩ => ?_
  rw [he] at h1 h2
  exact ⟨h1, h2⟩

end Go.Proofs.Ytkcfmkhakghniaa
