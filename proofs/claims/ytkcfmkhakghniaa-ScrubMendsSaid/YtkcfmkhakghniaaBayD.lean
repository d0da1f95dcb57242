/- A bay of disks: an operation. -/
import Derived.Test.YtkcfmkhakghniaaBayC
set_option linter.unusedVariables false
namespace Go.Proofs.Ytkcfmkhakghniaa
open Go.RowKit

/-- The bay's own cells turned. -/
theorem BayIn.cells' {W W' : World} {T : Nat → Nat} {b : Nat} {s : BaySt} {gs : Nat} {ptr : Nat → Option Nat} {tg dp : Nat → Nat} (h : BayIn W T b s gs ptr tg dp) (hc : Chg (fun k => k = b) W W') (dark : Bool) (trip : Int) (cnt : Nat → Int)
    (ha : At W' b #[.slice (some ⟨gs, 0, none⟩) s.n s.n, .bool dark, .int .i64 trip, .int .i64 (cnt 0), .int .i64 (cnt 1), .int .i64 (cnt 2)] 94) (h1 : ∀ j, 0 ≤ cnt j) (h2 : -1 ≤ trip) (h3 : trip ≤ 9223372036854775807) : BayIn W' T b { s with dark := dark, trip := trip, cnt := cnt } gs ptr tg dp := by
  have hne : gs ≠ b := fun e => by
    have a := h.bay; have c := h.slots
    subst e
    unfold At at a c
    rw [a] at c
    simp only [Option.some.injEq, Obj.cells.injEq] at c
    exact absurd c.2.1 (by decide)
  refine ⟨ha, h.slots.mod hc hne, h.tb, h.ts, fun i hi x hx => ?_, h.none', h.apart, h.own, fun k hk => h.virgin k (Nat.le_trans hc.size hk), h.few, h1, h2, h3⟩
  obtain ⟨dv, k1, k2⟩ := h.some' i hi x hx
  refine ⟨dv, k1, k2.keep hc (fun k hk e => ?_)⟩
  subst e
  rcases hk with hk | hk
  · have := h.tb; have := k2.two; omega
  · subst hk
    have a := h.bay; have c := k2.dev
    unfold At at a c
    rw [a] at c
    simp only [Option.some.injEq, Obj.cells.injEq] at c
    exact absurd c.2.1 (by decide)

/-- A device turned. -/
theorem BayIn.device {W W' : World} {T : Nat → Nat} {b : Nat} {s : BaySt} {gs : Nat} {ptr : Nat → Option Nat} {tg dp : Nat → Nat} (h : BayIn W T b s gs ptr tg dp) {i dv : Nat} {x x' : Dev} (hi : i < 3 * s.n) (hx : s.pos i = some x) (hp : ptr i = some dv) (hd : DevPost W T (tg i) dv (dp i) x' W') :
    ∃ T', BayIn W' T' b { s with pos := fun q => if q = i then some x' else s.pos q } gs ptr tg dp ∧ (∀ k, k < W.heap.size → T' k = T k) ∧ Chg (fun k => T k ≠ 0) W W' := by
  obtain ⟨T', d1, d2, d3, d4⟩ := hd
  obtain ⟨dv0, q1, q2⟩ := h.some' i hi x hx
  rw [hp] at q1
  simp only [Option.some.injEq] at q1
  subst q1
  have htwo := q2.two
  have hne : ∀ g cs ty, At W g cs ty → ty ≠ 100 → g ≠ dv := fun g cs ty ha hty e => by
    subst e
    have c := q2.dev
    unfold At at ha c
    rw [ha] at c
    simp only [Option.some.injEq, Obj.cells.injEq] at c
    exact hty c.2.1
  have hb : ¬ (T b = tg i ∨ b = dv) := by
    rintro (e | e)
    · have := h.tb; omega
    · exact hne b _ _ h.bay (by decide) e
  have hs : ¬ (T gs = tg i ∨ gs = dv) := by
    rintro (e | e)
    · have := h.ts; omega
    · exact hne gs _ _ h.slots (by decide) e
  refine ⟨T', ⟨h.bay.mod d4 hb, h.slots.mod d4 hs, by rw [d2 b (.inl h.bay.lt)]; exact h.tb, by rw [d2 gs (.inl h.slots.lt)]; exact h.ts, fun j hj y hy => ?_, fun j hj hy => ?_, fun j l hj hl hjl a c => ?_, h.own, fun k hk => ?_, h.few, h.cl, h.trl, h.trh⟩, fun k hk => d2 k (.inl hk), d4.mono fun k hk => ?_⟩
  · by_cases hji : j = i
    · subst hji
      simp only [if_pos, Option.some.injEq] at hy
      subst hy
      exact ⟨dv, hp, d1⟩
    · simp only [if_neg hji] at hy
      obtain ⟨dv2, e1, e2⟩ := h.some' j hj y hy
      have hap := h.apart j i hj hi hji (by rw [hy]; simp) (by rw [hx]; simp)
      refine ⟨dv2, e1, ?_⟩
      refine ⟨e2.dev.mod d4 ?_, by rw [d2 dv2 (.inl e2.dev.lt)]; exact e2.tag, e2.two, ?_, e2.lo, e2.hi⟩
      · rintro (e | e)
        · have := e2.tag; omega
        · exact h.own j i hj hi hji dv2 e1 (by rw [hp, e])
      · refine (e2.disk.retag (fun g hg => d2 g (.inl hg))).keep d4 (fun q hq e => ?_)
        have hap' : tg j ≠ tg i := hap
        rcases d3 q with h3 | h3
        · rw [h3] at hq
          rcases e with e | e
          · omega
          · subst e; have := q2.tag; have := e2.two; omega
        · omega
  · by_cases hji : j = i
    · subst hji; simp at hy
    · simp only [if_neg hji] at hy; exact h.none' j hj hy
  · have a' : s.pos j ≠ none := by
      by_cases hji : j = i
      · subst hji; rw [hx]; simp
      · simpa [hji] using a
    have c' : s.pos l ≠ none := by
      by_cases hli : l = i
      · subst hli; rw [hx]; simp
      · simpa [hli] using c
    exact h.apart j l hj hl hjl a' c'
  · rw [d2 k (.inr hk)]
    exact h.virgin k (Nat.le_trans d4.size hk)
  · rcases hk with hk | hk
    · omega
    · subst hk; have := q2.tag; omega


/-- A bay behind the beginning of an operation: j is what it counts as, i the disk's place, x' the device behind its wear. -/
def BaySt.begun (s : BaySt) (j i : Nat) (x' : Dev) : BaySt :=
  { s with trip := if 0 < s.trip then s.trip - 1 else s.trip, cnt := fun q => if q = j then s.cnt j + 1 else s.cnt q, pos := fun q => if q = i then some x' else s.pos q }

theorem DevAt.use_post {w w' : World} {T : Nat → Nat} {t dv dp : Nat} {x : Dev} (h : DevAt w' T t dv dp x) (hc : Chg (fun k => T k = t ∨ k = dv) w w') : DevPost w T t dv dp x w' := ⟨T, h, fun _ _ => rfl, fun _ => .inl rfl, hc⟩

/-- As 'device', the tags being as they were. -/
theorem BayIn.used {W W' : World} {T : Nat → Nat} {b : Nat} {s : BaySt} {gs : Nat} {ptr : Nat → Option Nat} {tg dp : Nat → Nat} (h : BayIn W T b s gs ptr tg dp) {i dv : Nat} {x x' : Dev} (hi : i < 3 * s.n) (hx : s.pos i = some x) (hp : ptr i = some dv) (hd : DevAt W' T (tg i) dv (dp i) x') (hc : Chg (fun k => T k = tg i ∨ k = dv) W W') :
    BayIn W' T b { s with pos := fun q => if q = i then some x' else s.pos q } gs ptr tg dp ∧ Chg (fun k => T k ≠ 0) W W' := by
  obtain ⟨dv0, q1, q2⟩ := h.some' i hi x hx
  rw [hp] at q1
  simp only [Option.some.injEq] at q1
  subst q1
  have htwo := q2.two
  have hne : ∀ g cs ty, At W g cs ty → ty ≠ 100 → g ≠ dv := fun g cs ty ha hty e => by
    subst e
    have c := q2.dev
    unfold At at ha c
    rw [ha] at c
    simp only [Option.some.injEq, Obj.cells.injEq] at c
    exact hty c.2.1
  refine ⟨⟨h.bay.mod hc ?_, h.slots.mod hc ?_, h.tb, h.ts, fun j hj y hy => ?_, fun j hj hy => ?_, fun j l hj hl hjl a c => ?_, h.own, fun k hk => h.virgin k (Nat.le_trans hc.size hk), h.few, h.cl, h.trl, h.trh⟩, hc.mono fun k hk => ?_⟩
  · rintro (e | e)
    · have := h.tb; omega
    · exact hne b _ _ h.bay (by decide) e
  · rintro (e | e)
    · have := h.ts; omega
    · exact hne gs _ _ h.slots (by decide) e
  · by_cases hji : j = i
    · subst hji
      simp only [if_pos, Option.some.injEq] at hy
      subst hy
      exact ⟨dv, hp, hd⟩
    · simp only [if_neg hji] at hy
      obtain ⟨dv2, e1, e2⟩ := h.some' j hj y hy
      have hap := h.apart j i hj hi hji (by rw [hy]; simp) (by rw [hx]; simp)
      refine ⟨dv2, e1, e2.keep hc (fun k hk e => ?_)⟩
      rcases hk with hk | hk
      · rcases e with e | e
        · omega
        · subst e; have := q2.tag; have := e2.two; omega
      · subst hk
        rcases e with e | e
        · have := e2.tag; omega
        · exact h.own j i hj hi hji k e1 (by rw [hp, e])
  · by_cases hji : j = i
    · subst hji; simp at hy
    · simp only [if_neg hji] at hy; exact h.none' j hj hy
  · have a' : s.pos j ≠ none := by
      by_cases hji : j = i
      · subst hji; rw [hx]; simp
      · simpa [hji] using a
    have c' : s.pos l ≠ none := by
      by_cases hli : l = i
      · subst hli; rw [hx]; simp
      · simpa [hli] using c
    exact h.apart j l hj hl hjl a' c'
  · rcases hk with hk | hk
    · omega
    · subst hk; have := q2.tag; omega


end Go.Proofs.Ytkcfmkhakghniaa
