/- Several texts in one: ScrE, RfE. -/
import Derived.Test.YtleicmmbaacbmaaGreatMrg12
import Derived.Test.YtleicmmbaacbmaaGreatCalm2
import Derived.Test.YtleicmmbaacbmaaGreatRfD
import Derived.Test.YtleicmmbaacbmaaGreatMrg8
/- Scrub: Mend, plain and its ways. -/
set_option linter.unusedVariables false
namespace Go.Proofs.YtleicmmbaacbmaaGreat
open Go.RowKit

theorem parOf_lt {M C r : Nat} (h : 0 < M) : parOf M C r < M := by unfold parOf; omega

/-- What any operation leaves, of any bay. -/
structure Went (s s' : BaySt) (j : Nat) (up : Nat) : Prop where
  n : s'.n = s.n
  small : ∀ m, s.small m → s'.small (m + up)
  lo : s.cnt j ≤ s'.cnt j
  hi : s'.cnt j ≤ s.cnt j + 1
  rest : ∀ q, q ≠ j → s'.cnt q = s.cnt q

theorem start_went (s : BaySt) (j : Nat) (k : Int) : Went s (s.start j k).1 j 0 ∧ ∀ m, s.small m → ∀ x, (s.start j k).2 = .inr x → x.d.cache.length ≤ m := by
  unfold BaySt.start
  by_cases hk : 0 ≤ k ∧ k < (s.n : Int)
  · rw [if_neg (by simpa using hk)]
    by_cases ht : s.trip = 0
    · rw [if_pos ht]; exact ⟨⟨rfl, fun m h => h, by show s.cnt j ≤ s.cnt j; omega, by show s.cnt j ≤ _; omega, fun _ _ => rfl⟩, fun m _ x hx => (by cases hx)⟩
    · rw [if_neg ht]
      by_cases hd : s.dark = true
      · rw [if_pos hd]; exact ⟨⟨rfl, fun m h => h, by show s.cnt j ≤ s.cnt j; omega, by show s.cnt j ≤ _; omega, fun _ _ => rfl⟩, fun m _ x hx => (by cases hx)⟩
      · rw [if_neg hd]
        cases hx : s.pos (k.toNat * 3) with
        | none => exact ⟨⟨rfl, fun m h => h, by show s.cnt j ≤ (if j = j then s.cnt j + 1 else s.cnt j); rw [if_pos rfl]; omega, by show (if j = j then s.cnt j + 1 else s.cnt j) ≤ _; rw [if_pos rfl]; omega, fun q hq => if_neg hq⟩, fun m _ x hx => (by cases hx)⟩
        | some x =>
          refine ⟨⟨rfl, fun m h => small_pos h (use_small (h _ (by omega) x hx)) _ rfl rfl, by show s.cnt j ≤ (if j = j then s.cnt j + 1 else s.cnt j); rw [if_pos rfl]; omega, by show (if j = j then s.cnt j + 1 else s.cnt j) ≤ _; rw [if_pos rfl]; omega, fun q hq => if_neg hq⟩, fun m h y hy => ?_⟩
          simp only [Sum.inr.injEq] at hy
          subst hy
          exact use_small (h _ (by omega) x hx)
  · rw [if_pos (by simpa using hk)]; exact ⟨⟨rfl, fun m h => h, by show s.cnt j ≤ s.cnt j; omega, by show s.cnt j ≤ _; omega, fun _ _ => rfl⟩, fun m _ x hx => (by cases hx)⟩

theorem write_cache (d : Dsk) (z : Int) (l : List UInt8) : (d.write z l).2.cache.length ≤ d.cache.length + 1 := by
  unfold Dsk.write
  split
  · show d.cache.length ≤ _; omega
  · split
    · show d.cache.length ≤ _; omega
    · simp
theorem write_went (s : BaySt) (k z : Int) (l : List UInt8) : Went s (s.write k z l).2 1 1 := by
  obtain ⟨h1, h2⟩ := start_went s 1 k
  unfold BaySt.write
  cases h : s.start 1 k with
  | mk a b =>
    rw [h] at h1 h2
    cases b with
    | inl c => exact ⟨h1.n, fun m hm i hi x hx => Nat.le_succ_of_le (h1.small m hm i hi x hx), h1.lo, h1.hi, h1.rest⟩
    | inr x =>
      refine ⟨h1.n, fun m hm => small_pos (s := a) (i := k.toNat * 3) (fun i hi y hy => Nat.le_succ_of_le (h1.small m hm i hi y hy)) (Nat.le_trans (write_cache x.d z l) (Nat.succ_le_succ (h2 m hm x rfl))) _ rfl rfl, h1.lo, h1.hi, h1.rest⟩
theorem flush_went (s : BaySt) (k : Int) : Went s (s.flush k).2 2 0 := by
  obtain ⟨h1, h2⟩ := start_went s 2 k
  unfold BaySt.flush
  cases h : s.start 2 k with
  | mk a b =>
    rw [h] at h1 h2
    cases b with
    | inl c => exact h1
    | inr x =>
      refine ⟨h1.n, fun m hm => small_pos (s := a) (i := k.toNat * 3) (h1.small m hm) ?_ _ rfl rfl, h1.lo, h1.hi, h1.rest⟩
      show (x.d.flush).2.cache.length ≤ m
      unfold Dsk.flush
      split
      · exact h2 m hm x rfl
      · show 0 ≤ m; omega

theorem write_code_lt (s : BaySt) (k z : Int) (l : List UInt8) : (s.write k z l).1 < 65536 := by
  unfold BaySt.write
  cases h : s.start 1 k with
  | mk a b =>
    cases b with
    | inl c => exact (start_code h).2
    | inr x =>
      show (x.d.write z l).1 < 65536
      unfold Dsk.write
      split
      · exact may_lt _ _
      · split
        · show 4 < 65536; omega
        · show 0 < 65536; omega
theorem flush_code_lt (s : BaySt) (k : Int) : (s.flush k).1 < 65536 := by
  unfold BaySt.flush
  cases h : s.start 2 k with
  | mk a b =>
    cases b with
    | inl c => exact (start_code h).2
    | inr x =>
      show (x.d.flush).1 < 65536
      unfold Dsk.flush
      split
      · show 2 < 65536; omega
      · show 0 < 65536; omega

/-- What Mend answers, if there is such a row, and leaves. -/
def BaySt.mend (s : BaySt) (M p r : Nat) : Option (Nat × Nat) × BaySt :=
  if (s.hand (1 + r) p M).t ≠ none then ((s.hand (1 + r) p M).t, (s.hand (1 + r) p M).s)
  else if ((s.hand (1 + r) p M).s.write p (1 + r) (sumL (s.hand (1 + r) p M).f 128)).1 ≠ 0 then (some (p, ((s.hand (1 + r) p M).s.write p (1 + r) (sumL (s.hand (1 + r) p M).f 128)).1), ((s.hand (1 + r) p M).s.write p (1 + r) (sumL (s.hand (1 + r) p M).f 128)).2)
  else if (((s.hand (1 + r) p M).s.write p (1 + r) (sumL (s.hand (1 + r) p M).f 128)).2.flush p).1 ≠ 0 then (some (p, (((s.hand (1 + r) p M).s.write p (1 + r) (sumL (s.hand (1 + r) p M).f 128)).2.flush p).1), (((s.hand (1 + r) p M).s.write p (1 + r) (sumL (s.hand (1 + r) p M).f 128)).2.flush p).2)
  else (none, (((s.hand (1 + r) p M).s.write p (1 + r) (sumL (s.hand (1 + r) p M).f 128)).2.flush p).2)

end Go.Proofs.YtleicmmbaacbmaaGreat

/- The document's bay: Read, Write, Flush. -/
set_option linter.unusedVariables false
namespace Go.Proofs.YtleicmmbaacbmaaGreat
open Go.RowKit

/-- Bytes outside of what turned. -/
theorem seg_out {S : Nat → Prop} {w w' : World} {a : Option Addr} {n c : Nat} {l : List UInt8} (h : Seg w (.slice a n c) l) (hc : Chg S w w') (ho : l ≠ [] → ∀ ad, a = some ad → ¬ S ad.block) : Seg w' (.slice a n c) l := by
  obtain ⟨a', cap, hv, hn, h⟩ := h
  simp only [Value.slice.injEq] at hv
  obtain ⟨rfl, rfl, rfl⟩ := hv
  refine ⟨a, c, rfl, hn, ?_⟩
  rcases h with h | ⟨b, off, ha, hlt, hx⟩
  · exact .inl h
  · by_cases hl : l = []
    · exact .inl hl
    · refine .inr ⟨b, off, ha, Nat.lt_of_lt_of_le hlt hc.size, fun j hj => ?_⟩
      rw [← hx j hj]
      exact hc.cell (p := ⟨b, off + j, none⟩) hlt (ho hl ⟨b, off, none⟩ ha)

theorem start_inr {s s' : BaySt} {j : Nat} {k : Int} {x : Dev} (h : s.start j k = (s', .inr x)) : ∃ i : Nat, k = i ∧ i < s.n ∧ s'.n = s.n ∧ s'.pos (i * 3) = some x := by
  unfold BaySt.start at h
  by_cases hk : 0 ≤ k ∧ k < (s.n : Int)
  · rw [if_neg (by simpa using hk)] at h
    obtain ⟨i, rfl⟩ : ∃ q : Nat, k = q := ⟨k.toNat, by omega⟩
    refine ⟨i, rfl, by omega, ?_⟩
    rw [Int.toNat_natCast] at h
    by_cases ht : s.trip = 0
    · rw [if_pos ht] at h; cases h
    · rw [if_neg ht] at h
      by_cases hd : s.dark = true
      · rw [if_pos hd] at h; cases h
      · rw [if_neg hd] at h
        cases hx : s.pos (i * 3) with
        | none => rw [hx] at h; cases h
        | some y =>
          rw [hx] at h
          simp only [Prod.mk.injEq, Sum.inr.injEq] at h
          obtain ⟨rfl, rfl⟩ := h
          exact ⟨rfl, if_pos rfl⟩
  · rw [if_pos (by simpa using hk)] at h; cases h

theorem may_code (d : Dsk) (z : Int) : d.may z = 0 ∨ d.may z = 2 ∨ d.may z = 3 := by
  unfold Dsk.may
  split
  · exact .inr (.inl rfl)
  · split
    · exact .inr (.inr rfl)
    · exact .inl rfl
theorem dread_code (d : Dsk) (z : Int) : (d.read z).1 = 0 ∨ (d.read z).1 = 2 ∨ (d.read z).1 = 3 := by
  unfold Dsk.read
  split
  · exact .inl rfl
  · exact may_code d z
theorem dwrite_code (d : Dsk) (z : Int) (l : List UInt8) : (d.write z l).1 = 0 ∨ (d.write z l).1 = 2 ∨ (d.write z l).1 = 3 ∨ (d.write z l).1 = 4 := by
  unfold Dsk.write
  split
  · show d.may z = 0 ∨ d.may z = 2 ∨ d.may z = 3 ∨ d.may z = 4
    unfold Dsk.may
    split
    · exact .inr (.inl rfl)
    · split
      · exact .inr (.inr (.inl rfl))
      · exact .inl rfl
  · split
    · exact .inr (.inr (.inr rfl))
    · exact .inl rfl
theorem dflush_code (d : Dsk) : d.flush.1 = 0 ∨ d.flush.1 = 2 := by
  unfold Dsk.flush
  split
  · exact .inr rfl
  · exact .inl rfl

/-- What a read of the document's bay leaves. -/
def RBRead (w : World) (R : Nat → Prop) (c : Nat) (r : Nat × Option Sec × BaySt) (e : Ending) (w' : World) : Prop :=
  ∃ v, e = .returned (.tuple #[v, .int .u16 ((r.1 : Nat) : Int)]) ∧ RBPost w R c r.2.2 w' ∧ (∀ x, r.2.1 = some x → w'.ownsRow w.heap.size 5 1 v 128 (ucells x)) ∧ (r.2.1 = none → v = .slice none 0 0)

set_option maxRecDepth 100000 in
set_option maxHeartbeats 4000000 in
theorem rbay_read {w : World} {R : Nat → Prop} {c : Nat} {s : BaySt} (h : RBayAt w R c s) (k z : Int) (hcnt : s.cnt 0 ≤ 1000000000000) :
    Calls Tryz.prog 99 #[.pointer (some ⟨c, 0, none⟩), .int .i64 k, .int .i64 z] w (RBRead w R c (s.read k z)) := by
  obtain ⟨gs, cap, ptr, D, h⟩ := h
  have HBG : Hid (Calls Tryz.prog 72 #[.pointer (some ⟨c, 0, none⟩), .int .i64 k, .int .i64 1] w fun e w' =>
      e = .returned (.int .u16 ((startCode (s.start 0 k).2 : Nat) : Int)) ∧ RBTurned w R c (s.start 0 k).1 gs cap ptr w') := rbay_begins h 0 (by omega) k hcnt
  obtain ⟨r, hr⟩ : ∃ r, r = s.read k z := ⟨_, rfl⟩
  rw [← hr]
  have HR := Lib.hid hr
  have HB := Lib.hid h
  have hfew := h.few
  clear hr h hcnt
  cases hst : s.start 0 k with
  | mk s' q =>
    rw [hst] at HBG
    cases q with
    | inl cd =>
      have hrd : r = (cd, none, s') := by rw [HR.out]; unfold BaySt.read; rw [hst]
      obtain ⟨h0, h1⟩ := start_code hst
      have hne : ¬ ((cd : Nat) : Int) = 0 := by omega
      have HRD := Lib.hid hrd
      have HC : Hid (startCode (.inl cd) = cd) := rfl
      rw [HC.out] at HBG
      clear hrd hst h0
      go_enter Tryz.func99, Tryz.ntmps99
      go_wp2_with (first
        | (go_at_call 72; (with_reducible refine HBG.out.mono ?_); rintro e w1 ⟨rfl, hpost⟩; have HP := Lib.hid hpost; clear hpost))
      go_ret2
      rw [HRD.out]
      exact ⟨_, rfl, HP.out.post, fun x hx => (by cases hx), fun _ => rfl⟩
    | inr x =>
      obtain ⟨i, rfl, hi, hn', hx⟩ := start_inr hst
      have hrd : r = ((x.d.read z).1, (x.d.read z).2, s') := by rw [HR.out]; unfold BaySt.read; rw [hst]
      have HRD := Lib.hid hrd
      have HC : Hid (startCode (.inr x) = 0) := rfl
      rw [HC.out] at HBG
      have hcd := dread_code x.d z
      have HX := Lib.hid hx
      have HN := Lib.hid hn'
      obtain ⟨cd, hcd'⟩ : ∃ cd, cd = (x.d.read z).1 := ⟨_, rfl⟩
      rw [← hcd'] at hcd
      have HCD := Lib.hid hcd'
      have HK : Hid (∀ W R1 D1 p, RBayIn W R1 c s' gs cap ptr D1 → ptr (i * 3) = some p → Calls Tryz.prog 106 #[.pointer (some ⟨p, 0, none⟩), .int .i64 z] W fun e w' => ∃ v, e = .returned (.tuple #[v, .int .i64 ((cd : Nat) : Int)]) ∧ Below W.heap.size W w' ∧ (∀ y, (x.d.read z).2 = some y → w'.ownsRow W.heap.size 5 1 v 128 (ucells y)) ∧ ((x.d.read z).2 = none → v = .slice none 0 0)) := by
        intro W R1 D1 p hW hp
        obtain ⟨p', hp', hd⟩ := hW.some' (i * 3) (by rw [HN.out]; omega) x HX.out
        rw [hp] at hp'
        obtain rfl := Option.some.inj hp'
        rw [HCD.out]
        exact rdisk_read hd z
      clear hrd hst hx hn' hcd'
      go_enter Tryz.func99, Tryz.ntmps99
      rcases hcd with rfl | rfl | rfl
      all_goals
        go_wp2_with (first
          | (go_at_call 72; (with_reducible refine HBG.out.mono ?_); rintro e w1 ⟨rfl, R1, D1, hin, hR1, hch1⟩; obtain ⟨p, hp, -⟩ := hin.some' (i * 3) (by rw [HN.out]; omega) x HX.out; have c0 : w1.cell? ⟨c, 0, none⟩ = some (.slice (some ⟨gs, 0, none⟩) s'.n cap) := hin.bay.cell 0; rw [HN.out] at c0; have p0 : w1.cell? ⟨gs, i * 6, none⟩ = some (pcell (ptr (i * 3))) := hin.cellP (by rw [HN.out]; omega) 0 (by omega); rw [hp] at p0; unfold pcell at p0; rw [Option.map_some] at p0; have HIN := Lib.hid hin; have HP := Lib.hid hp; have HR1 := Lib.hid hR1; have HCH1 := Lib.hid hch1; clear hin hp hR1 hch1)
          | (go_at_call 106; (with_reducible refine (HK.out _ _ _ _ HIN.out HP.out).mono ?_); rintro e w2 ⟨v, rfl, hb2, hv1, hv2⟩; have HB2 := Lib.hid hb2; have HV1 := Lib.hid hv1; have HV2 := Lib.hid hv2; clear hb2 hv1 hv2))
        go_ret2
        rw [HRD.out]
        refine ⟨_, ?_, ?_, fun y hy => ownsRow_lower (HV1.out y hy) HCH1.out.size, HV2.out⟩
        · rw [← HCD.out]; rfl
        · exact RBPost.trans HR1.out HCH1.out (RBPost.same (RBayAt.below ⟨gs, cap, ptr, D1, HIN.out⟩ HB2.out) (Chg.ofBelow HB2.out _))

set_option maxRecDepth 100000 in
set_option maxHeartbeats 4000000 in
theorem rbay_write {w : World} {R : Nat → Prop} {c : Nat} {s : BaySt} (h : RBayAt w R c s) (k z : Int) (v : Value) (l : List UInt8) (hcnt : s.cnt 1 ≤ 1000000000000) (hm : s.small 1000000) (hv : Seg w v l) (hvR : l ≠ [] → ∀ a n cc, v = .slice (some a) n cc → ¬ R a.block) :
    Calls Tryz.prog 29 #[.pointer (some ⟨c, 0, none⟩), .int .i64 k, .int .i64 z, v] w fun e w' => e = .returned (.int .u16 (((s.write k z l).1 : Nat) : Int)) ∧ RBPost w R c (s.write k z l).2 w' := by
  obtain ⟨gs, cap, ptr, D, h⟩ := h
  have HBG : Hid (Calls Tryz.prog 72 #[.pointer (some ⟨c, 0, none⟩), .int .i64 k, .int .i64 2] w fun e w' =>
      e = .returned (.int .u16 ((startCode (s.start 1 k).2 : Nat) : Int)) ∧ RBTurned w R c (s.start 1 k).1 gs cap ptr w') := rbay_begins h 1 (by omega) k hcnt
  obtain ⟨r, hr⟩ : ∃ r, r = s.write k z l := ⟨_, rfl⟩
  rw [← hr]
  have HR := Lib.hid hr
  have HB := Lib.hid h
  have hfew := h.few
  obtain ⟨va, vc, rfl⟩ := hv.shape
  have HV := Lib.hid hv
  have HVR : Hid (l ≠ [] → ∀ ad, va = some ad → ¬ R ad.block) := fun hl ad e => hvR hl ad _ _ (by rw [e])
  have HSW := Lib.hid ((start_went s 1 k).2 _ hm)
  clear hr h hcnt hv hvR hm
  cases hst : s.start 1 k with
  | mk s' q =>
    rw [hst] at HBG HSW
    cases q with
    | inl cd =>
      have hrd : r = (cd, s') := by rw [HR.out]; unfold BaySt.write; rw [hst]
      obtain ⟨h0, h1⟩ := start_code hst
      have hne : ¬ ((cd : Nat) : Int) = 0 := by omega
      have HRD := Lib.hid hrd
      have HC : Hid (startCode (.inl cd) = cd) := rfl
      rw [HC.out] at HBG
      clear hrd hst h0
      go_enter Tryz.func29, Tryz.ntmps29
      go_wp2_with (first
        | (go_at_call 72; (with_reducible refine HBG.out.mono ?_); rintro e w1 ⟨rfl, hpost⟩; have HP := Lib.hid hpost; clear hpost))
      go_ret
      rw [HRD.out]
      exact ⟨rfl, HP.out.post⟩
    | inr x =>
      obtain ⟨i, rfl, hi, hn', hx⟩ := start_inr hst
      have hrd : r = ((x.d.write z l).1, s'.laid (i * 3) ⟨(x.d.write z l).2, x.worn, x.left⟩) := by rw [HR.out]; unfold BaySt.write; rw [hst, Int.toNat_natCast]
      have HRD := Lib.hid hrd
      have HC : Hid (startCode (.inr x) = 0) := rfl
      rw [HC.out] at HBG
      have hcd := dwrite_code x.d z l
      have HX := Lib.hid hx
      have HN := Lib.hid hn'
      obtain ⟨cd, hcd'⟩ : ∃ cd, cd = (x.d.write z l).1 := ⟨_, rfl⟩
      rw [← hcd'] at hcd
      have HCD := Lib.hid hcd'
      have HXS : Hid (x.d.cache.length ≤ 1000000) := HSW.out x rfl
      have HK : Hid (∀ W R1 D1 p, RBayIn W R1 c s' gs cap ptr D1 → ptr (i * 3) = some p → Chg R w W → Calls Tryz.prog 73 #[.pointer (some ⟨p, 0, none⟩), .int .i64 z, .slice va l.length vc] W fun e w' => e = .returned (.int .i64 ((cd : Nat) : Int)) ∧ RBTurned W R1 c (s'.laid (i * 3) ⟨(x.d.write z l).2, x.worn, x.left⟩) gs cap ptr w') := by
        intro W R1 D1 p hW hp hc
        obtain ⟨p', hp', hd⟩ := hW.some' (i * 3) (by rw [HN.out]; omega) x HX.out
        rw [hp] at hp'
        obtain rfl := Option.some.inj hp'
        rw [HCD.out]
        obtain ⟨wl, wh⟩ := hW.wear (i * 3) (by rw [HN.out]; omega) x HX.out
        exact (rdisk_write hd z _ l (seg_out HV.out hc HVR.out) HXS.out).mono fun e w' ⟨q1, q2⟩ => ⟨q1, hW.turn (y := ⟨(x.d.write z l).2, x.worn, x.left⟩) (by rw [HN.out]; omega) HX.out hp (by unfold wearOf; rfl) wl wh q2⟩
      clear hrd hst hx hn' hcd'
      go_enter Tryz.func29, Tryz.ntmps29
      rcases hcd with rfl | rfl | rfl | rfl
      all_goals
        go_wp2_with (first
          | (go_at_call 72; (with_reducible refine HBG.out.mono ?_); rintro e w1 ⟨rfl, R1, D1, hin, hR1, hch1⟩; obtain ⟨p, hp, -⟩ := hin.some' (i * 3) (by rw [HN.out]; omega) x HX.out; have c0 : w1.cell? ⟨c, 0, none⟩ = some (.slice (some ⟨gs, 0, none⟩) s'.n cap) := hin.bay.cell 0; rw [HN.out] at c0; have p0 : w1.cell? ⟨gs, i * 6, none⟩ = some (pcell (ptr (i * 3))) := hin.cellP (by rw [HN.out]; omega) 0 (by omega); rw [hp] at p0; unfold pcell at p0; rw [Option.map_some] at p0; have HIN := Lib.hid hin; have HP := Lib.hid hp; have HR1 := Lib.hid hR1; have HCH1 := Lib.hid hch1; clear hin hp hR1 hch1)
          | (go_at_call 73; (with_reducible refine (HK.out _ _ _ _ HIN.out HP.out HCH1.out).mono ?_); rintro e w2 ⟨rfl, hpost⟩; have HPO := Lib.hid hpost; clear hpost))
        go_ret
        rw [HRD.out]
        refine ⟨?_, ?_⟩
        · rw [← HCD.out]; rfl
        · exact RBPost.trans HR1.out HCH1.out HPO.out.post

set_option maxRecDepth 100000 in
set_option maxHeartbeats 4000000 in
theorem rbay_flush {w : World} {R : Nat → Prop} {c : Nat} {s : BaySt} (h : RBayAt w R c s) (k : Int) (hcnt : s.cnt 2 ≤ 1000000000000) :
    Calls Tryz.prog 71 #[.pointer (some ⟨c, 0, none⟩), .int .i64 k] w fun e w' => e = .returned (.int .u16 (((s.flush k).1 : Nat) : Int)) ∧ RBPost w R c (s.flush k).2 w' := by
  obtain ⟨gs, cap, ptr, D, h⟩ := h
  have HBG : Hid (Calls Tryz.prog 72 #[.pointer (some ⟨c, 0, none⟩), .int .i64 k, .int .i64 3] w fun e w' =>
      e = .returned (.int .u16 ((startCode (s.start 2 k).2 : Nat) : Int)) ∧ RBTurned w R c (s.start 2 k).1 gs cap ptr w') := rbay_begins h 2 (by omega) k hcnt
  obtain ⟨r, hr⟩ : ∃ r, r = s.flush k := ⟨_, rfl⟩
  rw [← hr]
  have HR := Lib.hid hr
  have HB := Lib.hid h
  have hfew := h.few
  clear hr h hcnt
  cases hst : s.start 2 k with
  | mk s' q =>
    rw [hst] at HBG
    cases q with
    | inl cd =>
      have hrd : r = (cd, s') := by rw [HR.out]; unfold BaySt.flush; rw [hst]
      obtain ⟨h0, h1⟩ := start_code hst
      have hne : ¬ ((cd : Nat) : Int) = 0 := by omega
      have HRD := Lib.hid hrd
      have HC : Hid (startCode (.inl cd) = cd) := rfl
      rw [HC.out] at HBG
      clear hrd hst h0
      go_enter Tryz.func71, Tryz.ntmps71
      go_wp2_with (first
        | (go_at_call 72; (with_reducible refine HBG.out.mono ?_); rintro e w1 ⟨rfl, hpost⟩; have HP := Lib.hid hpost; clear hpost))
      go_ret
      rw [HRD.out]
      exact ⟨rfl, HP.out.post⟩
    | inr x =>
      obtain ⟨i, rfl, hi, hn', hx⟩ := start_inr hst
      have hrd : r = (x.d.flush.1, s'.laid (i * 3) ⟨x.d.flush.2, x.worn, x.left⟩) := by rw [HR.out]; unfold BaySt.flush; rw [hst, Int.toNat_natCast]
      have HRD := Lib.hid hrd
      have HC : Hid (startCode (.inr x) = 0) := rfl
      rw [HC.out] at HBG
      have hcd := dflush_code x.d
      have HX := Lib.hid hx
      have HN := Lib.hid hn'
      obtain ⟨cd, hcd'⟩ : ∃ cd, cd = x.d.flush.1 := ⟨_, rfl⟩
      rw [← hcd'] at hcd
      have HCD := Lib.hid hcd'
      have HK : Hid (∀ W R1 D1 p, RBayIn W R1 c s' gs cap ptr D1 → ptr (i * 3) = some p → Calls Tryz.prog 100 #[.pointer (some ⟨p, 0, none⟩)] W fun e w' => e = .returned (.int .i64 ((cd : Nat) : Int)) ∧ RBTurned W R1 c (s'.laid (i * 3) ⟨x.d.flush.2, x.worn, x.left⟩) gs cap ptr w') := by
        intro W R1 D1 p hW hp
        obtain ⟨p', hp', hd⟩ := hW.some' (i * 3) (by rw [HN.out]; omega) x HX.out
        rw [hp] at hp'
        obtain rfl := Option.some.inj hp'
        rw [HCD.out]
        obtain ⟨wl, wh⟩ := hW.wear (i * 3) (by rw [HN.out]; omega) x HX.out
        exact (rdisk_flush hd).mono fun e w' ⟨q1, q2⟩ => ⟨q1, hW.turn (y := ⟨x.d.flush.2, x.worn, x.left⟩) (by rw [HN.out]; omega) HX.out hp (by unfold wearOf; rfl) wl wh q2⟩
      clear hrd hst hx hn' hcd'
      go_enter Tryz.func71, Tryz.ntmps71
      rcases hcd with rfl | rfl
      all_goals
        go_wp2_with (first
          | (go_at_call 72; (with_reducible refine HBG.out.mono ?_); rintro e w1 ⟨rfl, R1, D1, hin, hR1, hch1⟩; obtain ⟨p, hp, -⟩ := hin.some' (i * 3) (by rw [HN.out]; omega) x HX.out; have c0 : w1.cell? ⟨c, 0, none⟩ = some (.slice (some ⟨gs, 0, none⟩) s'.n cap) := hin.bay.cell 0; rw [HN.out] at c0; have p0 : w1.cell? ⟨gs, i * 6, none⟩ = some (pcell (ptr (i * 3))) := hin.cellP (by rw [HN.out]; omega) 0 (by omega); rw [hp] at p0; unfold pcell at p0; rw [Option.map_some] at p0; have HIN := Lib.hid hin; have HP := Lib.hid hp; have HR1 := Lib.hid hR1; have HCH1 := Lib.hid hch1; clear hin hp hR1 hch1)
          | (go_at_call 100; (with_reducible refine (HK.out _ _ _ _ HIN.out HP.out).mono ?_); rintro e w2 ⟨rfl, hpost⟩; have HPO := Lib.hid hpost; clear hpost))
        go_ret
        rw [HRD.out]
        refine ⟨?_, ?_⟩
        · rw [← HCD.out]; rfl
        · exact RBPost.trans HR1.out HCH1.out HPO.out.post

end Go.Proofs.YtleicmmbaacbmaaGreat
