/- Helpers of the plan laws that take any batch: too much of it; what is refused. -/
import Derived.Test.YtkcfmkhakghniaaGreatPlwG
import Derived.Test.YtkcfmkhakghniaaGreatPlwO
set_option linter.unusedVariables false
namespace Go.Proofs.YtkcfmkhakghniaaGreat
open Go.RowKit

/-- How much is looked at: lengths added up, till it is too much. -/
def muchN : List Nat → Int → Int
  | [], n => n
  | a :: l, n => if n ≤ 300000 then muchN l (n + a) else n
theorem muchN_big (l : List Nat) {n : Int} (h : ¬ n ≤ 300000) : muchN l n = n := by
  cases l with
  | nil => rfl
  | cons a l => show (if n ≤ 300000 then _ else _) = _; rw [if_neg h]
theorem muchN_step (l : List Nat) {n : Int} (k : Nat) (hk : k < l.length) (h : n ≤ 300000) : muchN (l.drop k) n = muchN (l.drop (k + 1)) (n + (l[k] : Nat)) := by
  rw [List.drop_eq_getElem_cons hk]
  show (if n ≤ 300000 then _ else _) = _
  rw [if_pos h]
/-- Is it too much? -/
def muchIs (l : List Nat) : Bool := decide (300000 < muchN l l.length)

set_option maxRecDepth 100000 in
set_option maxHeartbeats 2000000 in
theorem much_puts (v : Value) (us : List (Int × List UInt8)) (w : World) (hv : PutSeg w v us) :
    Calls Tryz.prog 20 #[v] w fun e w' => e = .returned (.bool (muchIs (us.map (·.2.length)))) ∧ w' = w := by
  obtain ⟨F, hF⟩ : ∃ F : List Nat, F = us.map (·.2.length) := ⟨_, rfl⟩
  have hFl : F.length = us.length := by rw [hF, List.length_map]
  have HF := Lib.hid hF
  rw [← hF]
  clear hF
  have hfew := hv.few
  have hdl : ∀ u ∈ us, u.2.length ≤ 140737488355000 := by obtain ⟨_, _, _, _, h, _⟩ := hv; exact h
  have HDL := Lib.hid hdl
  have HV := Lib.hid hv
  obtain ⟨va, vc, rfl⟩ := hv.shape
  clear hv hdl
  go_enter Tryz.func20, Tryz.ntmps20
  go_wp2
  go_loopw [3, 4] (fun t q wr => ∃ (k : Nat) (n : Int), k ≤ us.length ∧ q = .int .i64 k ∧ t = .int .i64 n ∧ 0 ≤ n ∧ n ≤ 281474976710656 ∧ muchN (F.drop k) n = muchN F F.length ∧ wr = w) (fun _ q _ => us.length - (intOf q).toNat)
  case atStart => exact ⟨0, us.length, by omega, rfl, rfl, by omega, by omega, by rw [List.drop_zero, hFl], rfl⟩
  case round =>
    obtain ⟨k, n, hk, rfl, rfl, hn0, hn1, hmu, rfl⟩ := hrel
    have HMU := Lib.hid hmu
    clear hmu
    by_cases hkn : k < us.length
    · have b0 : decide ((k : Int) < (us.length : Int)) = true := decide_eq_true (by omega)
      by_cases hn : n ≤ 300000
      · have b1 : decide (n ≤ 300000) = true := decide_eq_true hn
        obtain ⟨b, o, rfl, hlt, hx⟩ := PutSeg.full HV.out (by omega)
        obtain ⟨-, x, c1, hs⟩ := hx k hkn
        have hl := HDL.out _ (List.getElem_mem hkn)
        obtain ⟨xa, xc, rfl⟩ := hs.shape
        have K1 : Hid (k + 1 ≤ us.length) := hkn
        have HST : Hid (muchN (F.drop k) n = muchN (F.drop (k + 1)) (n + ((us[k]'hkn).2.length : Nat))) := by
          have h := muchN_step F k (by rw [hFl]; exact hkn) hn
          have e : F[k]'(by rw [hFl]; exact hkn) = (us[k]'hkn).2.length := by
            have hf := HF.out
            subst hf
            exact List.getElem_map _
          rw [e] at h
          exact h
        clear hx hs
        generalize (us[k]'hkn).2.length = m at *
        go_wp2
        exact ⟨⟨k + 1, n + m, K1.out, by go_num, by go_num, by omega, by omega, HST.out.symm.trans HMU.out, trivial⟩, by simp [intOf]; omega⟩
      · have b1 : decide (n ≤ 300000) = false := decide_eq_false hn
        have hend : muchIs F = true := by
          unfold muchIs
          rw [← HMU.out, muchN_big _ hn]
          exact decide_eq_true (by omega)
        have HE := Lib.hid hend
        clear hend
        go_wp2
        go_ret
        exact ⟨by rw [HE.out]; rfl, rfl⟩
    · have b0 : decide ((k : Int) < (us.length : Int)) = false := decide_eq_false (by omega)
      have hend : muchIs F = decide (300000 < n) := by
        unfold muchIs
        rw [← HMU.out, List.drop_of_length_le (by omega)]
        rfl
      have HE := Lib.hid hend
      clear hend
      go_wp2
      go_ret
      exact ⟨by rw [HE.out]; rfl, rfl⟩

set_option maxRecDepth 100000 in
set_option maxHeartbeats 2000000 in
theorem much_rows (v : Value) (ls : List (List UInt8)) (w : World) (hv : Segs w v ls) (hfew : ls.length ≤ 140737488351232) (hdl : ∀ l ∈ ls, l.length ≤ 140737488351232) :
    Calls Tryz.prog 41 #[v] w fun e w' => e = .returned (.bool (muchIs (ls.map List.length))) ∧ w' = w := by
  obtain ⟨F, hF⟩ : ∃ F : List Nat, F = ls.map List.length := ⟨_, rfl⟩
  have hFl : F.length = ls.length := by rw [hF, List.length_map]
  have HF := Lib.hid hF
  rw [← hF]
  clear hF
  have HDL := Lib.hid hdl
  have HV := Lib.hid hv
  obtain ⟨va, vc, rfl⟩ := hv.shape
  clear hv hdl
  go_enter Tryz.func41, Tryz.ntmps41
  go_wp2
  go_loopw [3, 4] (fun t q wr => ∃ (k : Nat) (n : Int), k ≤ ls.length ∧ q = .int .i64 k ∧ t = .int .i64 n ∧ 0 ≤ n ∧ n ≤ 281474976710656 ∧ muchN (F.drop k) n = muchN F F.length ∧ wr = w) (fun _ q _ => ls.length - (intOf q).toNat)
  case atStart => exact ⟨0, ls.length, by omega, rfl, rfl, by omega, by omega, by rw [List.drop_zero, hFl], rfl⟩
  case round =>
    obtain ⟨k, n, hk, rfl, rfl, hn0, hn1, hmu, rfl⟩ := hrel
    have HMU := Lib.hid hmu
    clear hmu
    by_cases hkn : k < ls.length
    · have b0 : decide ((k : Int) < (ls.length : Int)) = true := decide_eq_true (by omega)
      by_cases hn : n ≤ 300000
      · have b1 : decide (n ≤ 300000) = true := decide_eq_true hn
        obtain ⟨b, o, c', hve, hlt, hx⟩ := Segs.full HV.out (by omega)
        simp only [Value.slice.injEq] at hve
        obtain ⟨rfl, -, rfl⟩ := hve
        obtain ⟨x, c1, hs⟩ := hx k hkn
        have hl := HDL.out _ (List.getElem_mem hkn)
        obtain ⟨xa, xc, rfl⟩ := hs.shape
        have K1 : Hid (k + 1 ≤ ls.length) := hkn
        have HST : Hid (muchN (F.drop k) n = muchN (F.drop (k + 1)) (n + ((ls[k]'hkn).length : Nat))) := by
          have h := muchN_step F k (by rw [hFl]; exact hkn) hn
          have e : F[k]'(by rw [hFl]; exact hkn) = (ls[k]'hkn).length := by
            have hf := HF.out
            subst hf
            exact List.getElem_map _
          rw [e] at h
          exact h
        clear hx hs
        generalize (ls[k]'hkn).length = m at *
        go_wp2
        exact ⟨⟨k + 1, n + m, K1.out, by go_num, by go_num, by omega, by omega, HST.out.symm.trans HMU.out, trivial⟩, by simp [intOf]; omega⟩
      · have b1 : decide (n ≤ 300000) = false := decide_eq_false hn
        have hend : muchIs F = true := by
          unfold muchIs
          rw [← HMU.out, muchN_big _ hn]
          exact decide_eq_true (by omega)
        have HE := Lib.hid hend
        clear hend
        go_wp2
        go_ret
        exact ⟨by rw [HE.out]; rfl, rfl⟩
    · have b0 : decide ((k : Int) < (ls.length : Int)) = false := decide_eq_false (by omega)
      have hend : muchIs F = decide (300000 < n) := by
        unfold muchIs
        rw [← HMU.out, List.drop_of_length_le (by omega)]
        rfl
      have HE := Lib.hid hend
      clear hend
      go_wp2
      go_ret
      exact ⟨by rw [HE.out]; rfl, rfl⟩

/-- What Split and Most say of a batch: 0: it may be. -/
def splitCode (m c s : Int) (us : List (Int × List UInt8)) : Int :=
  if geoIs m c s = false then 60 else if 256 < us.length then 1 else if us.any (fun u => !decide (0 ≤ u.1 ∧ u.1 < s * c * (m - 1))) = true then 3 else if us.any (fun u => !decide (u.2.length = 128)) = true then 4 else 0
theorem any_not {α : Type} {us : List α} {p : α → Prop} [DecidablePred p] : us.any (fun u => !decide (p u)) = true ↔ ∃ u ∈ us, ¬ p u := by
  rw [List.any_eq_true]
  constructor
  · rintro ⟨u, h1, h2⟩; exact ⟨u, h1, by simpa using h2⟩
  · rintro ⟨u, h1, h2⟩; exact ⟨u, h1, by simpa using h2⟩

theorem split_zero {m c s : Int} {us : List (Int × List UInt8)} (h : splitCode m c s us = 0) : ∃ M C S : Nat, m = M ∧ c = C ∧ s = S ∧ BatchOk M C S us := by
  unfold splitCode at h
  by_cases hg : geoIs m c s = false
  · rw [if_pos hg] at h; omega
  · rw [if_neg hg] at h
    have hg' : geoIs m c s = true := by simpa using hg
    obtain ⟨h1, h2, h3, h4, h5, h6⟩ := (geoIs_iff m c s).1 hg'
    by_cases hn : 256 < us.length
    · rw [if_pos hn] at h; omega
    · rw [if_neg hn] at h
      split at h
      · omega
      · rename_i ht
        split at h
        · omega
        · rename_i hl
          obtain ⟨M, rfl⟩ : ∃ M : Nat, m = M := ⟨m.toNat, by omega⟩
          obtain ⟨C, rfl⟩ : ∃ C : Nat, c = C := ⟨c.toNat, by omega⟩
          obtain ⟨S, rfl⟩ : ∃ S : Nat, s = S := ⟨s.toNat, by omega⟩
          refine ⟨M, C, S, rfl, rfl, rfl, hg', by omega, fun u hu => ?_, fun u hu => ?_⟩
          · exact Classical.byContradiction fun e => ht (any_not.2 ⟨u, hu, e⟩)
          · exact Classical.byContradiction fun e => hl (any_not.2 ⟨u, hu, e⟩)

/-- A batch that is refused. -/
theorem split_refused (m c s : Int) (v : Value) (us : List (Int × List UInt8)) (w : World) (hv : PutSeg w v us) (h : splitCode m c s us ≠ 0) :
    Calls Tryz.prog 22 #[geo m c s, v] w fun e w' => e = .returned (.tuple #[.slice none 0 0, .int .u16 (splitCode m c s us)]) ∧ Below w.heap.size w w' := by
  unfold splitCode at h ⊢
  by_cases hg : geoIs m c s = false
  · rw [if_pos hg]
    exact plan_Split_form m c s v us w hg
  · rw [if_neg hg] at h ⊢
    have hg' : geoIs m c s = true := by simpa using hg
    obtain ⟨h1, h2, h3, h4, h5, h6⟩ := (geoIs_iff m c s).1 hg'
    obtain ⟨M, rfl⟩ : ∃ M : Nat, m = M := ⟨m.toNat, by omega⟩
    obtain ⟨C, rfl⟩ : ∃ C : Nat, c = C := ⟨c.toNat, by omega⟩
    obtain ⟨S, rfl⟩ : ∃ S : Nat, s = S := ⟨s.toNat, by omega⟩
    by_cases hn : 256 < us.length
    · rw [if_pos hn]
      exact plan_Split_many M C S v us w hg' hv hn
    · rw [if_neg hn] at h ⊢
      refine (plan_Split M C S v us w hg' hv (by omega)).mono fun e w' ⟨hp, hb⟩ => ⟨?_, hb⟩
      rcases hp with ⟨⟨u, hu, e1⟩, e2⟩ | ⟨e0, ⟨u, hu, e1⟩, e2⟩ | ⟨e0, e1, -⟩
      · rw [if_pos (any_not.2 ⟨u, hu, e1⟩)]
        exact e2
      · rw [if_neg (fun h => by obtain ⟨x, hx, hy⟩ := any_not.1 h; exact hy (e0 x hx)), if_pos (any_not.2 ⟨u, hu, e1⟩)]
        exact e2
      · exfalso
        rw [if_neg (fun h => by obtain ⟨x, hx, hy⟩ := any_not.1 h; exact hy (e0 x hx)), if_neg (fun h => by obtain ⟨x, hx, hy⟩ := any_not.1 h; exact hy (e1 x hx))] at h
        exact h rfl

set_option maxRecDepth 100000 in
set_option maxHeartbeats 2000000 in
theorem most_refused (m c s : Int) (v : Value) (us : List (Int × List UInt8)) (w : World) (hv : PutSeg w v us) (h : splitCode m c s us ≠ 0) :
    Calls Tryz.prog 23 #[geo m c s, v] w fun e w' => e = .returned (.tuple #[.int .i64 0, .int .u16 (splitCode m c s us)]) ∧ Below w.heap.size w w' := by
  have hb0 : Below w.heap.size w (w.alloc (.cells #[.int .i64 m, .int .i64 c, .int .i64 s] 23)) := (Below.refl _ _).alloc (Nat.le_refl _) _
  have hsp : Hid (∀ W, Below w.heap.size w W → Calls Tryz.prog 22 #[geo m c s, v] W fun e w' => e = .returned (.tuple #[.slice none 0 0, .int .u16 (splitCode m c s us)]) ∧ Below W.heap.size W w') := fun W hW => split_refused m c s v us W (hv.below hW) h
  generalize splitCode m c s us = q at *
  clear hv h
  unfold geo at *
  go_enter Tryz.func23, Tryz.ntmps23
  go_wp2_with (go_at_call 22; (with_reducible refine (hsp.out _ hb0).mono ?_); rintro e w2 ⟨rfl, hb2⟩; have HB2 := Lib.hid (below_then hb0 hb2); clear hb2)
  go_loopw [21, 8] (fun q s wr => q = .int .i64 0 ∧ s = .int .i64 0 ∧ wr = w2) (fun _ _ _ => 0)
  case atStart => exact ⟨rfl, rfl, rfl⟩
  case round =>
    obtain ⟨rfl, rfl, rfl⟩ := hrel
    go_wp2
    go_ret2
    exact ⟨rfl, HB2.out⟩

end Go.Proofs.YtkcfmkhakghniaaGreat
