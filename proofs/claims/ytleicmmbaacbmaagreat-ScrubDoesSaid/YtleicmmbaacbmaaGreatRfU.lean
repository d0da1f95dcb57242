/- The scrub law's beginning: whether there is too much to do, the sizes of the disks, of any geometry; a script as its argument brings it. -/
import Derived.Test.YtleicmmbaacbmaaGreatMrg20
import Derived.Test.YtleicmmbaacbmaaGreatRfI
set_option linter.unusedVariables false
namespace Go.Proofs.YtleicmmbaacbmaaGreat
open Go.RowKit

set_option maxRecDepth 100000 in
set_option maxHeartbeats 4000000 in
theorem law_much_none (m c s : Int) (v : Value) (l : List (Int × Int × List UInt8)) (w : World) (hv : Acts w v l) (hg0 : geoIs m c s = false) :
    Calls Tryz.prog 4 #[geo m c s, v] w fun e w' => ∃ r : Bool, e = .returned (.bool r) ∧ (r = false → l.length ≤ 20000) ∧ Below w.heap.size w w' := by
  have hk := Lib.hid (fun W => ref_check m c s W)
  have hr := Lib.hid (fun W => ref_rows m c s W)
  have hb0 : Below w.heap.size w (w.alloc (.cells #[.int .i64 m, .int .i64 c, .int .i64 s] 23)) := (Below.refl _ _).alloc (Nat.le_refl _) _
  have ha0 : At (w.alloc (.cells #[.int .i64 m, .int .i64 c, .int .i64 s] 23)) w.heap.size #[.int .i64 m, .int .i64 c, .int .i64 s] 23 := At.new _ _ _
  have hv0 := hv.below hb0
  obtain ⟨va, vc, rfl⟩ := hv.shape
  have hlen : l.length ≤ 9223372036854775807 := by obtain ⟨_, _, _, h, _⟩ := hv; exact h
  have HV := Lib.hid hv0
  have HA0 := Lib.hid ha0
  have HHH : Hid (∀ X, At X w.heap.size #[.int .i64 m, .int .i64 c, .int .i64 s] 23 → X.cell? ⟨w.heap.size, 0, none⟩ = some (.int .i64 m) ∧ X.cell? ⟨w.heap.size, 1, none⟩ = some (.int .i64 c) ∧ X.cell? ⟨w.heap.size, 2, none⟩ = some (.int .i64 s)) := fun X h => ⟨h.cell 0, h.cell 1, h.cell 2⟩
  clear hv hv0 ha0
  unfold geoRows geoCode geo at *
  go_enter Tryz.func4, Tryz.ntmps4
  go_wp2
  go_loopw [5, 6] (fun n i wr => ∃ (k N : Nat), k ≤ l.length ∧ i = .int .i64 k ∧ n = .int .i64 N ∧ l.length ≤ N ∧ N ≤ 9223372036854775807 ∧ (l = [] → N = 0) ∧ Below w.heap.size w wr ∧ wr = w.alloc (.cells #[.int .i64 m, .int .i64 c, .int .i64 s] 23)) (fun _ i _ => l.length - (intOf i).toNat)
  case atStart => exact ⟨0, l.length, by omega, rfl, rfl, Nat.le_refl _, hlen, fun h => by rw [h]; rfl, hb0, rfl⟩
  case round =>
    obtain ⟨k, N, hk', rfl, rfl, hN, hN2, hnil, hbel, rfl⟩ := hrel
    have HN := Lib.hid hnil
    have HHN := Lib.hid hN
    clear hnil
    by_cases hgo : k < l.length ∧ N ≤ 20000
    · obtain ⟨hkl, hN3⟩ := hgo
      have K1 : Hid (k + 1 ≤ l.length) := hkl
      obtain ⟨b, off, rfl, hlt, hx⟩ := HV.out.full (by omega)
      obtain ⟨u, x1, x2, x3, x4, x5⟩ := hx k hkl
      obtain ⟨ua, uc, rfl⟩ := x4.shape
      generalize (l[k]).2.2.length = B at *
      clear x1 x2 x4 hx
      have hdv : ((B / 64 : Nat) : Int) = (B : Int) / 64 := by omega
      as_aux_lemma =>
        go_wp2
        refine ⟨⟨k + 1, N + B / 64, K1.out, by go_num, ?_, by omega, by omega, fun h => ?_, hbel, trivial⟩, by simp [intOf]; omega⟩
        · rw [Int.natCast_add, hdv]
        · subst h; simp at hkl
    · by_cases hbig : 20000 < N
      · have hnn : ¬ l = [] := fun h => by have := HN.out h; omega
        have hbd : decide ((20000 : Int) < (N : Int)) = true := decide_eq_true (by omega)
        have hbd2 : decide ((N : Int) ≤ 20000) = false := decide_eq_false (by omega)
        clear hgo
        by_cases hkl : k < l.length
        · as_aux_lemma =>
            go_wp2
            go_quiet (fail)
            go_wp2
            go_ret
            exact ⟨true, rfl, fun e => (by cases e), below_drewN hbel _⟩
        · have hkl' : (l.length : Int) ≤ (k : Int) := by omega
          as_aux_lemma =>
            go_wp2
            go_quiet (fail)
            go_wp2
            go_ret
            exact ⟨true, rfl, fun e => (by cases e), below_drewN hbel _⟩
      · obtain rfl : k = l.length := by omega
        clear hgo
        have hN3 : l.length ≤ 20000 := by have := HHN.out; omega
        have HHL := Lib.hid hN3
        have HN3 := Lib.hid hN3
        have hbd : decide ((20000 : Int) < (N : Int)) = false := decide_eq_false (by omega)
        have hg := hg0
        rw [hg] at hk
        simp only [if_false, Bool.false_eq_true] at *
        obtain ⟨z, hz, hk⟩ : ∃ z : Int, (z == 0) = false ∧ Hid (∀ W, Calls Tryz.prog 17 #[.agg #[.int .i64 m, .int .i64 c, .int .i64 s]] W fun e w' => e = .returned (.int .i64 z) ∧ Below W.heap.size W w') := ⟨60, rfl, hk⟩
        as_aux_lemma =>
          go_wp2
          refine wp_region_held_drew (S := fun w' => w'.cell? ⟨w.heap.size, 0, none⟩ = some (.int .i64 m) ∧ w'.cell? ⟨w.heap.size, 1, none⟩ = some (.int .i64 c) ∧ w'.cell? ⟨w.heap.size, 2, none⟩ = some (.int .i64 s)) (by kernel_rfl) (HHH.out _ HA0.out.drew) (fun hHeld => ?_)
          refine wpAnyH_take (i := 0) (v := .int .i64 (N : Int)) rfl (by kernel_rfl) (by kernel_rfl) (by kernel_rfl) (fun _ _ _ h => h) (Or.inl ⟨by rfl, fun w hSw => by go_simp⟩) hHeld ?_
          (try simp only [Act.put, List.setIfInBounds_toArray, List.set_cons_zero, List.set_cons_succ, List.getElem_toArray, List.getElem_cons_succ, List.getElem_cons_zero])
          refine wpAnyH_take (i := 1) (v := .bool false) rfl (by kernel_rfl) (by kernel_rfl) (by kernel_rfl) (fun _ _ _ h => h) (Or.inl ⟨by rfl, fun w hSw => by go_simp⟩) hHeld ?_
          (try simp only [Act.put, List.setIfInBounds_toArray, List.set_cons_zero, List.set_cons_succ, List.getElem_toArray, List.getElem_cons_succ, List.getElem_cons_zero])
          refine wpAnyH_take (i := 2) (v := .bool false) rfl (by kernel_rfl) (by kernel_rfl) (by kernel_rfl) (fun _ _ _ h => h) (Or.inl ⟨by rfl, fun w hSw => by go_simp⟩) hHeld ?_
          (try simp only [Act.put, List.setIfInBounds_toArray, List.set_cons_zero, List.set_cons_succ, List.getElem_toArray, List.getElem_cons_succ, List.getElem_cons_zero])
          refine wpAnyH_take (i := 3) (v := .agg #[.int .i64 m, .int .i64 c, .int .i64 s]) rfl (by kernel_rfl) (by kernel_rfl) (by kernel_rfl) (fun _ _ _ h => h) (Or.inl ⟨by rfl, fun w hSw => by go_simp⟩) hHeld ?_
          (try simp only [Act.put, List.setIfInBounds_toArray, List.set_cons_zero, List.set_cons_succ, List.getElem_toArray, List.getElem_cons_succ, List.getElem_cons_zero])
          refine wpAnyH_ready (rs := [4]) (by kernel_rfl) (by simp) ?_
          refine AllReadyH.cons (o := { dst := some 32, op := Op.call { callee := Callee.value (Operand.func 17), args := #[Operand.tmp 31], argTypes := #[23] }, type := 3, pos := "law.go:28", after := #[{ on := 3, ground := Ground.data }, { on := 2, ground := Ground.chain }, { on := 2, ground := Ground.guard }], guard := some (2, false) }) rfl (fun K hK => ?_) AllReadyH.nil
          go_simp
          go_at_call 17
          (with_reducible refine (hk.out _).mono ?_)
          rintro e w1 ⟨rfl, hb1⟩
          have HB := Lib.hid (HA0.out.drew.below hb1 HA0.out.lt)
          have HBW := Lib.hid hb1
          clear hb1
          refine hK.out _ _ (HHH.out _ HB.out) (fun hHeld => ?_)
          clear hK K
          (try simp only [Act.put, List.setIfInBounds_toArray, List.set_cons_zero, List.set_cons_succ, List.getElem_toArray, List.getElem_cons_succ, List.getElem_cons_zero])
          refine wpAnyH_take (i := 5) (v := .bool false) rfl (by kernel_rfl) (by kernel_rfl) (by kernel_rfl) (fun _ _ _ h => h) (Or.inl ⟨by rfl, fun w hSw => by go_simp⟩) hHeld ?_
          (try simp only [Act.put, List.setIfInBounds_toArray, List.set_cons_zero, List.set_cons_succ, List.getElem_toArray, List.getElem_cons_succ, List.getElem_cons_zero])
          refine wpAnyH_take (i := 6) (v := .bool false) rfl (by kernel_rfl) (by kernel_rfl) (by kernel_rfl) (fun _ _ _ h => h) (Or.inl ⟨by rfl, fun w hSw => by go_simp⟩) hHeld ?_
          (try simp only [Act.put, List.setIfInBounds_toArray, List.set_cons_zero, List.set_cons_succ, List.getElem_toArray, List.getElem_cons_succ, List.getElem_cons_zero])
          refine wpAnyH_take (i := 7) (v := undef) rfl (by kernel_rfl) (by kernel_rfl) (by kernel_rfl) (fun _ _ _ h => h) (Or.inr ⟨by rfl, rfl⟩) hHeld ?_
          (try simp only [Act.put, List.setIfInBounds_toArray, List.set_cons_zero, List.set_cons_succ, List.getElem_toArray, List.getElem_cons_succ, List.getElem_cons_zero])
          refine wpAnyH_take (i := 8) (v := undef) rfl (by kernel_rfl) (by kernel_rfl) (by kernel_rfl) (fun _ _ _ h => h) (Or.inr ⟨by rfl, rfl⟩) hHeld ?_
          (try simp only [Act.put, List.setIfInBounds_toArray, List.set_cons_zero, List.set_cons_succ, List.getElem_toArray, List.getElem_cons_succ, List.getElem_cons_zero])
          refine wpAnyH_take (i := 9) (v := undef) rfl (by kernel_rfl) (by kernel_rfl) (by kernel_rfl) (fun _ _ _ h => h) (Or.inr ⟨by rfl, rfl⟩) hHeld ?_
          (try simp only [Act.put, List.setIfInBounds_toArray, List.set_cons_zero, List.set_cons_succ, List.getElem_toArray, List.getElem_cons_succ, List.getElem_cons_zero])
          refine wpAnyH_take (i := 10) (v := undef) rfl (by kernel_rfl) (by kernel_rfl) (by kernel_rfl) (fun _ _ _ h => h) (Or.inr ⟨by rfl, rfl⟩) hHeld ?_
          (try simp only [Act.put, List.setIfInBounds_toArray, List.set_cons_zero, List.set_cons_succ, List.getElem_toArray, List.getElem_cons_succ, List.getElem_cons_zero])
          refine wpAnyH_take (i := 11) (v := undef) rfl (by kernel_rfl) (by kernel_rfl) (by kernel_rfl) (fun _ _ _ h => h) (Or.inr ⟨by rfl, rfl⟩) hHeld ?_
          (try simp only [Act.put, List.setIfInBounds_toArray, List.set_cons_zero, List.set_cons_succ, List.getElem_toArray, List.getElem_cons_succ, List.getElem_cons_zero])
          refine wpAnyH_take (i := 12) (v := undef) rfl (by kernel_rfl) (by kernel_rfl) (by kernel_rfl) (fun _ _ _ h => h) (Or.inr ⟨by rfl, rfl⟩) hHeld ?_
          (try simp only [Act.put, List.setIfInBounds_toArray, List.set_cons_zero, List.set_cons_succ, List.getElem_toArray, List.getElem_cons_succ, List.getElem_cons_zero])
          refine wpAnyH_take (i := 13) (v := undef) rfl (by kernel_rfl) (by kernel_rfl) (by kernel_rfl) (fun _ _ _ h => h) (Or.inr ⟨by rfl, rfl⟩) hHeld ?_
          (try simp only [Act.put, List.setIfInBounds_toArray, List.set_cons_zero, List.set_cons_succ, List.getElem_toArray, List.getElem_cons_succ, List.getElem_cons_zero])
          refine wpAnyH_take (i := 14) (v := undef) rfl (by kernel_rfl) (by kernel_rfl) (by kernel_rfl) (fun _ _ _ h => h) (Or.inr ⟨by rfl, rfl⟩) hHeld ?_
          (try simp only [Act.put, List.setIfInBounds_toArray, List.set_cons_zero, List.set_cons_succ, List.getElem_toArray, List.getElem_cons_succ, List.getElem_cons_zero])
          refine wpAnyH_take (i := 15) (v := undef) rfl (by kernel_rfl) (by kernel_rfl) (by kernel_rfl) (fun _ _ _ h => h) (Or.inr ⟨by rfl, rfl⟩) hHeld ?_
          (try simp only [Act.put, List.setIfInBounds_toArray, List.set_cons_zero, List.set_cons_succ, List.getElem_toArray, List.getElem_cons_succ, List.getElem_cons_zero])
          refine wpAnyH_take (i := 16) (v := undef) rfl (by kernel_rfl) (by kernel_rfl) (by kernel_rfl) (fun _ _ _ h => h) (Or.inr ⟨by rfl, rfl⟩) hHeld ?_
          (try simp only [Act.put, List.setIfInBounds_toArray, List.set_cons_zero, List.set_cons_succ, List.getElem_toArray, List.getElem_cons_succ, List.getElem_cons_zero])
          refine wpAnyH_take (i := 17) (v := .bool false) rfl (by kernel_rfl) (by kernel_rfl) (by kernel_rfl) (fun _ _ _ h => h) (Or.inl ⟨by rfl, fun w hSw => by go_simp⟩) hHeld ?_
          (try simp only [Act.put, List.setIfInBounds_toArray, List.set_cons_zero, List.set_cons_succ, List.getElem_toArray, List.getElem_cons_succ, List.getElem_cons_zero])
          refine wpAnyH_take (i := 18) (v := .bool false) rfl (by kernel_rfl) (by kernel_rfl) (by kernel_rfl) (fun _ _ _ h => h) (Or.inl ⟨by rfl, fun w hSw => by go_simp⟩) hHeld ?_
          (try simp only [Act.put, List.setIfInBounds_toArray, List.set_cons_zero, List.set_cons_succ, List.getElem_toArray, List.getElem_cons_succ, List.getElem_cons_zero])
          refine wpAnyH_take (i := 19) (v := .bool false) rfl (by kernel_rfl) (by kernel_rfl) (by kernel_rfl) (fun _ _ _ h => h) (Or.inl ⟨by rfl, fun w hSw => by go_simp⟩) hHeld ?_
          (try simp only [Act.put, List.setIfInBounds_toArray, List.set_cons_zero, List.set_cons_succ, List.getElem_toArray, List.getElem_cons_succ, List.getElem_cons_zero])
          refine wpAnyH_done (by kernel_rfl) ?_ _
          go_wp2
          go_ret
          exact ⟨false, rfl, fun _ => HHL.out, below_then hbel.drew HBW.out⟩


theorem law_much_any (m c s : Int) (v : Value) (l : List (Int × Int × List UInt8)) (w : World) (hv : Acts w v l) :
    Calls Tryz.prog 4 #[geo m c s, v] w fun e w' => ∃ r : Bool, e = .returned (.bool r) ∧ (r = false → l.length ≤ 20000) ∧ Below w.heap.size w w' := by
  cases hg : geoIs m c s
  · exact law_much_none m c s v l w hv hg
  · exact (law_much m c s v l w hv hg).mono fun e w' ⟨r, h1, h2, h3, h4⟩ => ⟨r, h1, h2, h4⟩

def SizesPost (w : World) (e : Ending) (w' : World) : Prop := ∃ v M R, M ≤ 20 ∧ R ≤ 4096 ∧ e = .returned v ∧ w'.ownsRow (w.heap.size + 1) 3 1 v (sizeL M R).length (kcells (sizeL M R)) ∧ Below w.heap.size w w'

set_option maxRecDepth 100000 in
set_option maxHeartbeats 4000000 in
theorem law_sizes_any (m c s : Int) (w : World) :
    Calls Tryz.prog 6 #[geo m c s] w (SizesPost w) := by
  obtain ⟨R, hR1, hRR⟩ : ∃ R : Nat, R ≤ 4096 ∧ geoRows m c s = R := by
    unfold geoRows
    by_cases hg : geoIs m c s = true
    · rw [if_pos hg]
      have hbd := geo_bounds hg
      exact ⟨(s * c).toNat, by omega, by omega⟩
    · rw [if_neg hg]; exact ⟨0, by omega, rfl⟩
  have hrows : Hid (∀ W, Calls Tryz.prog 18 #[geo m c s] W fun e w' => e = .returned (.int .i64 ((R : Nat) : Int)) ∧ Below W.heap.size W w') := fun W => (ref_rows m c s W).mono fun e w' ⟨x1, x2⟩ => ⟨by rw [x1, hRR], x2⟩
  have e1 : (w.alloc (.cells #[.int .i64 m, .int .i64 c, .int .i64 s] 23)).heap.size = w.heap.size + 1 := size_alloc _ _
  clear hRR
  unfold geo at *
  go_enter Tryz.func6, Tryz.ntmps6
  go_wp2
  go_loopw [3, 4] (fun v q wr => ∃ k : Nat, k ≤ 20 ∧ q = .int .i64 k ∧ wr.ownsRow (w.heap.size + 1) 3 1 v k (kcells (List.replicate k (1 + R))) ∧ Below w.heap.size w wr ∧ At wr w.heap.size #[.int .i64 m, .int .i64 c, .int .i64 s] 23) (fun _ q _ => 20 - (intOf q).toNat)
  case atStart => exact ⟨0, by omega, rfl, World.ownsRow_nil _ _ _ _, (Below.refl _ _).alloc (Nat.le_refl _) _, At.new _ _ _⟩
  case round =>
    obtain ⟨k, hk, rfl, hown, hbel, hA⟩ := hrel
    have c0 := hA.cell 0
    have c1 := hA.cell 1
    have c2 := hA.cell 2
    have HA := Lib.hid hA
    have HO := Lib.hid hown
    have HK := Lib.hid hk
    have hzl := hA.lt
    clear hA hown
    by_cases hkM : (k : Int) < m
    · by_cases hk20 : k < 20
      · have K1 : Hid (k + 1 ≤ 20) := hk20
        go_wp2_with (first
          | (go_at_call 18; refine (hrows.out _).mono ?_; rintro e w2 ⟨rfl, hb2⟩; have hown2 := ownsRow_below HO.out hb2 (Nat.le_refl _))
          | (refine wpList_append_one rfl _ _ 27 3 8 rfl slice_ints (w.heap.size + 1) u3 k _ rfl hown2 _ rfl rfl (by unfold maxLen; omega) (by omega) (by have := hb2.size; omega) ?_; intro v' w5 hown5 hb5 hgr5))
        refine ⟨⟨k + 1, K1.out, by go_num, ?_, (below_then hbel hb2).trans (hb5.mono (Nat.le_succ _)), (HA.out.below hb2 hzl).below hb5 (Nat.lt_succ_self _)⟩, by simp [intOf]; omega⟩
        rw [List.replicate_succ', kcells_snoc, show (((1 + R : Nat)) : Int) = 1 + (R : Int) by omega]
        exact hown5
      · obtain rfl : k = 20 := by omega
        go_wp2_with (first
          | (refine wpList_append_one rfl _ _ 27 3 8 rfl slice_ints (w.heap.size + 1) u3 20 _ rfl HO.out _ rfl rfl (by unfold maxLen; omega) (by omega) (by omega) ?_; intro v' w5 hown5 hb5 hgr5))
        go_ret
        refine ⟨v', 20, R, Nat.le_refl _, hR1, rfl, ?_, hbel.trans (hb5.mono (Nat.le_succ _))⟩
        rw [sizeL_length]
        unfold sizeL
        rw [kcells_snoc]
        exact hown5
    · have hkM' : m ≤ (k : Int) := by omega
      go_wp2_with (first
        | (refine wpList_append_one rfl _ _ 27 3 8 rfl slice_ints (w.heap.size + 1) u3 k _ rfl HO.out _ rfl rfl (by unfold maxLen; omega) (by omega) (by omega) ?_; intro v' w5 hown5 hb5 hgr5))
      go_ret
      refine ⟨v', k, R, HK.out, hR1, rfl, ?_, hbel.trans (hb5.mono (Nat.le_succ _))⟩
      rw [sizeL_length]
      unfold sizeL
      rw [kcells_snoc]
      exact hown5

set_option maxRecDepth 100000 in
set_option maxHeartbeats 1000000 in
theorem bay_new_many (va : Option Addr) (n vc : Nat) (w : World) (h : 17 < n) (hn : n ≤ 1000) :
    Calls Tryz.prog 7 #[.slice va n vc] w fun e w' => e = .returned (.tuple #[.pointer none, .int .u16 1]) ∧ w' = w := by
  go_enter Tryz.func7, Tryz.ntmps7
  go_wp2
  go_ret2
  exact ⟨rfl, rfl⟩
set_option maxRecDepth 100000 in
set_option maxHeartbeats 1000000 in
theorem rbay_new_many (va : Option Addr) (n vc : Nat) (w : World) (h : 17 < n) (hn : n ≤ 1000) :
    Calls Tryz.prog 8 #[.slice va n vc] w fun e w' => e = .returned (.tuple #[.pointer none, .int .u16 1]) ∧ w' = w := by
  go_enter Tryz.func8, Tryz.ntmps8
  go_wp2
  go_ret2
  exact ⟨rfl, rfl⟩

/-- A call of the script: Kind, M, N, B. -/
structure OpR where
  k : Int
  m : Int
  n : Int
  b : List UInt8
instance : Inhabited OpR := ⟨⟨0, 0, 0, []⟩⟩
def OpR.at (w : World) (x : OpR) (b o : Nat) : Prop :=
  ∃ u, w.cell? ⟨b, o, none⟩ = some (.int .i64 x.k) ∧ w.cell? ⟨b, o + 1, none⟩ = some (.int .i64 x.m) ∧ w.cell? ⟨b, o + 2, none⟩ = some (.int .i64 x.n) ∧ w.cell? ⟨b, o + 3, none⟩ = some u ∧ Seg w u x.b ∧ x.b.length ≤ 9223372036854775807 ∧ x.n ≤ 9223372036854775807
def Ops (w : World) (v : Value) (l : List OpR) : Prop :=
  ∃ a cap, v = .slice a l.length cap ∧ l.length ≤ 9223372036854775807 ∧ (l = [] ∨ ∃ b off, a = some ⟨b, off, none⟩ ∧ b < w.heap.size ∧ ∀ j (h : j < l.length), l[j].at w b (off + j * 4))

theorem OpR.at.below {w w' : World} {x : OpR} {b o : Nat} (h : x.at w b o) (hlt : b < w.heap.size) (hb : Below w.heap.size w w') : x.at w' b o := by
  obtain ⟨u, h0, h1, h2, h3, h4, h5, h6⟩ := h
  exact ⟨u, (hb.cell (p := ⟨b, o, none⟩) hlt).trans h0, (hb.cell (p := ⟨b, o + 1, none⟩) hlt).trans h1, (hb.cell (p := ⟨b, o + 2, none⟩) hlt).trans h2, (hb.cell (p := ⟨b, o + 3, none⟩) hlt).trans h3, h4.below hb, h5, h6⟩
theorem Ops.below {w w' : World} {v : Value} {l : List OpR} (h : Ops w v l) (hb : Below w.heap.size w w') : Ops w' v l := by
  obtain ⟨a, cap, hv, hc, h⟩ := h
  refine ⟨a, cap, hv, hc, ?_⟩
  rcases h with h | ⟨b, off, ha, hlt, hx⟩
  · exact .inl h
  · exact .inr ⟨b, off, ha, Nat.lt_of_lt_of_le hlt hb.size, fun j hj => (hx j hj).below hlt hb⟩
theorem Ops.shape {w : World} {v : Value} {l : List OpR} (h : Ops w v l) : ∃ a cap, v = .slice a l.length cap := by
  obtain ⟨a, cap, hv, _⟩ := h
  exact ⟨a, cap, hv⟩
theorem Ops.full {w : World} {a : Option Addr} {n c : Nat} {l : List OpR} (h : Ops w (.slice a n c) l) (hl : 0 < l.length) : ∃ b off, a = some ⟨b, off, none⟩ ∧ b < w.heap.size ∧ ∀ j (h : j < l.length), l[j].at w b (off + j * 4) := by
  obtain ⟨a', cap, hv, _, h⟩ := h
  simp only [Value.slice.injEq] at hv
  obtain ⟨rfl, -, -⟩ := hv
  rcases h with rfl | h
  · simp at hl
  · exact h
theorem Ops.acts {w : World} {v : Value} {l : List OpR} (h : Ops w v l) : Acts w v (l.map fun x => (x.m, x.n, x.b)) := by
  obtain ⟨a, cap, hv, hc, h⟩ := h
  refine ⟨a, cap, by rw [hv, List.length_map], by rw [List.length_map]; exact hc, ?_⟩
  rcases h with h | ⟨b, off, ha, hlt, hx⟩
  · exact .inl (by rw [h]; rfl)
  · refine .inr ⟨b, off, ha, hlt, fun j hj => ?_⟩
    rw [List.length_map] at hj
    obtain ⟨u, h0, h1, h2, h3, h4, h5, h6⟩ := hx j hj
    rw [List.getElem_map]
    exact ⟨u, h1, h2, h3, h4, h5⟩

section
open Go.ChangeShapes Go.WideShapes Go.Deep
theorem ops_of_trod' {H : Type} {enc : TypeId × Value → H} {P : Program} {W : World} {T E EB base : Nat} {v : Value} {d : DataW H} {ps : List MemPlace} {f0 f1 f2 f3 : Field}
    (hT : P.underlying T = some (.slice E)) (hE : P.underlying E = some (.struct #[f0, f1, f2, f3])) (ce : P.cellsOf E = 4) (o0 : f0.offset = 0) (o1 : f1.offset = 1) (o2 : f2.offset = 2) (o3 : f3.offset = 3) (c0 : P.cellsOf f0.type = 1) (c1 : P.cellsOf f1.type = 1) (c2 : P.cellsOf f2.type = 1) (c3 : P.cellsOf f3.type = 1)
    (t0 : P.underlying f0.type = some (.int .i64)) (t1 : P.underlying f1.type = some (.int .i64)) (t2 : P.underlying f2.type = some (.int .i64)) (t3 : P.underlying f3.type = some (.slice EB)) (tb : P.underlying EB = some (.int .u8)) (cb : P.cellsOf EB = 1)
    (hv : Value.okWide P W .any base T v) (h : DataW.Trod enc P W 0 (fun _ => true) true T v d ps) : ∃ l, Ops W v l := by
  obtain ⟨a, len, cap, rfl⟩ := Go.WideShapes.okWide_slice hT hv
  obtain ⟨fuel, hf⟩ := h
  rcases Go.Deep.open_slice hT hf with ⟨hcs, _⟩ | ⟨x, l, c, m, n, D, Pl, hcs, _, hl, hm, hmm, hd, hx⟩
  · simp [Value.cells] at hcs
    obtain ⟨rfl, rfl, rfl⟩ := hcs
    exact ⟨[], none, 0, rfl, by simp, .inl rfl⟩
  · simp [Value.cells] at hcs
    obtain ⟨rfl, rfl, rfl⟩ := hcs
    simp only [if_true] at hmm
    subst hmm
    rw [ce] at hx
    have each : ∀ i, i < len → ∃ z : OpR, ∃ u, W.cell? (x.add (i * 4)) = some (.int .i64 z.k) ∧ W.cell? (x.add (i * 4 + 1)) = some (.int .i64 z.m) ∧ W.cell? (x.add (i * 4 + 2)) = some (.int .i64 z.n) ∧ W.cell? (x.add (i * 4 + 3)) = some u ∧ Seg W u z.b ∧ z.b.length ≤ 9223372036854775807 ∧ z.n ≤ 9223372036854775807 := by
      intro i hi
      obtain ⟨cs', h1, h2⟩ := hx i (by omega)
      obtain ⟨_, hlen, hcell⟩ := World.cells?_some h1
      obtain ⟨xs, k, hk, hxy, _, hxl, hfld⟩ := DataW.trod_struct hE h2
      match xs, hxl, cs', hlen with
      | [y0, y1, y2, y3], _, [v0, v1, v2, v3], _ =>
        have g0 := hfld 0 f0 rfl
        have g1 := hfld 1 f1 rfl
        have g2 := hfld 2 f2 rfl
        have g3 := hfld 3 f3 rfl
        simp [o0, o1, o2, o3, c0, c1, c2, c3] at g0 g1 g2 g3
        have e0 := hcell 0 (by omega)
        have e1 := hcell 1 (by omega)
        have e2 := hcell 2 (by omega)
        have e3 := hcell 3 (by omega)
        rw [add_add] at e0 e1 e2 e3
        obtain ⟨z0, q0, _⟩ := DataW.trod_int t0 g0
        obtain ⟨z1, q1, _⟩ := DataW.trod_int t1 g1
        obtain ⟨z2, q2, -, w2⟩ := DataW.trod_int t2 g2
        obtain ⟨lb, q3, q4⟩ := seg_of_cell t3 tb cb g3
        simp at q0 q1 q2
        subst q0
        subst q1
        subst q2
        have w3 : z2 ≤ 9223372036854775807 := by
          have := w2
          simp [Lit.wf] at this
          omega
        exact ⟨⟨z0, z1, z2, lb⟩, v3, by simpa using e0, by simpa using e1, by simpa using e2, by simpa using e3, q3, q4, w3⟩
    obtain ⟨F, hF⟩ := choose_lt (α := OpR) each
    have hlen : ((List.range len).map F).length = len := by simp
    refine ⟨(List.range len).map F, some x, m, by rw [hlen], by rw [hlen]; unfold maxLen at hm; omega, ?_⟩
    rcases Nat.eq_zero_or_pos len with h0 | h0
    · left; rw [h0]; rfl
    · right
      obtain ⟨b, off, spot⟩ := x
      have hspot : spot = none := by
        obtain ⟨u, h0', _⟩ := hF 0 (by omega)
        simpa [Addr.add] using World.cell?_spot h0'
      subst hspot
      refine ⟨b, off, rfl, ?_, fun j hj => ?_⟩
      · obtain ⟨u, h1, _⟩ := hF 0 (by omega)
        rw [Go.WideShapes.add_plain] at h1
        exact block_lt_of_cell h1
      · rw [hlen] at hj
        obtain ⟨u, h0, h1, h2, h3, h4, h5, h6⟩ := hF j hj
        rw [Go.WideShapes.add_plain] at h0 h1 h2 h3
        rw [List.getElem_map, List.getElem_range]
        exact ⟨u, h0, by rw [show off + j * 4 + 1 = off + (j * 4 + 1) by omega]; exact h1, by rw [show off + j * 4 + 2 = off + (j * 4 + 2) by omega]; exact h2, by rw [show off + j * 4 + 3 = off + (j * 4 + 3) by omega]; exact h3, h4, h5, h6⟩

set_option maxRecDepth 100000 in
theorem ops_of_trod {H : Type} {enc : TypeId × Value → H} {W : World} {base : Nat} {v : Value} {d : DataW H} {ps : List MemPlace}
    (hv : Value.okWide Tryz.prog W .any base 24 v) (h : DataW.Trod enc Tryz.prog W 0 (fun _ => true) true 24 v d ps) : ∃ l, Ops W v l :=
  ops_of_trod' Tryz.underlying24 Tryz.underlying55 (by kernel_rfl) rfl rfl rfl rfl (by kernel_rfl) (by kernel_rfl) (by kernel_rfl) (by kernel_rfl) Tryz.underlying3 Tryz.underlying3 Tryz.underlying3 Tryz.underlying53 Tryz.underlying5 (by kernel_rfl) hv h
end

end Go.Proofs.YtleicmmbaacbmaaGreat
