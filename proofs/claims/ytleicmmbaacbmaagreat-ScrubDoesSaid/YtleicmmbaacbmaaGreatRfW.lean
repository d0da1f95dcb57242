/- ScrubDoes: its walk. -/
import Derived.Test.YtleicmmbaacbmaaGreatMrg21
import Derived.Deep.CutRange
import Derived.Deep.CutBlock
import Derived.Deep.RegionHeld3
set_option linter.unusedVariables false
namespace Go.Proofs.YtleicmmbaacbmaaGreat
open Go.RowKit

theorem below_then' {a b c : World} (h : Below a.heap.size a b) (h' : Below b.heap.size b c) : Below a.heap.size a c := below_then h h'

set_option maxRecDepth 100000 in
set_option maxHeartbeats 8000000 in
theorem scrubDoes_run (mg cg sg m2 c2 s2 : Int) (v : Value) (l : List OpR) (w : World) (hv : Ops w v l) :
    Calls Tryz.prog 3 #[geo mg cg sg, geo m2 c2 s2, v] w fun e w' => e = .returned (.bool true) ∧ Below w.heap.size w w' := by
  have e1 : (w.alloc (ObjG mg cg sg)).heap.size = w.heap.size + 1 := size_alloc _ _
  have e2 : ((w.alloc (ObjG mg cg sg)).alloc (ObjG m2 c2 s2)).heap.size = w.heap.size + 2 := by rw [size_alloc, e1]
  have HB0 : Hid (Below w.heap.size w ((w.alloc (ObjG mg cg sg)).alloc (ObjG m2 c2 s2))) := ((Below.refl _ _).alloc (Nat.le_refl _) _).alloc (by omega) _
  have HG1 : Hid (At ((w.alloc (ObjG mg cg sg)).alloc (ObjG m2 c2 s2)) w.heap.size #[.int .i64 mg, .int .i64 cg, .int .i64 sg] 23) := (At.new _ _ _).alloc _
  have HG2 : Hid (At ((w.alloc (ObjG mg cg sg)).alloc (ObjG m2 c2 s2)) (w.heap.size + 1) #[.int .i64 m2, .int .i64 c2, .int .i64 s2] 23) := At.new2 _ _ _ _
  have HOP : Hid (Ops ((w.alloc (ObjG mg cg sg)).alloc (ObjG m2 c2 s2)) v l) := hv.below HB0.out
  obtain ⟨va, vc, rfl⟩ := hv.shape
  have hll : l.length ≤ 9223372036854775807 := by obtain ⟨_, _, _, h, _⟩ := hv; exact h
  have HM1 : Hid (∀ W, Ops W (.slice va l.length vc) l → Calls Tryz.prog 4 #[geo mg cg sg, .slice va l.length vc] W fun e w' => ∃ r : Bool, e = .returned (.bool r) ∧ (r = false → l.length ≤ 20000) ∧ Below W.heap.size W w') := fun W hW => by
    have := law_much_any mg cg sg _ _ W hW.acts
    rw [List.length_map] at this
    exact this
  have HM2 : Hid (∀ W, Calls Tryz.prog 4 #[geo m2 c2 s2, .slice none 0 0] W fun e w' => ∃ r : Bool, e = .returned (.bool r) ∧ Below W.heap.size W w') := fun W => (law_much_any m2 c2 s2 _ _ W (Acts.nil W)).mono fun e w' ⟨r, h1, h2, h3⟩ => ⟨r, h1, h3⟩
  have HKN := Lib.hid (fun W => law_known W)
  have HSZ := Lib.hid (fun W => law_sizes_any mg cg sg W)
  clear hv
  unfold ObjG geo at *
  go_enter Tryz.func3, Tryz.ntmps3
  obtain ⟨W1, hW1⟩ : ∃ W1, W1 = (w.alloc (.cells #[.int .i64 mg, .int .i64 cg, .int .i64 sg] 23)).alloc (.cells #[.int .i64 m2, .int .i64 c2, .int .i64 s2] 23) := ⟨_, rfl⟩
  rw [← hW1] at HB0 HG1 HG2 HOP e2
  go_upto_region 1 with fail
  rw [← hW1]
  clear hW1 e1
  have g0 := HG1.out.cell 0
  have g1 := HG1.out.cell 1
  have g2 := HG1.out.cell 2
  have q0 := HG2.out.cell 0
  have q1 := HG2.out.cell 1
  have q2 := HG2.out.cell 2
  have HBX : Hid (∀ W, Below W1.heap.size W1 W → W.cell? ⟨w.heap.size, 0, none⟩ = some (.int .i64 mg) ∧ W.cell? ⟨w.heap.size, 1, none⟩ = some (.int .i64 cg) ∧ W.cell? ⟨w.heap.size, 2, none⟩ = some (.int .i64 sg) ∧ W.cell? ⟨w.heap.size + 1, 0, none⟩ = some (.int .i64 m2) ∧ W.cell? ⟨w.heap.size + 1, 1, none⟩ = some (.int .i64 c2) ∧ W.cell? ⟨w.heap.size + 1, 2, none⟩ = some (.int .i64 s2)) := fun W hW => by
    have a := HG1.out.below hW HG1.out.lt
    have b := HG2.out.below hW HG2.out.lt
    exact ⟨a.cell 0, a.cell 1, a.cell 2, b.cell 0, b.cell 1, b.cell 2⟩
  go_upto_if 26 with (first
    | (go_at_call 4; (with_reducible refine (HM1.out _ HOP.out).mono ?_); rintro e w2 ⟨r1, rfl, hr1, hb1⟩; have HR1 := Lib.hid hr1; have HB1 := Lib.hid hb1; clear g0 g1 g2 q0 q1 q2; obtain ⟨g0, g1, g2, q0, q1, q2⟩ := HBX.out _ hb1; clear hr1 hb1)
    | (go_at_call 4; (with_reducible refine (HM2.out _).mono ?_); rintro e w3 ⟨r2, rfl, hb2⟩; have HB2 := Lib.hid hb2; clear hb2))
  · go_wp2
    go_ret
    exact ⟨rfl, below_then' HB0.out HB1.out⟩
  · cases r2
    case true =>
      go_wp2
      go_ret
      exact ⟨rfl, below_then' (below_then' HB0.out HB1.out) HB2.out⟩
    case false =>
      have hl2 : l.length ≤ 20000 := HR1.out (by simpa using ‹¬ r1 = true›)
      have HB3 := Lib.hid (below_then HB1.out HB2.out)
      clear g0 g1 g2 q0 q1 q2
      obtain ⟨g0, g1, g2, q0, q1, q2⟩ := HBX.out _ HB3.out
      go_upto_region 6 with (first
        | (go_at_call 5; (with_reducible refine (HKN.out _).mono ?_); rintro e w4 ⟨rfl, hb4⟩; have HB4 := Lib.hid (below_then HB3.out hb4); clear g0 g1 g2 q0 q1 q2 hb4; obtain ⟨g0, g1, g2, q0, q1, q2⟩ := HBX.out _ HB4.out)
        | (go_at_call 6; (with_reducible refine (HSZ.out _).mono ?_); rintro e w5 ⟨v3, M, R, hM, hR, rfl, hown, hb5⟩; have HB5 := Lib.hid (below_then HB4.out hb5); clear g0 g1 g2 q0 q1 q2 hb5))
      have hsl : (sizeL M R).length = M + 1 := sizeL_length M R
      have HOW := Lib.hid hown
      obtain ⟨sa, sc, rfl⟩ := ownsRow_shape hown
      clear hown
      by_cases hM16 : M ≤ 16
      · have HN1 : Hid (Calls Tryz.prog 7 #[.slice sa (M + 1) sc] w5 fun e w' => ∃ b T, e = .returned (.tuple #[.pointer (some ⟨b, 0, none⟩), .int .u16 0]) ∧ BayAt w' T b (newBay M R) ∧ (∀ q, q < w5.heap.size → T q = 0) ∧ Below w5.heap.size w5 w') := by
          have := law_newBay M R _ _ w5 hM16 hR HOW.out
          rw [hsl] at this
          exact this
        have HN2 : Hid (∀ W, Below w5.heap.size w5 W → Calls Tryz.prog 8 #[.slice sa (M + 1) sc] W fun e w' => ∃ c, e = .returned (.tuple #[.pointer (some ⟨c, 0, none⟩), .int .u16 0]) ∧ RBayMade W (newBay M R) c w') := fun W hW => by
          have this : Calls Tryz.prog 8 #[.slice sa (sizeL M R).length sc] W fun e w' => ∃ c, e = .returned (.tuple #[.pointer (some ⟨c, 0, none⟩), .int .u16 0]) ∧ RBayMade W (newBay M R) c w' := rbay_new (sizeL M R) _ _ W (ownsRow_below HOW.out hW (Nat.le_refl _)) (by omega) (by omega) (sizeL_ok hR)
          rw [hsl] at this
          exact this
        rw [hsl]
        clear hsl
        have HST : Hid (∀ w6 w7 b c T, BayAt w6 T b (newBay M R) → (∀ q, q < w5.heap.size → T q = 0) → Below w5.heap.size w5 w6 → RBayMade w6 (newBay M R) c w7 → RunAt W1 b c w7.heap.size (M + 1) 0 (w7.alloc (.cells (bookC (.slice none 0 0) (.slice none 0 0) (.slice none 0 0)) 51))) := fun w6 w7 b c T h1 h2 h3 h4 => run_start HB5.out h1 h2 h3 hR h4
        go_upto_region 13 with (first
          | (go_at_call 7; (with_reducible refine HN1.out.mono ?_); rintro e w6 ⟨b, T, rfl, n1, n2, n3⟩; have N1 := Lib.hid n1; have N2 := Lib.hid n2; have N3 := Lib.hid n3; clear n1 n2 n3)
          | (go_at_call 8; (with_reducible refine (HN2.out _ N3.out).mono ?_); rintro e w7 ⟨c, rfl, n4⟩; have HRUN := Lib.hid (HST.out _ _ _ _ _ N1.out N2.out N3.out n4); clear n4))
        unfold bookC at HRUN
        obtain ⟨K, hK⟩ : ∃ K, K = w7.heap.size := ⟨_, rfl⟩
        rw [← hK] at HRUN ⊢
        clear hK HST HN1 HN2 HM1 HM2 HKN HSZ HOW N1 N2 N3 HB5 HB4 HB3 HB2 HB1 HR1
        obtain ⟨wo, hwo⟩ : ∃ wo, wo = w7.alloc (.cells #[.slice none 0 0, .slice none 0 0, .slice none 0 0, .slice none 0 0, .slice none 0 0, .slice none 0 0, .slice none 0 0, .slice none 0 0, .slice none 0 0, .slice none 0 0, .slice none 0 0, .slice none 0 0] 51) := ⟨_, rfl⟩
        rw [← hwo] at HRUN ⊢
        clear hwo
        go_wp2
        go_loopw [13] (fun q wx => ∃ k : Nat, k ≤ l.length ∧ q = .int .i64 k ∧ RunAt W1 b c K (M + 1) k wx) (fun q _ => l.length - (intOf q).toNat)
        case atStart => exact ⟨0, by omega, rfl, HRUN.out⟩
        case round =>
          obtain ⟨k, hk, rfl, hrun⟩ := hrel
          have HRK := Lib.hid hrun
          have HOLD := Lib.hid hrun.old
          clear hrun
          by_cases hk2 : k < l.length
          · have K1 : Hid (k + 1 ≤ l.length) := hk2
            obtain ⟨ob, oo, rfl, hob, hops⟩ := HOP.out.full (by omega)
            have hop := hops k hk2
            generalize l[k]'hk2 = x at *
            obtain ⟨u, o0, o1, o2, o3, o4, o5, o6⟩ := hop
            obtain ⟨kk, m, n, B⟩ := x
            obtain ⟨ua, uc, rfl⟩ := o4.shape
            have HH : Hid (∀ X, Below W1.heap.size W1 X → X.cell? ⟨w.heap.size, 0, none⟩ = some (.int .i64 mg) ∧ X.cell? ⟨w.heap.size, 1, none⟩ = some (.int .i64 cg) ∧ X.cell? ⟨w.heap.size, 2, none⟩ = some (.int .i64 sg) ∧ X.cell? ⟨ob, oo + k * 4, none⟩ = some (.int .i64 kk) ∧ X.cell? ⟨ob, oo + k * 4 + 1, none⟩ = some (.int .i64 m) ∧ X.cell? ⟨ob, oo + k * 4 + 2, none⟩ = some (.int .i64 n) ∧ X.cell? ⟨ob, oo + k * 4 + 3, none⟩ = some (.slice ua B.length uc)) := fun X hX => by
              obtain ⟨a0, a1, a2, -⟩ := HBX.out X hX
              exact ⟨a0, a1, a2, (hX.cell (p := ⟨ob, oo + k * 4, none⟩) hob).trans o0, (hX.cell (p := ⟨ob, oo + k * 4 + 1, none⟩) hob).trans o1, (hX.cell (p := ⟨ob, oo + k * 4 + 2, none⟩) hob).trans o2, (hX.cell (p := ⟨ob, oo + k * 4 + 3, none⟩) hob).trans o3⟩
            have HH0 := Lib.hid (HH.out wr HOLD.out)
            have HDR := Lib.hid (HRK.out.more (Below.refl _ _).drew)
            have HH1 := Lib.hid (HH.out wr.drew HDR.out.old)
            have HDO : Hid (Calls Tryz.prog 9 #[.pointer (some ⟨b, 0, none⟩), .pointer (some ⟨c, 0, none⟩), .agg #[.int .i64 mg, .int .i64 cg, .int .i64 sg], .agg #[.int .i64 kk, .int .i64 m, .int .i64 n, .slice ua B.length uc], .pointer (some ⟨K, 0, none⟩)] wr.drew fun e w' => e = .returned (.bool true) ∧ RunAt W1 b c K (M + 1) (k + 1) w') := by
              have hlt : B ≠ [] → ∀ a q cc, (Value.slice ua B.length uc) = .slice (some a) q cc → a.block < W1.heap.size := fun hB a q cc e => by
                obtain ⟨b', off, cap, hve, hlt', -⟩ := o4.full (by cases B; exact absurd rfl hB; simp)
                rw [e] at hve
                simp only [Value.slice.injEq, Option.some.injEq] at hve
                rw [hve.1]
                exact hlt'
              exact run_does HDR.out (by omega) mg cg sg kk m n _ B (o4.below HDR.out.old) hlt o6
            clear o0 o1 o2 o3 o4 o5 o6 hops hob
            go_wp2
            refine wp_region_held_drew (S := fun w' => w'.cell? ⟨w.heap.size, 0, none⟩ = some (.int .i64 mg) ∧ w'.cell? ⟨w.heap.size, 1, none⟩ = some (.int .i64 cg) ∧ w'.cell? ⟨w.heap.size, 2, none⟩ = some (.int .i64 sg) ∧ w'.cell? ⟨ob, oo + k * 4, none⟩ = some (.int .i64 kk) ∧ w'.cell? ⟨ob, oo + k * 4 + 1, none⟩ = some (.int .i64 m) ∧ w'.cell? ⟨ob, oo + k * 4 + 2, none⟩ = some (.int .i64 n) ∧ w'.cell? ⟨ob, oo + k * 4 + 3, none⟩ = some (.slice ua B.length uc)) (by kernel_rfl) HH1.out (fun hHeld => ?_)
            refine wpAnyH_take (i := 0) (v := (.pointer (some ⟨b, 0, none⟩))) rfl (by kernel_rfl) (by kernel_rfl) (by kernel_rfl) (fun _ _ _ h => h) (Or.inl ⟨by rfl, fun w hSw => by go_simp⟩) hHeld ?_
            (try simp only [Act.put, List.setIfInBounds_toArray, List.set_cons_zero, List.set_cons_succ, List.getElem_toArray, List.getElem_cons_succ, List.getElem_cons_zero])
            refine wpAnyH_take (i := 1) (v := (.pointer (some ⟨c, 0, none⟩))) rfl (by kernel_rfl) (by kernel_rfl) (by kernel_rfl) (fun _ _ _ h => h) (Or.inl ⟨by rfl, fun w hSw => by go_simp⟩) hHeld ?_
            (try simp only [Act.put, List.setIfInBounds_toArray, List.set_cons_zero, List.set_cons_succ, List.getElem_toArray, List.getElem_cons_succ, List.getElem_cons_zero])
            refine wpAnyH_take (i := 2) (v := (.agg #[.int .i64 mg, .int .i64 cg, .int .i64 sg])) rfl (by kernel_rfl) (by kernel_rfl) (by kernel_rfl) (fun _ _ _ h => h) (Or.inl ⟨by rfl, fun w hSw => by go_simp⟩) hHeld ?_
            (try simp only [Act.put, List.setIfInBounds_toArray, List.set_cons_zero, List.set_cons_succ, List.getElem_toArray, List.getElem_cons_succ, List.getElem_cons_zero])
            refine wpAnyH_take (i := 3) (v := (.slice (some ⟨ob, oo, none⟩) l.length vc)) rfl (by kernel_rfl) (by kernel_rfl) (by kernel_rfl) (fun _ _ _ h => h) (Or.inl ⟨by rfl, fun w hSw => by go_simp⟩) hHeld ?_
            (try simp only [Act.put, List.setIfInBounds_toArray, List.set_cons_zero, List.set_cons_succ, List.getElem_toArray, List.getElem_cons_succ, List.getElem_cons_zero])
            refine wpAnyH_take (i := 4) (v := (.int .i64 (k : Int))) rfl (by kernel_rfl) (by kernel_rfl) (by kernel_rfl) (fun _ _ _ h => h) (Or.inl ⟨by rfl, fun w hSw => by go_simp⟩) hHeld ?_
            (try simp only [Act.put, List.setIfInBounds_toArray, List.set_cons_zero, List.set_cons_succ, List.getElem_toArray, List.getElem_cons_succ, List.getElem_cons_zero])
            refine wpAnyH_take (i := 5) (v := (.pointer (some ⟨ob, oo + k * 4, none⟩))) rfl (by kernel_rfl) (by kernel_rfl) (by kernel_rfl) (fun _ _ _ h => h) (Or.inl ⟨by rfl, fun w hSw => by go_simp⟩) hHeld ?_
            (try simp only [Act.put, List.setIfInBounds_toArray, List.set_cons_zero, List.set_cons_succ, List.getElem_toArray, List.getElem_cons_succ, List.getElem_cons_zero])
            refine wpAnyH_take (i := 6) (v := (.agg #[.int .i64 kk, .int .i64 m, .int .i64 n, .slice ua B.length uc])) rfl (by kernel_rfl) (by kernel_rfl) (by kernel_rfl) (fun _ _ _ h => h) (Or.inl ⟨by rfl, fun w hSw => by go_simp⟩) hHeld ?_
            (try simp only [Act.put, List.setIfInBounds_toArray, List.set_cons_zero, List.set_cons_succ, List.getElem_toArray, List.getElem_cons_succ, List.getElem_cons_zero])
            refine wpAnyH_take (i := 7) (v := (.pointer (some ⟨K, 0, none⟩))) rfl (by kernel_rfl) (by kernel_rfl) (by kernel_rfl) (fun _ _ _ h => h) (Or.inl ⟨by rfl, fun w hSw => by go_simp⟩) hHeld ?_
            (try simp only [Act.put, List.setIfInBounds_toArray, List.set_cons_zero, List.set_cons_succ, List.getElem_toArray, List.getElem_cons_succ, List.getElem_cons_zero])
            refine wpAnyH_ready (rs := [8]) (by kernel_rfl) (by simp) ?_
            refine AllReadyH.cons (o := { dst := some 62, op := Op.call { callee := Callee.value (Operand.func 9), args := #[Operand.tmp 54, Operand.tmp 55, Operand.tmp 56, Operand.tmp 60, Operand.tmp 61], argTypes := #[29, 34, 23, 55, 37] }, type := 4, pos := "law.go:113", after := #[{ on := 0, ground := Ground.data }, { on := 1, ground := Ground.data }, { on := 2, ground := Ground.data }, { on := 6, ground := Ground.data }, { on := 7, ground := Ground.data }], guard := none }) rfl (fun K hK => ?_) AllReadyH.nil
            go_simp
            go_at_call 9
            (with_reducible refine HDO.out.mono ?_)
            rintro e w2 ⟨rfl, hr2⟩
            have HR2 := Lib.hid hr2
            obtain ⟨z, hz1, hz2⟩ := run_counts hr2
            have HZ1 := Lib.hid hz1
            have HZ2 := Lib.hid hz2
            have HH2 := Lib.hid (HH.out w2 hr2.old)
            obtain ⟨n0, n1, n2⟩ := hz2 w2 (Below.refl _ _)
            clear hr2 hz1 hz2
            refine hK.out _ _ HH2.out (fun hHeld => ?_)
            clear hK K
            (try simp only [Act.put, List.setIfInBounds_toArray, List.set_cons_zero, List.set_cons_succ, List.getElem_toArray, List.getElem_cons_succ, List.getElem_cons_zero])
            refine wpAnyH_take (i := 9) (v := (.bool false)) rfl (by kernel_rfl) (by kernel_rfl) (by kernel_rfl) (fun _ _ _ h => h) (Or.inl ⟨by rfl, fun w hSw => by go_simp⟩) hHeld ?_
            (try simp only [Act.put, List.setIfInBounds_toArray, List.set_cons_zero, List.set_cons_succ, List.getElem_toArray, List.getElem_cons_succ, List.getElem_cons_zero])
            refine wpAnyH_take (i := 10) (v := (.bool false)) rfl (by kernel_rfl) (by kernel_rfl) (by kernel_rfl) (fun _ _ _ h => h) (Or.inl ⟨by rfl, fun w hSw => by go_simp⟩) hHeld ?_
            (try simp only [Act.put, List.setIfInBounds_toArray, List.set_cons_zero, List.set_cons_succ, List.getElem_toArray, List.getElem_cons_succ, List.getElem_cons_zero])
            refine wpAnyH_take (i := 11) (v := (.pointer (some ⟨b, 0, none⟩))) rfl (by kernel_rfl) (by kernel_rfl) (by kernel_rfl) (fun _ _ _ h => h) (Or.inl ⟨by rfl, fun w hSw => by go_simp⟩) hHeld ?_
            (try simp only [Act.put, List.setIfInBounds_toArray, List.set_cons_zero, List.set_cons_succ, List.getElem_toArray, List.getElem_cons_succ, List.getElem_cons_zero])
            refine wpAnyH_take (i := 13) (v := (.pointer (some ⟨c, 0, none⟩))) rfl (by kernel_rfl) (by kernel_rfl) (by kernel_rfl) (fun _ _ _ h => h) (Or.inl ⟨by rfl, fun w hSw => by go_simp⟩) hHeld ?_
            (try simp only [Act.put, List.setIfInBounds_toArray, List.set_cons_zero, List.set_cons_succ, List.getElem_toArray, List.getElem_cons_succ, List.getElem_cons_zero])
            refine wpAnyH_take (i := 14) (v := (.pointer (some ⟨c, 0, none⟩))) rfl (by kernel_rfl) (by kernel_rfl) (by kernel_rfl) (fun _ _ _ h => h) (Or.inl ⟨by rfl, fun w hSw => by go_simp⟩) hHeld ?_
            (try simp only [Act.put, List.setIfInBounds_toArray, List.set_cons_zero, List.set_cons_succ, List.getElem_toArray, List.getElem_cons_succ, List.getElem_cons_zero])
            refine wpAnyH_take (i := 15) (v := (.pointer (some ⟨c, 3, none⟩))) rfl (by kernel_rfl) (by kernel_rfl) (by kernel_rfl) (fun _ _ _ h => h) (Or.inl ⟨by rfl, fun w hSw => by go_simp⟩) hHeld ?_
            (try simp only [Act.put, List.setIfInBounds_toArray, List.set_cons_zero, List.set_cons_succ, List.getElem_toArray, List.getElem_cons_succ, List.getElem_cons_zero])
            refine wpAnyH_ready (rs := [12, 16]) (by kernel_rfl) (by simp) ?_
            refine AllReadyH.cons (o := { dst := some 66, op := Op.call { callee := Callee.value (Operand.func 10), args := #[Operand.tmp 65], argTypes := #[29] }, type := 57, pos := "law.go:113", after := #[{ on := 11, ground := Ground.data }, { on := 10, ground := Ground.chain }, { on := 10, ground := Ground.guard }], guard := some (10, false) }) rfl (fun K hK => ?_) (AllReadyH.cons (o := { dst := some 70, op := Op.load 57 (Operand.tmp 69), type := 57, pos := "law.go:113", after := #[{ on := 15, ground := Ground.data }, { on := 10, ground := Ground.guard }], guard := some (10, false) }) rfl (fun K hK => ?_) AllReadyH.nil)
            · go_simp
              go_at_call 10
              (with_reducible refine (HZ1.out _ (Below.refl _ _)).mono ?_)
              rintro e w3 ⟨rfl, hb3⟩
              have HB3 := Lib.hid hb3
              have HR3 := Lib.hid (HR2.out.more hb3)
              have HH3 := Lib.hid (HH.out w3 HR3.out.old)
              obtain ⟨p0, p1, p2⟩ := HZ2.out w3 hb3
              clear hb3
              refine hK.out _ _ HH3.out (fun hHeld => ?_)
              clear hK K
              (try simp only [Act.put, List.setIfInBounds_toArray, List.set_cons_zero, List.set_cons_succ, List.getElem_toArray, List.getElem_cons_succ, List.getElem_cons_zero])
              refine wpAnyH_ready (rs := [16]) (by kernel_rfl) (by simp) ?_
              refine AllReadyH.cons (o := { dst := some 70, op := Op.load 57 (Operand.tmp 69), type := 57, pos := "law.go:113", after := #[{ on := 15, ground := Ground.data }, { on := 10, ground := Ground.guard }], guard := some (10, false) }) rfl (fun K hK => ?_) AllReadyH.nil
              go_simp
              refine hK.out _ _ HH3.out (fun hHeld => ?_)
              clear hK K
              (try simp only [Act.put, List.setIfInBounds_toArray, List.set_cons_zero, List.set_cons_succ, List.getElem_toArray, List.getElem_cons_succ, List.getElem_cons_zero])
              refine wpAnyH_take (i := 17) (v := (.bool false)) rfl (by kernel_rfl) (by kernel_rfl) (by kernel_rfl) (fun _ _ _ h => h) (Or.inl ⟨by rfl, fun w hSw => by go_simp⟩) hHeld ?_
              (try simp only [Act.put, List.setIfInBounds_toArray, List.set_cons_zero, List.set_cons_succ, List.getElem_toArray, List.getElem_cons_succ, List.getElem_cons_zero])
              refine wpAnyH_take (i := 18) (v := (.bool false)) rfl (by kernel_rfl) (by kernel_rfl) (by kernel_rfl) (fun _ _ _ h => h) (Or.inl ⟨by rfl, fun w hSw => by go_simp⟩) hHeld ?_
              (try simp only [Act.put, List.setIfInBounds_toArray, List.set_cons_zero, List.set_cons_succ, List.getElem_toArray, List.getElem_cons_succ, List.getElem_cons_zero])
              refine wpAnyH_done (by kernel_rfl) ?_ _
              clear n0 n1 n2 p0 p1 p2
              go_wp2
              go_roundw
              case rel => exact ⟨k + 1, K1.out, by go_num, HR3.out⟩
              case measure => simp [intOf]; have := K1.out; omega
            · go_simp
              refine hK.out _ _ HH2.out (fun hHeld => ?_)
              clear hK K
              (try simp only [Act.put, List.setIfInBounds_toArray, List.set_cons_zero, List.set_cons_succ, List.getElem_toArray, List.getElem_cons_succ, List.getElem_cons_zero])
              refine wpAnyH_ready (rs := [12]) (by kernel_rfl) (by simp) ?_
              refine AllReadyH.cons (o := { dst := some 66, op := Op.call { callee := Callee.value (Operand.func 10), args := #[Operand.tmp 65], argTypes := #[29] }, type := 57, pos := "law.go:113", after := #[{ on := 11, ground := Ground.data }, { on := 10, ground := Ground.chain }, { on := 10, ground := Ground.guard }], guard := some (10, false) }) rfl (fun K hK => ?_) AllReadyH.nil
              go_simp
              go_at_call 10
              (with_reducible refine (HZ1.out _ (Below.refl _ _)).mono ?_)
              rintro e w3 ⟨rfl, hb3⟩
              have HB3 := Lib.hid hb3
              have HR3 := Lib.hid (HR2.out.more hb3)
              have HH3 := Lib.hid (HH.out w3 HR3.out.old)
              obtain ⟨p0, p1, p2⟩ := HZ2.out w3 hb3
              clear hb3
              refine hK.out _ _ HH3.out (fun hHeld => ?_)
              clear hK K
              (try simp only [Act.put, List.setIfInBounds_toArray, List.set_cons_zero, List.set_cons_succ, List.getElem_toArray, List.getElem_cons_succ, List.getElem_cons_zero])
              refine wpAnyH_take (i := 17) (v := (.bool false)) rfl (by kernel_rfl) (by kernel_rfl) (by kernel_rfl) (fun _ _ _ h => h) (Or.inl ⟨by rfl, fun w hSw => by go_simp⟩) hHeld ?_
              (try simp only [Act.put, List.setIfInBounds_toArray, List.set_cons_zero, List.set_cons_succ, List.getElem_toArray, List.getElem_cons_succ, List.getElem_cons_zero])
              refine wpAnyH_take (i := 18) (v := (.bool false)) rfl (by kernel_rfl) (by kernel_rfl) (by kernel_rfl) (fun _ _ _ h => h) (Or.inl ⟨by rfl, fun w hSw => by go_simp⟩) hHeld ?_
              (try simp only [Act.put, List.setIfInBounds_toArray, List.set_cons_zero, List.set_cons_succ, List.getElem_toArray, List.getElem_cons_succ, List.getElem_cons_zero])
              refine wpAnyH_done (by kernel_rfl) ?_ _
              clear n0 n1 n2 p0 p1 p2
              go_wp2
              go_roundw
              case rel => exact ⟨k + 1, K1.out, by go_num, HR3.out⟩
              case measure => simp [intOf]; have := K1.out; omega
          · obtain rfl : k = l.length := by omega
            clear hk hk2
            obtain ⟨N0, hN0⟩ : ∃ N0, N0 = l.length := ⟨_, rfl⟩
            rw [← hN0] at HRK hl2
            obtain ⟨wp, rfl⟩ : ∃ wp : World, wp = wr := ⟨_, rfl⟩
            clear HOLD
            go_wp2
            go_loopw [14] (fun q wx => ∃ j : Nat, 1 ≤ j ∧ j ≤ 4 ∧ q = .int .i64 j ∧ RunAt W1 b c K (M + 1) (N0 + j - 1) wx) (fun q _ => 4 - (intOf q).toNat)
            case atStart => exact ⟨1, by omega, by omega, rfl, HRK.out⟩
            case round =>
              obtain ⟨j, hj1, hj, rfl, hrun⟩ := hrel
              have HRJ := Lib.hid hrun
              have HOLD := Lib.hid hrun.old
              clear hrun
              by_cases hj2 : j ≤ 3
              · have J1 : Hid (j + 1 ≤ 4) := by show _ ≤ _; omega
                have JE : Hid (N0 + (j + 1) - 1 = N0 + j - 1 + 1) := by show _ = _; omega
                have HH : Hid (∀ X, Below W1.heap.size W1 X → X.cell? ⟨w.heap.size + 1, 0, none⟩ = some (.int .i64 m2) ∧ X.cell? ⟨w.heap.size + 1, 1, none⟩ = some (.int .i64 c2) ∧ X.cell? ⟨w.heap.size + 1, 2, none⟩ = some (.int .i64 s2)) := fun X hX => by
                  obtain ⟨-, -, -, a0, a1, a2⟩ := HBX.out X hX
                  exact ⟨a0, a1, a2⟩
                have HDR := Lib.hid (HRJ.out.more (Below.refl _ _).drew)
                have HH1 := Lib.hid (HH.out wr.drew HDR.out.old)
                have HDO : Hid (Calls Tryz.prog 9 #[.pointer (some ⟨b, 0, none⟩), .pointer (some ⟨c, 0, none⟩), .agg #[.int .i64 m2, .int .i64 c2, .int .i64 s2], .agg #[.int .i64 (j : Int), .int .i64 0, .int .i64 0, .slice none 0 0], .pointer (some ⟨K, 0, none⟩)] wr.drew fun e w' => e = .returned (.bool true) ∧ RunAt W1 b c K (M + 1) (N0 + j - 1 + 1) w') := run_does HDR.out (by omega) m2 c2 s2 j 0 0 _ [] (Seg.nil _) (fun h => absurd rfl h) (by omega)
                go_wp2
                refine wp_region_held_drew (S := fun w' => w'.cell? ⟨w.heap.size + 1, 0, none⟩ = some (.int .i64 m2) ∧ w'.cell? ⟨w.heap.size + 1, 1, none⟩ = some (.int .i64 c2) ∧ w'.cell? ⟨w.heap.size + 1, 2, none⟩ = some (.int .i64 s2)) (by kernel_rfl) HH1.out (fun hHeld => ?_)
                refine wpAnyH_take (i := 0) (v := (.pointer (some ⟨b, 0, none⟩))) rfl (by kernel_rfl) (by kernel_rfl) (by kernel_rfl) (fun _ _ _ h => h) (Or.inl ⟨by rfl, fun w hSw => by go_simp⟩) hHeld ?_
                (try simp only [Act.put, List.setIfInBounds_toArray, List.set_cons_zero, List.set_cons_succ, List.getElem_toArray, List.getElem_cons_succ, List.getElem_cons_zero])
                refine wpAnyH_take (i := 1) (v := (.pointer (some ⟨c, 0, none⟩))) rfl (by kernel_rfl) (by kernel_rfl) (by kernel_rfl) (fun _ _ _ h => h) (Or.inl ⟨by rfl, fun w hSw => by go_simp⟩) hHeld ?_
                (try simp only [Act.put, List.setIfInBounds_toArray, List.set_cons_zero, List.set_cons_succ, List.getElem_toArray, List.getElem_cons_succ, List.getElem_cons_zero])
                refine wpAnyH_take (i := 2) (v := (.agg #[.int .i64 m2, .int .i64 c2, .int .i64 s2])) rfl (by kernel_rfl) (by kernel_rfl) (by kernel_rfl) (fun _ _ _ h => h) (Or.inl ⟨by rfl, fun w hSw => by go_simp⟩) hHeld ?_
                (try simp only [Act.put, List.setIfInBounds_toArray, List.set_cons_zero, List.set_cons_succ, List.getElem_toArray, List.getElem_cons_succ, List.getElem_cons_zero])
                refine wpAnyH_take (i := 3) (v := (.int .i64 (j : Int))) rfl (by kernel_rfl) (by kernel_rfl) (by kernel_rfl) (fun _ _ _ h => h) (Or.inl ⟨by rfl, fun w hSw => by go_simp⟩) hHeld ?_
                (try simp only [Act.put, List.setIfInBounds_toArray, List.set_cons_zero, List.set_cons_succ, List.getElem_toArray, List.getElem_cons_succ, List.getElem_cons_zero])
                refine wpAnyH_take (i := 4) (v := (.agg #[.int .i64 (j : Int), .int .i64 0, .int .i64 0, .slice none 0 0])) rfl (by kernel_rfl) (by kernel_rfl) (by kernel_rfl) (fun _ _ _ h => h) (Or.inl ⟨by rfl, fun w hSw => by go_simp⟩) hHeld ?_
                (try simp only [Act.put, List.setIfInBounds_toArray, List.set_cons_zero, List.set_cons_succ, List.getElem_toArray, List.getElem_cons_succ, List.getElem_cons_zero])
                refine wpAnyH_take (i := 5) (v := (.pointer (some ⟨K, 0, none⟩))) rfl (by kernel_rfl) (by kernel_rfl) (by kernel_rfl) (fun _ _ _ h => h) (Or.inl ⟨by rfl, fun w hSw => by go_simp⟩) hHeld ?_
                (try simp only [Act.put, List.setIfInBounds_toArray, List.set_cons_zero, List.set_cons_succ, List.getElem_toArray, List.getElem_cons_succ, List.getElem_cons_zero])
                refine wpAnyH_ready (rs := [6]) (by kernel_rfl) (by simp) ?_
                refine AllReadyH.cons (o := { dst := some 83, op := Op.call { callee := Callee.value (Operand.func 9), args := #[Operand.tmp 77, Operand.tmp 78, Operand.tmp 79, Operand.tmp 81, Operand.tmp 82], argTypes := #[29, 34, 23, 55, 37] }, type := 4, pos := "law.go:118", after := #[{ on := 0, ground := Ground.data }, { on := 1, ground := Ground.data }, { on := 2, ground := Ground.data }, { on := 4, ground := Ground.data }, { on := 5, ground := Ground.data }], guard := none }) rfl (fun K hK => ?_) AllReadyH.nil
                go_simp
                go_at_call 9
                (with_reducible refine HDO.out.mono ?_)
                rintro e w2 ⟨rfl, hr2⟩
                have HR2 := Lib.hid hr2
                obtain ⟨z, hz1, hz2⟩ := run_counts hr2
                have HZ1 := Lib.hid hz1
                have HZ2 := Lib.hid hz2
                have HH2 := Lib.hid (HH.out w2 hr2.old)
                obtain ⟨n0, n1, n2⟩ := hz2 w2 (Below.refl _ _)
                clear hr2 hz1 hz2
                refine hK.out _ _ HH2.out (fun hHeld => ?_)
                clear hK K
                (try simp only [Act.put, List.setIfInBounds_toArray, List.set_cons_zero, List.set_cons_succ, List.getElem_toArray, List.getElem_cons_succ, List.getElem_cons_zero])
                refine wpAnyH_take (i := 7) (v := (.bool false)) rfl (by kernel_rfl) (by kernel_rfl) (by kernel_rfl) (fun _ _ _ h => h) (Or.inl ⟨by rfl, fun w hSw => by go_simp⟩) hHeld ?_
                (try simp only [Act.put, List.setIfInBounds_toArray, List.set_cons_zero, List.set_cons_succ, List.getElem_toArray, List.getElem_cons_succ, List.getElem_cons_zero])
                refine wpAnyH_take (i := 8) (v := (.bool false)) rfl (by kernel_rfl) (by kernel_rfl) (by kernel_rfl) (fun _ _ _ h => h) (Or.inl ⟨by rfl, fun w hSw => by go_simp⟩) hHeld ?_
                (try simp only [Act.put, List.setIfInBounds_toArray, List.set_cons_zero, List.set_cons_succ, List.getElem_toArray, List.getElem_cons_succ, List.getElem_cons_zero])
                refine wpAnyH_take (i := 9) (v := (.pointer (some ⟨b, 0, none⟩))) rfl (by kernel_rfl) (by kernel_rfl) (by kernel_rfl) (fun _ _ _ h => h) (Or.inl ⟨by rfl, fun w hSw => by go_simp⟩) hHeld ?_
                (try simp only [Act.put, List.setIfInBounds_toArray, List.set_cons_zero, List.set_cons_succ, List.getElem_toArray, List.getElem_cons_succ, List.getElem_cons_zero])
                refine wpAnyH_take (i := 11) (v := (.pointer (some ⟨c, 0, none⟩))) rfl (by kernel_rfl) (by kernel_rfl) (by kernel_rfl) (fun _ _ _ h => h) (Or.inl ⟨by rfl, fun w hSw => by go_simp⟩) hHeld ?_
                (try simp only [Act.put, List.setIfInBounds_toArray, List.set_cons_zero, List.set_cons_succ, List.getElem_toArray, List.getElem_cons_succ, List.getElem_cons_zero])
                refine wpAnyH_take (i := 12) (v := (.pointer (some ⟨c, 0, none⟩))) rfl (by kernel_rfl) (by kernel_rfl) (by kernel_rfl) (fun _ _ _ h => h) (Or.inl ⟨by rfl, fun w hSw => by go_simp⟩) hHeld ?_
                (try simp only [Act.put, List.setIfInBounds_toArray, List.set_cons_zero, List.set_cons_succ, List.getElem_toArray, List.getElem_cons_succ, List.getElem_cons_zero])
                refine wpAnyH_take (i := 13) (v := (.pointer (some ⟨c, 3, none⟩))) rfl (by kernel_rfl) (by kernel_rfl) (by kernel_rfl) (fun _ _ _ h => h) (Or.inl ⟨by rfl, fun w hSw => by go_simp⟩) hHeld ?_
                (try simp only [Act.put, List.setIfInBounds_toArray, List.set_cons_zero, List.set_cons_succ, List.getElem_toArray, List.getElem_cons_succ, List.getElem_cons_zero])
                refine wpAnyH_ready (rs := [10, 14]) (by kernel_rfl) (by simp) ?_
                refine AllReadyH.cons (o := { dst := some 87, op := Op.call { callee := Callee.value (Operand.func 10), args := #[Operand.tmp 86], argTypes := #[29] }, type := 57, pos := "law.go:118", after := #[{ on := 9, ground := Ground.data }, { on := 8, ground := Ground.chain }, { on := 8, ground := Ground.guard }], guard := some (8, false) }) rfl (fun K hK => ?_) (AllReadyH.cons (o := { dst := some 91, op := Op.load 57 (Operand.tmp 90), type := 57, pos := "law.go:118", after := #[{ on := 13, ground := Ground.data }, { on := 8, ground := Ground.guard }], guard := some (8, false) }) rfl (fun K hK => ?_) AllReadyH.nil)
                · go_simp
                  go_at_call 10
                  (with_reducible refine (HZ1.out _ (Below.refl _ _)).mono ?_)
                  rintro e w3 ⟨rfl, hb3⟩
                  have HB3 := Lib.hid hb3
                  have HR3 := Lib.hid (HR2.out.more hb3)
                  have HH3 := Lib.hid (HH.out w3 HR3.out.old)
                  obtain ⟨p0, p1, p2⟩ := HZ2.out w3 hb3
                  clear hb3
                  refine hK.out _ _ HH3.out (fun hHeld => ?_)
                  clear hK K
                  (try simp only [Act.put, List.setIfInBounds_toArray, List.set_cons_zero, List.set_cons_succ, List.getElem_toArray, List.getElem_cons_succ, List.getElem_cons_zero])
                  refine wpAnyH_ready (rs := [14]) (by kernel_rfl) (by simp) ?_
                  refine AllReadyH.cons (o := { dst := some 91, op := Op.load 57 (Operand.tmp 90), type := 57, pos := "law.go:118", after := #[{ on := 13, ground := Ground.data }, { on := 8, ground := Ground.guard }], guard := some (8, false) }) rfl (fun K hK => ?_) AllReadyH.nil
                  go_simp
                  refine hK.out _ _ HH3.out (fun hHeld => ?_)
                  clear hK K
                  (try simp only [Act.put, List.setIfInBounds_toArray, List.set_cons_zero, List.set_cons_succ, List.getElem_toArray, List.getElem_cons_succ, List.getElem_cons_zero])
                  refine wpAnyH_take (i := 15) (v := (.bool false)) rfl (by kernel_rfl) (by kernel_rfl) (by kernel_rfl) (fun _ _ _ h => h) (Or.inl ⟨by rfl, fun w hSw => by go_simp⟩) hHeld ?_
                  (try simp only [Act.put, List.setIfInBounds_toArray, List.set_cons_zero, List.set_cons_succ, List.getElem_toArray, List.getElem_cons_succ, List.getElem_cons_zero])
                  refine wpAnyH_take (i := 16) (v := (.bool false)) rfl (by kernel_rfl) (by kernel_rfl) (by kernel_rfl) (fun _ _ _ h => h) (Or.inl ⟨by rfl, fun w hSw => by go_simp⟩) hHeld ?_
                  (try simp only [Act.put, List.setIfInBounds_toArray, List.set_cons_zero, List.set_cons_succ, List.getElem_toArray, List.getElem_cons_succ, List.getElem_cons_zero])
                  refine wpAnyH_done (by kernel_rfl) ?_ _
                  clear n0 n1 n2 p0 p1 p2
                  go_wp2
                  go_roundw
                  case rel => exact ⟨j + 1, by omega, J1.out, by go_num, by rw [JE.out]; exact HR3.out⟩
                  case measure => simp [intOf]; have := J1.out; omega
                · go_simp
                  refine hK.out _ _ HH2.out (fun hHeld => ?_)
                  clear hK K
                  (try simp only [Act.put, List.setIfInBounds_toArray, List.set_cons_zero, List.set_cons_succ, List.getElem_toArray, List.getElem_cons_succ, List.getElem_cons_zero])
                  refine wpAnyH_ready (rs := [10]) (by kernel_rfl) (by simp) ?_
                  refine AllReadyH.cons (o := { dst := some 87, op := Op.call { callee := Callee.value (Operand.func 10), args := #[Operand.tmp 86], argTypes := #[29] }, type := 57, pos := "law.go:118", after := #[{ on := 9, ground := Ground.data }, { on := 8, ground := Ground.chain }, { on := 8, ground := Ground.guard }], guard := some (8, false) }) rfl (fun K hK => ?_) AllReadyH.nil
                  go_simp
                  go_at_call 10
                  (with_reducible refine (HZ1.out _ (Below.refl _ _)).mono ?_)
                  rintro e w3 ⟨rfl, hb3⟩
                  have HB3 := Lib.hid hb3
                  have HR3 := Lib.hid (HR2.out.more hb3)
                  have HH3 := Lib.hid (HH.out w3 HR3.out.old)
                  obtain ⟨p0, p1, p2⟩ := HZ2.out w3 hb3
                  clear hb3
                  refine hK.out _ _ HH3.out (fun hHeld => ?_)
                  clear hK K
                  (try simp only [Act.put, List.setIfInBounds_toArray, List.set_cons_zero, List.set_cons_succ, List.getElem_toArray, List.getElem_cons_succ, List.getElem_cons_zero])
                  refine wpAnyH_take (i := 15) (v := (.bool false)) rfl (by kernel_rfl) (by kernel_rfl) (by kernel_rfl) (fun _ _ _ h => h) (Or.inl ⟨by rfl, fun w hSw => by go_simp⟩) hHeld ?_
                  (try simp only [Act.put, List.setIfInBounds_toArray, List.set_cons_zero, List.set_cons_succ, List.getElem_toArray, List.getElem_cons_succ, List.getElem_cons_zero])
                  refine wpAnyH_take (i := 16) (v := (.bool false)) rfl (by kernel_rfl) (by kernel_rfl) (by kernel_rfl) (fun _ _ _ h => h) (Or.inl ⟨by rfl, fun w hSw => by go_simp⟩) hHeld ?_
                  (try simp only [Act.put, List.setIfInBounds_toArray, List.set_cons_zero, List.set_cons_succ, List.getElem_toArray, List.getElem_cons_succ, List.getElem_cons_zero])
                  refine wpAnyH_done (by kernel_rfl) ?_ _
                  clear n0 n1 n2 p0 p1 p2
                  go_wp2
                  go_roundw
                  case rel => exact ⟨j + 1, by omega, J1.out, by go_num, by rw [JE.out]; exact HR3.out⟩
                  case measure => simp [intOf]; have := J1.out; omega
              · obtain rfl : j = 4 := by omega
                have HCUT := Lib.hid (run_cut HRJ.out (by omega))
                obtain ⟨wq, rfl⟩ : ∃ wq : World, wq = wr := ⟨_, rfl⟩
                clear HOLD hj hj1 hj2
                go_wp2_with (first
                  | (go_at_call 11; (with_reducible refine HCUT.out.mono ?_); rintro e w8 ⟨rfl, hc8⟩; have HC8 := Lib.hid hc8; clear hc8)
                  | (go_at_call 12; (with_reducible refine HC8.out.mono ?_); rintro e w9 ⟨rfl, hr9⟩; have HR9 := Lib.hid hr9; clear hr9))
                go_loopw [15, 16, 17, 18, 19] (fun q _ _ _ _ wx => ∃ i : Nat, i ≤ M + 1 ∧ q = .int .i64 i ∧ RunAt W1 b c K (M + 1) (N0 + 4 - 1 + 1) wx) (fun q _ _ _ _ _ => M + 1 - (intOf q).toNat)
                case atStart => exact ⟨0, by omega, rfl, HR9.out⟩
                case round =>
                  obtain ⟨i, hi, rfl, hrun⟩ := hrel
                  have HRI := Lib.hid hrun
                  clear hrun
                  by_cases hi2 : i < M + 1
                  · have I1 : Hid (i + 1 ≤ M + 1) := hi2
                    obtain ⟨z, I, hi3, hi4⟩ := run_images HRI.out (i : Int)
                    have HI3 := Lib.hid hi3
                    have HI4 := Lib.hid hi4
                    clear hi3 hi4
                    go_wp2_with (first
                      | (go_at_call 13; (with_reducible refine (HI3.out _ (Below.refl _ _)).mono ?_); rintro e wa ⟨v1, rfl, sg1, l1, b1⟩; have SG1 := Lib.hid sg1; have BA := Lib.hid b1; have HL1 := Lib.hid l1; clear sg1 b1 l1)
                      | (go_at_call 14; (with_reducible refine (HI4.out _ BA.out).mono ?_); rintro e wb ⟨v2, rfl, sg2, -, b2⟩; have SG2 := Lib.hid sg2; have BB := Lib.hid b2; have SG1b := Lib.hid (SG1.out.below b2); clear sg2 b2)
                      | (go_at_call 15; (with_reducible refine (same_any v1 v2 I I wb (by have := HL1.out; omega) (by have := HL1.out; omega) SG1b.out SG2.out).mono ?_); rintro e wd ⟨rfl, b3⟩; rw [decide_eq_true (p := I = I) rfl]; have BC := Lib.hid b3; clear b3))
                    go_roundw
                    case rel => exact ⟨i + 1, I1.out, by go_num, ((HRI.out.more BA.out).more BB.out).more BC.out⟩
                    case measure => simp [intOf]; have := I1.out; omega
                  · obtain rfl : i = M + 1 := by omega
                    have HOWN := Lib.hid (run_own HRI.out (by omega))
                    go_wp2_with (first
                      | (go_at_call 16; (with_reducible refine HOWN.out.mono ?_); rintro e we ⟨rfl, hb⟩; have HBE := Lib.hid hb; clear hb))
                    go_ret
                    exact ⟨rfl, below_then' HB0.out HBE.out⟩
      · rw [hsl]
        have HN1 : Hid (Calls Tryz.prog 7 #[.slice sa (M + 1) sc] w5 fun e w' => e = .returned (.tuple #[.pointer none, .int .u16 1]) ∧ w' = w5) := bay_new_many sa (M + 1) sc w5 (by omega) (by omega)
        have HN2 : Hid (Calls Tryz.prog 8 #[.slice sa (M + 1) sc] w5 fun e w' => e = .returned (.tuple #[.pointer none, .int .u16 1]) ∧ w' = w5) := rbay_new_many sa (M + 1) sc w5 (by omega) (by omega)
        clear hsl hM16
        go_wp2_with (first
          | (go_at_call 7; (with_reducible refine HN1.out.mono ?_); rintro e w6 ⟨rfl, hw⟩; obtain rfl : w5 = w6 := hw.symm)
          | (go_at_call 8; (with_reducible refine HN2.out.mono ?_); rintro e w7 ⟨rfl, hw⟩; obtain rfl : w5 = w7 := hw.symm))
        go_ret
        exact ⟨rfl, below_then' HB0.out HB5.out⟩

end Go.Proofs.YtleicmmbaacbmaaGreat
