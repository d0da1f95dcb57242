/- plan.Split: none of what comes out shares memory. -/
import Derived.Test.YtkcfmkhakghniaaGreatPlwP
import Derived.Test.YtkcfmkhakghniaaGreatPlzN
set_option linter.unusedVariables false
namespace Go.Proofs.YtkcfmkhakghniaaGreat
open Go.RowKit

structure Apart (L : List (Value × List OP)) : Prop where
  heads : L.Pairwise fun x y => ∀ g, x.1.ownBlock = some g → y.1.ownBlock ≠ some g
  dats : L.Pairwise fun x y => ∀ a ∈ x.2, ∀ b ∈ y.2, ∀ g, a.2.ownBlock = some g → b.2.ownBlock ≠ some g

set_option maxRecDepth 100000 in
theorem plan_SplitA (M C S : Nat) (v : Value) (us : List (Int × List UInt8)) (w : World) (ok : BatchOk M C S us) (hv : PutSeg w v us) :
    Calls Tryz.prog 22 #[geo M C S, v] w fun e w' => (∃ v' L, e = .returned (.tuple #[v', .int .u16 0]) ∧ RowsAt w' w.heap.size v' L ∧ SplitIs M C S us L ∧ Apart L) ∧ Below w.heap.size w w' := by
  refine (plan_Split M C S v us w ok.hg hv ok.few).mono fun e w' ⟨h, hb⟩ => ⟨?_, hb⟩
  rcases h with ⟨⟨u, h1, h2⟩, -⟩ | ⟨-, ⟨u, h1, h2⟩, -⟩ | ⟨-, -, v', rs, L, dv, he, hL, hrs, hlen, hmem, hrow, hdap, hpw⟩
  · exact absurd (ok.there u h1) h2
  · exact absurd (ok.len u h1) h2
  · refine ⟨v', L, he, hL, ?_, hpw, ?_⟩
    · have hG := tab_in ok.hg ok.there (Nat.le_refl us.length)
      have hb2 := (geo_bounds ok.hg).2
      have hR : S * C ≤ 4096 := by exact_mod_cast hb2
      have hM : M ≤ 16 := by have := (geoIs_iff M C S).1 ok.hg; omega
      have hrs' := rows_are (W := fun r => (Lit.int .i64 r).wf = true) hG (fun n hn => WalkArith.wf_i64 ⟨by omega, by omega⟩) hrs hmem
      unfold SplitIs tabAll
      apply List.ext_getElem
      · rw [List.length_map, List.length_map, hlen, hrs', List.length_map]
      · intro i h1 h2
        rw [List.getElem_map, List.getElem_map]
        have hi : i < L.length := by rw [List.length_map] at h1; exact h1
        obtain ⟨ms, m1, m2, m3⟩ := hrow i hi
        have hi2 : i < (rowsIn M (S * C) (tabOf M C us us.length)).length := by rw [List.length_map] at h2; exact h2
        have er : rs.getD i 0 = (((rowsIn M (S * C) (tabOf M C us us.length))[i]'hi2 : Nat) : Int) := by
          rw [hrs', List.getD_eq_getElem?_getD, List.getElem?_map, List.getElem?_eq_getElem hi2]
          rfl
        rw [er] at m2 m3
        have hms := membs_are (W := fun r => (Lit.int .i64 r).wf = true) hG (fun n hn => WalkArith.wf_i64 ⟨by omega, by omega⟩) m1 m2
        rw [m3]
        unfold rowX patsIn
        rw [hms, List.map_map, List.map_map]
        rfl
    · rw [List.pairwise_iff_getElem]
      intro i j hi hj hij a ha b hb g hg
      obtain ⟨ms, -, m2, m3⟩ := hrow i hi
      obtain ⟨ns, -, n2, n3⟩ := hrow j hj
      rw [m3] at ha
      rw [n3] at hb
      obtain ⟨m, hm, rfl⟩ := List.mem_map.1 ha
      obtain ⟨n, hn, rfl⟩ := List.mem_map.1 hb
      obtain ⟨d, hd⟩ := Option.isSome_iff_exists.1 ((m2 m).1 hm).2
      obtain ⟨d', hd'⟩ := Option.isSome_iff_exists.1 ((n2 n).1 hn).2
      refine hdap _ _ d _ _ d' hd hd' (fun e => ?_) g hg
      have h1 := List.pairwise_iff_getElem.1 hrs i j (by omega) (by omega) hij
      have e1 : rs.getD i 0 = rs[i]'(by omega) := by rw [List.getD_eq_getElem?_getD, List.getElem?_eq_getElem (by omega)]; rfl
      have e2 : rs.getD j 0 = rs[j]'(by omega) := by rw [List.getD_eq_getElem?_getD, List.getElem?_eq_getElem (by omega)]; rfl
      have := e.1
      rw [e1, e2] at this
      omega

end Go.Proofs.YtkcfmkhakghniaaGreat
