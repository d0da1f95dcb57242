/- plan.Split and plan.Most, told plainly. -/
import Derived.Test.YtpegbgomnpinfaaGreatPlwD
set_option linter.unusedVariables false
namespace Go.Proofs.YtpegbgomnpinfaaGreat
open Go.RowKit

/-- What a batch gives. -/
abbrev tabAll (M C : Nat) (us : List (Int × List UInt8)) : Tab := tabOf M C us us.length

/-- What lies in Split's rows. -/
def SplitIs (M C S : Nat) (us : List (Int × List UInt8)) (L : List (Value × List OP)) : Prop :=
  L.map (fun x => x.2.map (·.1)) = (rowsIn M (S * C) (tabAll M C us)).map (patsIn M (tabAll M C us))

/-- A batch that may be given. -/
structure BatchOk (M C S : Nat) (us : List (Int × List UInt8)) : Prop where
  hg : geoIs M C S = true
  few : us.length ≤ 256
  there : ∀ u ∈ us, thereIs M C S u.1
  len : ∀ u ∈ us, u.2.length = 128

set_option maxRecDepth 100000 in
theorem plan_SplitE (M C S : Nat) (v : Value) (us : List (Int × List UInt8)) (w : World) (ok : BatchOk M C S us) (hv : PutSeg w v us) :
    Calls Tryz.prog 145 #[geo M C S, v] w fun e w' => (∃ v' L, e = .returned (.tuple #[v', .int .u16 0]) ∧ RowsAt w' w.heap.size v' L ∧ SplitIs M C S us L) ∧ Below w.heap.size w w' := by
  refine (plan_Split M C S v us w ok.hg hv ok.few).mono fun e w' ⟨h, hb⟩ => ⟨?_, hb⟩
  rcases h with ⟨⟨u, h1, h2⟩, -⟩ | ⟨-, ⟨u, h1, h2⟩, -⟩ | ⟨-, -, v', rs, L, dv, he, hL, hrs, hlen, hmem, hrow, -, -⟩
  · exact absurd (ok.there u h1) h2
  · exact absurd (ok.len u h1) h2
  · refine ⟨v', L, he, hL, ?_⟩
    have hG := tab_in ok.hg ok.there (Nat.le_refl us.length)
    have hb2 := (geo_bounds ok.hg).2
    have hR : S * C ≤ 4096 := by exact_mod_cast hb2
    have hM : M ≤ 16 := by have := (geoIs_iff M C S).1 ok.hg; omega
    have hrs' := rows_are (W := fun r => (Lit.int .i64 r).wf = true) hG (fun n hn => WalkArith.wf_i64 ⟨by omega, by omega⟩) hrs hmem
    unfold SplitIs tabAll
    apply List.ext_getElem
    · rw [List.length_map, List.length_map, hlen, hrs', List.length_map]
    · intro i h1 h2
      rw [List.getElem_map, List.getElem_map]
      have hi : i < L.length := by rw [List.length_map] at h1; exact h1
      obtain ⟨ms, m1, m2, m3⟩ := hrow i hi
      have hi2 : i < (rowsIn M (S * C) (tabOf M C us us.length)).length := by rw [List.length_map] at h2; exact h2
      have er : rs.getD i 0 = (((rowsIn M (S * C) (tabOf M C us us.length))[i]'hi2 : Nat) : Int) := by
        rw [hrs', List.getD_eq_getElem?_getD, List.getElem?_map, List.getElem?_eq_getElem hi2]
        rfl
      rw [er] at m2 m3
      have hms := membs_are (W := fun r => (Lit.int .i64 r).wf = true) hG (fun n hn => WalkArith.wf_i64 ⟨by omega, by omega⟩) m1 m2
      rw [m3]
      unfold rowX patsIn
      rw [hms, List.map_map, List.map_map]
      rfl

end Go.Proofs.YtpegbgomnpinfaaGreat
