/- Several texts in one: GeoQ, WrkQ. -/
import Derived.Test.YtpegbgomnpinfaaGreatGeoA
import Derived.Test.YtpegbgomnpinfaaGreatMrg1
import Derived.Deep.Slices
import Derived.ChangeArms
import Derived.Test.YtpegbgomnpinfaaGreatMrg20
import Derived.Test.YtpegbgomnpinfaaGreatPlwJ
import Derived.OpenShut
/- A geometry, as an argument brings it. -/
set_option linter.unusedVariables false
namespace Go
open Go.RowKit Go.ChangeShapes Go.WideShapes Go.ChangeAt

theorem agg3_of_trod {H : Type} {enc : TypeId × Value → H} {P : Program} {W : World} {T base : Nat} {v : Value} {d : DataW H} {ps : List MemPlace} {f0 f1 f2 : Field}
    (hT : P.underlying T = some (.struct #[f0, f1, f2])) (ce : P.cellsOf T = 3) (o0 : f0.offset = 0) (o1 : f1.offset = 1) (o2 : f2.offset = 2) (c0 : P.cellsOf f0.type = 1) (c1 : P.cellsOf f1.type = 1) (c2 : P.cellsOf f2.type = 1)
    (t0 : P.underlying f0.type = some (.int .i64)) (t1 : P.underlying f1.type = some (.int .i64)) (t2 : P.underlying f2.type = some (.int .i64))
    (hv : Value.okWide P W .any base T v) (h : DataW.Trod enc P W 0 (fun _ => true) true T v d ps) : ∃ a b c : Int, v = .agg #[.int .i64 a, .int .i64 b, .int .i64 c] := by
  obtain ⟨cs, rfl, hs⟩ := okWide_struct hT hv
  obtain ⟨fuel, hf⟩ := h
  obtain ⟨xs, n, -, -, hlen, hxl, hall⟩ := DataW.trod_struct hT hf
  have hx : xs.length = 3 := hxl
  rw [ce] at hs
  have h0 := hall 0 f0 rfl
  have h1 := hall 1 f1 rfl
  have h2 := hall 2 f2 rfl
  rw [o0, c0, List.getElem?_eq_getElem (by omega)] at h0
  rw [o1, c1, List.getElem?_eq_getElem (by omega)] at h1
  rw [o2, c2, List.getElem?_eq_getElem (by omega)] at h2
  obtain ⟨a, e0, -⟩ := DataW.trod_int t0 h0
  obtain ⟨b, e1, -⟩ := DataW.trod_int t1 h1
  obtain ⟨c, e2, -⟩ := DataW.trod_int t2 h2
  refine ⟨a, b, c, ?_⟩
  obtain ⟨l⟩ := cs
  match l, hs with
  | [x, y, z], _ =>
    simp [Value.cells] at e0 e1 e2
    rw [e0, e1, e2]

end Go
namespace Go.Proofs.YtpegbgomnpinfaaGreat
open Go.RowKit

set_option maxRecDepth 100000 in
theorem geo_of_trod {H : Type} {enc : TypeId × Value → H} {W : World} {base : Nat} {v : Value} {d : DataW H} {ps : List MemPlace}
    (hv : Value.okWide Tryz.prog W .any base 23 v) (h : DataW.Trod enc Tryz.prog W 0 (fun _ => true) true 23 v d ps) : ∃ m c s : Int, v = geo m c s :=
  agg3_of_trod Tryz.underlying23 (by kernel_rfl) rfl rfl rfl (by kernel_rfl) (by kernel_rfl) (by kernel_rfl) Tryz.underlying3 Tryz.underlying3 Tryz.underlying3 hv h

end Go.Proofs.YtpegbgomnpinfaaGreat

/- PlanWorks: the walk, of any input. -/
set_option linter.unusedVariables false
namespace Go.Proofs.YtpegbgomnpinfaaGreat
open Go.RowKit Go.WideShapes Go.ChangeAt

set_option maxRecDepth 100000 in
theorem planWorks_walk {H : Type} (w : World) (enc : TypeId × Value → H)
    (base : Nat) (v : Value) (d : DataW H) (ps : List MemPlace) (hok : Value.okWide Tryz.prog w .any base 23 v) (h : DataW.Trod enc Tryz.prog w 0 (fun _ => true) true 23 v d ps)
    (enc1 : TypeId × Value → H) (base1 : Nat) (v1 : Value) (d1 : DataW H) (ps1 : List MemPlace) (hok1 : Value.okWide Tryz.prog w .any base1 68 v1) (h1 : DataW.Trod enc1 Tryz.prog w 0 (fun _ => true) true 68 v1 d1 ps1)
    (enc2 : TypeId × Value → H) (base2 : Nat) (v2 : Value) (d2 : DataW H) (ps2 : List MemPlace) (hok2 : Value.okWide Tryz.prog w .any base2 69 v2) (h2 : DataW.Trod enc2 Tryz.prog w 0 (fun _ => true) true 69 v2 d2 ps2) (hw2 : ∀ n ∈ d2.weights Tryz.prog 69, n ≤ reachBytes)
    (enc3 : TypeId × Value → H) (base3 : Nat) (v3 : Value) (d3 : DataW H) (ps3 : List MemPlace) (hok3 : Value.okWide Tryz.prog w .any base3 75 v3) (h3 : DataW.Trod enc3 Tryz.prog w 0 (fun _ => true) true 75 v3 d3 ps3) (hw3 : ∀ n ∈ d3.weights Tryz.prog 75, n ≤ reachBytes)
    (enc4 : TypeId × Value → H) (base4 : Nat) (v4 : Value) (d4 : DataW H) (ps4 : List MemPlace) (hok4 : Value.okWide Tryz.prog w .any base4 38 v4) (h4 : DataW.Trod enc4 Tryz.prog w 0 (fun _ => true) true 38 v4 d4 ps4) (hw4 : ∀ n ∈ d4.weights Tryz.prog 38, n ≤ reachBytes)
    (a : Int) (ha : (Lit.int .i64 a).wf = true) :
    Calls Tryz.prog 5 #[v, v1, v2, v3, v4, .int .i64 a] w fun e w' => e = .returned (.bool true) ∧ Below w.heap.size w w' := by
  obtain ⟨m, c, s, rfl⟩ := geo_of_trod hok h
  obtain ⟨l, hl, hlm⟩ := boos_of_trod Tryz.underlying68 Tryz.underlying4 (by kernel_rfl) hok1 h1
  obtain ⟨us, hu⟩ := pats_of_trod hok2 h2 hw2
  obtain ⟨br, bmd, bpar, bvq, bvr, bps, bzl, rfl, hbq, hbz⟩ := plan_of_trod hok3 h3 hw3
  obtain ⟨ls, hs, e1, e2⟩ := segs_of_trod Tryz.underlying38 Tryz.underlying53 Tryz.underlying5 (by kernel_rfl) (by kernel_rfl) (by kernel_rfl) (by decide +kernel) hok4 h4 hw4
  by_cases hm1 : muchIs (us.map (·.d.length)) = true
  · exact works_much m c s a br bmd bpar v1 v2 bvq bvr v4 l us bps bzl ls w hl hu hbq hbz hs e1 e2 (.inl hm1)
  by_cases hm2 : muchIs (bps.map (·.d.length)) = true
  · exact works_much m c s a br bmd bpar v1 v2 bvq bvr v4 l us bps bzl ls w hl hu hbq hbz hs e1 e2 (.inr (.inl hm2))
  by_cases hm3 : muchIs (ls.map List.length) = true
  · exact works_much m c s a br bmd bpar v1 v2 bvq bvr v4 l us bps bzl ls w hl hu hbq hbz hs e1 e2 (.inr (.inr (.inl hm3)))
  by_cases hl1 : 1000 < l.length
  · exact works_much m c s a br bmd bpar v1 v2 bvq bvr v4 l us bps bzl ls w hl hu hbq hbz hs e1 e2 (.inr (.inr (.inr (.inl hl1))))
  by_cases hl2 : 1000 < bzl.length
  · exact works_much m c s a br bmd bpar v1 v2 bvq bvr v4 l us bps bzl ls w hl hu hbq hbz hs e1 e2 (.inr (.inr (.inr (.inr hl2))))
  · exact works_all m c s a br bmd bpar v1 v2 bvq bvr v4 l us bps bzl ls w hl hu hbq hbz hs e1 e2 law13_known (by simpa using hm1) (by simpa using hm2) (by simpa using hm3) (by omega) (by omega)

end Go.Proofs.YtpegbgomnpinfaaGreat
