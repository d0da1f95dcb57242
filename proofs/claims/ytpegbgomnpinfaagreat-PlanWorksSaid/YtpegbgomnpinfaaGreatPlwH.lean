/- The plan laws' 'known' tells true. -/
import Derived.Test.YtpegbgomnpinfaaGreatPlwG
import Derived.Deep.Cut
import Derived.Deep.CutRange
set_option linter.unusedVariables false
namespace Go.Proofs.YtpegbgomnpinfaaGreat
open Go.RowKit

section
variable {P : Program}
/-- 'make([]T, n)', its run. -/
theorem run_make_same (w : World) (t e : TypeId) (sz bytes : Nat) (hT : SliceOf P t e sz bytes) (u : Value) (hz : ((P.info? e).bind (·.zero)).map (·.cells) = some (List.replicate sz u).toArray)
    (kl kc : IntKind) (n : Nat) (b2 : bytes * n ≤ 281474976710656) (b3 : n ≤ maxLen) :
    ∃ w', (Instr.makeSlice t (.int kl (n : Int)) (.int kc (n : Int))).run P w = .ok (.slice (some ⟨w.heap.size, 0, none⟩) n n) w' ∧ At w' w.heap.size (List.replicate (n * sz) u).toArray e ∧ Below w.heap.size w w' := by
  obtain ⟨h1, h0, i, z', h2, h3, h4, h5, h6⟩ := hT
  have hcells : z'.cells = (List.replicate sz u).toArray := by
    rw [h2] at hz
    simpa [h3] using hz
  obtain ⟨w', hrun, hown, hgr⟩ := run_make_full (P := P) w w.heap.size t e i z' sz h1 h2 h3 h4 kl kc n (by rw [h5]; exact b2) b3 (Nat.le_refl _)
  refine ⟨w', hrun, ?_, ?_⟩
  · obtain ⟨hlen, hh⟩ := hown
    rcases hh with ⟨hh, _⟩ | ⟨g', cap, cur, hv, hb, hg', hc', _, hs, ht⟩
    · cases hh
    · simp only [Value.slice.injEq, Option.some.injEq, Addr.mk.injEq] at hv
      obtain ⟨⟨rfl, _, _⟩, _, rfl⟩ := hv
      have e1 : cur.toList = List.replicate (n * sz) u := by
        rw [List.take_of_length_le (by simp [hs])] at ht
        rw [ht]
        apply List.ext_getElem?
        intro j
        rw [List.getElem?_replicate, hcells]
        by_cases hj : j < n * sz
        · have hm : j % sz < sz := Nat.mod_lt _ h0
          simp [madeCells, hj, hm]
        · simp [madeCells, hj]
      rw [← e1, Array.toArray_toList]
      exact hg'
  · exact (Below.refl _ _).grown hgr (Nat.le_refl _) (fun k hk => by simp at hk)
end

abbrev cg425 : Array Value := #[.int .i64 4, .int .i64 2, .int .i64 5]
def ps1 : List Pat := [⟨0, 0, secOf 1⟩]

theorem pseg_new (W : World) (m r : Int) (v : Value) (d : List UInt8) (hv : Seg W v d) (hd : d.length ≤ 140737488355000) : PSeg (W.alloc (.cells #[.int .i64 m, .int .i64 r, v] 153)) (.slice (some ⟨W.heap.size, 0, none⟩) 1 1) [⟨m, r, d⟩] := by
  refine ⟨_, 1, rfl, by simp, fun p hp => ?_, .inr ⟨W.heap.size, 0, rfl, by rw [size_alloc]; omega, fun j hj => ?_⟩⟩
  · simp only [List.mem_singleton] at hp
    subst hp
    exact hd
  · obtain rfl : j = 0 := by simpa using hj
    have hA := At.new W #[.int .i64 m, .int .i64 r, v] 153
    exact ⟨hA.cell 0, hA.cell 1, v, hA.cell 2, hv.below ((Below.refl _ _).alloc (Nat.le_refl _) _)⟩

theorem ps1_ok (k : Nat) : PlanOk 4 2 5 (goneAt k) ps1 0 := by
  refine ⟨by decide, by decide, by decide, fun p hp => ?_, fun p hp => ?_, fun p hp => ?_, fun p hp => ?_, fun i j hi hj hij => ?_, fun p hp => ?_, gone_lone _ _⟩
  all_goals try (unfold ps1 at hp; simp only [List.mem_singleton] at hp; subst hp)
  · rfl
  · exact Int.le_refl _
  · show (0 : Int) < ((4 : Nat) : Int); decide
  · show (0 : Int) ≠ ((parOf 4 2 0 : Nat) : Int); decide
  · unfold ps1 at hi hj
    simp at hi hj
    omega
  · exact secOf_length 1

def us4 : List (Int × List UInt8) := [(2, secOf 1), (0, secOf 2), (1, secOf 3), (0, secOf 4)]
theorem us4_ok : BatchOk 4 2 5 us4 := by
  refine ⟨by decide, by decide, fun u hu => ?_, fun u hu => ?_⟩
  all_goals unfold us4 at hu; simp only [List.mem_cons, List.not_mem_nil, or_false] at hu
  · unfold thereIs
    rcases hu with rfl | rfl | rfl | rfl <;> decide
  · rcases hu with rfl | rfl | rfl | rfl <;> exact secOf_length _
theorem us4_most : mostIn 4 (5 * 2) (tabAll 4 2 us4) = 5 := by decide +kernel

theorem putseg_new (W : World) (b1 b2 b3 b4 : Int) (v1 v2 v3 v4 : Value) (d1 d2 d3 d4 : List UInt8) (h1 : Seg W v1 d1) (h2 : Seg W v2 d2) (h3 : Seg W v3 d3) (h4 : Seg W v4 d4) (l1 : d1.length = 128) (l2 : d2.length = 128) (l3 : d3.length = 128) (l4 : d4.length = 128) :
    PutSeg (W.alloc (.cells #[.int .i64 b1, v1, .int .i64 b2, v2, .int .i64 b3, v3, .int .i64 b4, v4] 171)) (.slice (some ⟨W.heap.size, 0, none⟩) 4 4) [(b1, d1), (b2, d2), (b3, d3), (b4, d4)] := by
  have hb : Below W.heap.size W (W.alloc (.cells #[.int .i64 b1, v1, .int .i64 b2, v2, .int .i64 b3, v3, .int .i64 b4, v4] 171)) := (Below.refl _ _).alloc (Nat.le_refl _) _
  have hA := At.new W #[.int .i64 b1, v1, .int .i64 b2, v2, .int .i64 b3, v3, .int .i64 b4, v4] 171
  refine ⟨_, 4, rfl, by simp, fun u hu => ?_, .inr ⟨W.heap.size, 0, rfl, by rw [size_alloc]; omega, fun j hj => ?_⟩⟩
  · simp only [List.mem_cons, List.not_mem_nil, or_false] at hu
    rcases hu with rfl | rfl | rfl | rfl
    · show d1.length ≤ _; omega
    · show d2.length ≤ _; omega
    · show d3.length ≤ _; omega
    · show d4.length ≤ _; omega
  · match j, hj with
    | 0, _ => exact ⟨hA.cell 0, v1, hA.cell 1, h1.below hb⟩
    | 1, _ => exact ⟨hA.cell 2, v2, hA.cell 3, h2.below hb⟩
    | 2, _ => exact ⟨hA.cell 4, v3, hA.cell 5, h3.below hb⟩
    | 3, _ => exact ⟨hA.cell 6, v4, hA.cell 7, h4.below hb⟩
    | j + 4, h => simp at h; omega

def ls4 : List (List UInt8) := [[], secOf 2, secOf 4, []]
theorem segs_new (W : World) (v2 v4 : Value) (h2 : Seg W v2 (secOf 2)) (h4 : Seg W v4 (secOf 4)) : Segs (W.alloc (.cells #[.slice none 0 0, v2, v4, .slice none 0 0] 53)) (.slice (some ⟨W.heap.size, 0, none⟩) 4 4) ls4 := by
  have hb : Below W.heap.size W (W.alloc (.cells #[.slice none 0 0, v2, v4, .slice none 0 0] 53)) := (Below.refl _ _).alloc (Nat.le_refl _) _
  have hA := At.new W #[.slice none 0 0, v2, v4, .slice none 0 0] 53
  refine ⟨_, 4, rfl, Nat.le_refl _, .inr ⟨W.heap.size, 0, rfl, by rw [size_alloc]; omega, fun j hj => ?_⟩⟩
  match j, hj with
  | 0, _ => exact ⟨_, hA.cell 0, Seg.nil _⟩
  | 1, _ => exact ⟨_, hA.cell 1, h2.below hb⟩
  | 2, _ => exact ⟨_, hA.cell 2, h4.below hb⟩
  | 3, _ => exact ⟨_, hA.cell 3, Seg.nil _⟩
  | j + 4, h => simp [ls4] at h; omega

theorem sec_at (x : UInt8) (i : Nat) (h : i < 128) : (secOf x).getD i 0 = x := sumL_at _ _ _ h
theorem work4_new : sumL (xorUp (addsOf [1, 2] ls4 ps1) (2 + 1)) 128 = secOf 7 := by
  refine sumL_congr fun i hi => ?_
  show ((0 ^^^ (secOf 2).getD i 0) ^^^ (secOf 4).getD i 0) ^^^ (secOf 1).getD i 0 = 7
  rw [sec_at _ _ hi, sec_at _ _ hi, sec_at _ _ hi]
  decide

theorem of4 (k : Nat) (md : Nat) (rd : List Nat) (hmd : modeOf 4 ps1 (parOf 4 2 0) (if k < 4 then (k : Int) else -1) = md) (hrd : readsOf ps1 (parOf 4 2 0) 4 md = rd) (W : World) (vd vp : Value) (h1 : BSeg W vd (goneAt k) 4) (h2 : PSeg W vp ps1) :
    Calls Tryz.prog 22 #[.agg #[.int .i64 4, .int .i64 2, .int .i64 5], vd, vp] W fun e w' => ∃ vq vr, e = .returned (.tuple #[.agg #[.int .i64 0, .int .u8 md, .int .i64 3, vq, vr], .int .u16 0]) ∧ (∃ dv, PRow w' 0 vq ps1 1 dv) ∧ w'.ownsRow 0 3 1 vr rd.length (mcells rd) ∧ Below W.heap.size W w' :=
  (plan_Of 4 2 5 0 vd vp (goneAt k) ps1 W (ps1_ok k) h1 h2 _ (gone_at_is k 4)).mono fun e w' ⟨vq, vr, dv, e1, e2, e3, e4⟩ => by
    rw [hmd] at e1 e3
    rw [hrd] at e3
    exact ⟨vq, vr, e1, ⟨dv, e2.lower (Nat.zero_le _)⟩, rebase_row e3 (Nat.zero_le _), e4⟩

theorem work4 (W : World) (vd vq vr vrd : Value) (h1 : BSeg W vd (goneAt 0) 4) (h2 : PSeg W vq ps1) (h3 : ISeg W vr [1, 2]) (h4 : Segs W vrd ls4) :
    Calls Tryz.prog 33 #[.agg #[.int .i64 4, .int .i64 2, .int .i64 5], vd, .agg #[.int .i64 0, .int .u8 3, .int .i64 3, vq, vr], vrd] W fun e w' => ∃ v, e = .returned (.tuple #[v, .int .u16 0]) ∧ PSeg w' v [⟨3, 0, secOf 7⟩] ∧ Below W.heap.size W w' := by
  have hmd : modeOf 4 ps1 (parOf 4 2 0) (if 0 < 4 then ((0 : Nat) : Int) else -1) = 3 := by decide
  have hrd : readsOf ps1 (parOf 4 2 0) 4 3 = [1, 2] := by decide
  have h := plan_Work 4 2 5 0 vd vq vr vrd (goneAt 0) ps1 ls4 W (ps1_ok 0) _ (gone_at_is 0 4) h1 h2 (by rw [hmd, hrd]; exact h3) h4 rfl (fun m hm => by
    rw [hmd, hrd] at hm
    simp only [List.mem_cons, List.not_mem_nil, or_false] at hm
    rcases hm with rfl | rfl
    · exact ⟨by omega, secOf_length 2⟩
    · exact ⟨by omega, secOf_length 4⟩)
  rw [hmd, hrd] at h
  refine h.mono fun e w' ⟨v, X, e1, e2, e3, e4⟩ => ⟨v, e1, ?_, e4⟩
  have ho : outPats (goneAt 0) ps1 (parOf 4 2 0) 0 (sumL (xorUp (addsOf [1, 2] ls4 ps1) ([1, 2].length + ps1.length)) 128) = [⟨3, 0, secOf 7⟩] := by
    rw [show ([1, 2] : List Nat).length + ps1.length = 2 + 1 from rfl, work4_new]
    rfl
  rw [ho] at e3
  have hx := List.perm_singleton.1 e3
  have hl : X.length = 1 := by
    have := congrArg List.length hx
    simpa using this
  have := e2.pseg (by omega)
  rw [hx] at this
  exact this

end Go.Proofs.YtpegbgomnpinfaaGreat
