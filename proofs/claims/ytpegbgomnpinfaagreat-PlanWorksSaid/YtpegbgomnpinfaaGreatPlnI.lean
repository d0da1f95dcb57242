/- The library's comparisons of what is alike; plan.like. -/
import Derived.Test.YtpegbgomnpinfaaGreatPlnF
set_option linter.unusedVariables false
namespace Go.Proofs.YtpegbgomnpinfaaGreat
open Go.RowKit

theorem iseg_of_members {w : World} {B : Nat} {v : Value} {l : List Nat} (h : w.ownsRow B 3 1 v l.length (mcells l)) : ISeg w v l := by
  obtain ⟨a, c, rfl⟩ := ownsRow_shape h
  refine ⟨a, c, rfl, ?_⟩
  by_cases hl : l.length = 0
  · exact .inl (List.eq_nil_of_length_eq_zero hl)
  · obtain ⟨g, cap, hv, hB, hg, hc, -⟩ := ownsRow_cell h (by omega)
    simp only [Value.slice.injEq] at hv
    obtain ⟨rfl, -, rfl⟩ := hv
    exact .inr ⟨g, 0, rfl, hg, fun j hj => by rw [Nat.zero_add, hc j hj, mcells_at l j hj]⟩

theorem Seg.full' {w : World} {a : Option Addr} {n c : Nat} {l : List UInt8} (h : Seg w (.slice a n c) l) (hl : 0 < l.length) : ∃ b o, a = some ⟨b, o, none⟩ ∧ b < w.heap.size ∧ ∀ j (h : j < l.length), w.cell? ⟨b, o + j, none⟩ = some (.int .u8 ((l[j].toNat : Nat) : Int)) := by
  obtain ⟨b, o, c', hv, hb, hx⟩ := Seg.full h hl
  simp only [Value.slice.injEq] at hv
  obtain ⟨rfl, -, rfl⟩ := hv
  exact ⟨b, o, rfl, hb, hx⟩

set_option maxRecDepth 100000 in
set_option maxHeartbeats 1000000 in
theorem equal_bytes (u v : Value) (l : List UInt8) (w : World) (hl : l.length ≤ 140737488355328) (hu : Seg w u l) (hv : Seg w v l) :
    Calls Tryz.prog 148 #[u, v] w fun e w' => e = .returned (.bool true) ∧ Below w.heap.size w w' := by
  obtain ⟨a, c, rfl⟩ := hu.shape
  obtain ⟨b, d, rfl⟩ := hv.shape
  have hne : ((l.length : Int) != (l.length : Int)) = false := by simp
  go_enter Tryz.func148, Tryz.ntmps148
  go_wp2_with fail
  go_loopw [13] (fun i wr => ∃ k : Nat, k ≤ l.length ∧ i = .int .i64 k ∧ Below w.heap.size w wr) (fun i _ => l.length - (intOf i).toNat)
  case atStart => exact ⟨0, Nat.zero_le _, rfl, Below.refl _ _⟩
  case round =>
    obtain ⟨k, hk, rfl, hbw⟩ := hrel
    by_cases hlt : k < l.length
    · obtain ⟨b1, o1, rfl, hb1, h1⟩ := Seg.full' (hu.below hbw) (by omega)
      obtain ⟨b2, o2, rfl, hb2, h2⟩ := Seg.full' (hv.below hbw) (by omega)
      have c1 := h1 k hlt
      have c2 := h2 k hlt
      have K1 : Hid (k + 1 ≤ l.length) := hlt
      clear h1 h2 hu hv
      have hx : (((l[k].toNat : Nat) : Int) != ((l[k].toNat : Nat) : Int)) = false := by simp
      generalize ((l[k].toNat : Nat) : Int) = x at *
      go_wp2
      go_quiet (fail)
      go_wp2
      exact ⟨⟨k + 1, K1.out, by go_num, below_drewN hbw _⟩, by simp [intOf]; omega⟩
    · clear hu hv
      obtain rfl : k = l.length := by omega
      go_wp2
      go_ret
      exact ⟨rfl, hbw⟩

set_option maxRecDepth 100000 in
set_option maxHeartbeats 1000000 in
theorem equal_ints (u v : Value) (l : List Nat) (w : World) (hl : l.length ≤ 140737488355328) (hu : ISeg w u l) (hv : ISeg w v l) :
    Calls Tryz.prog 150 #[u, v] w fun e w' => e = .returned (.bool true) ∧ Below w.heap.size w w' := by
  obtain ⟨a, c, rfl⟩ := hu.shape
  obtain ⟨b, d, rfl⟩ := hv.shape
  have hne : ((l.length : Int) != (l.length : Int)) = false := by simp
  go_enter Tryz.func150, Tryz.ntmps150
  go_wp2_with fail
  go_loopw [13] (fun i wr => ∃ k : Nat, k ≤ l.length ∧ i = .int .i64 k ∧ Below w.heap.size w wr) (fun i _ => l.length - (intOf i).toNat)
  case atStart => exact ⟨0, Nat.zero_le _, rfl, Below.refl _ _⟩
  case round =>
    obtain ⟨k, hk, rfl, hbw⟩ := hrel
    by_cases hlt : k < l.length
    · obtain ⟨b1, o1, rfl, hb1, h1⟩ := ISeg.full (hu.below hbw) (by omega)
      obtain ⟨b2, o2, rfl, hb2, h2⟩ := ISeg.full (hv.below hbw) (by omega)
      have c1 := h1 k hlt
      have c2 := h2 k hlt
      have K1 : Hid (k + 1 ≤ l.length) := hlt
      clear h1 h2 hu hv
      have hx : (((l[k] : Nat) : Int) != ((l[k] : Nat) : Int)) = false := by simp
      generalize ((l[k] : Nat) : Int) = x at *
      go_wp2
      go_quiet (fail)
      go_wp2
      exact ⟨⟨k + 1, K1.out, by go_num, below_drewN hbw _⟩, by simp [intOf]; omega⟩
    · clear hu hv
      obtain rfl : k = l.length := by omega
      go_wp2
      go_ret
      exact ⟨rfl, hbw⟩

set_option maxRecDepth 100000 in
set_option maxHeartbeats 1000000 in
theorem like1_ok (x y : Int) (u u' : Value) (l : List UInt8) (w : World) (hl : l.length ≤ 140737488355328) (hu : Seg w u l) (hv : Seg w u' l) :
    Calls Tryz.prog 147 #[.agg #[.int .i64 x, .int .i64 y, u], .agg #[.int .i64 x, .int .i64 y, u']] w fun e w' => e = .returned (.bool true) ∧ Below w.heap.size w w' := by
  obtain ⟨a, c, rfl⟩ := hu.shape
  obtain ⟨b, d, rfl⟩ := hv.shape
  have hb0 : Below w.heap.size w ((w.alloc (.cells #[.int .i64 x, .int .i64 y, .slice a l.length c] 153)).alloc (.cells #[.int .i64 x, .int .i64 y, .slice b l.length d] 153)) := ((Below.refl _ _).alloc (Nat.le_refl _) _).alloc (by rw [size_alloc]; omega) _
  have heq := Lib.hid (equal_bytes _ _ l _ hl (hu.below hb0) (hv.below hb0))
  clear hu hv
  go_enter Tryz.func147, Tryz.ntmps147
  go_wp2_with (go_at_call 148; (with_reducible refine heq.out.mono ?_); rintro e w1 ⟨rfl, hb1⟩)
  go_ret
  exact ⟨rfl, below_then hb0 hb1⟩

set_option maxRecDepth 100000 in
set_option maxHeartbeats 2000000 in
theorem equal_pats (u v : Value) (ps : List Pat) (w : World) (hu : PSeg w u ps) (hv : PSeg w v ps) :
    Calls Tryz.prog 149 #[u, v, .func (.func 147) #[] #[]] w fun e w' => e = .returned (.bool true) ∧ Below w.heap.size w w' := by
  obtain ⟨a, c, rfl⟩ := hu.shape
  obtain ⟨b, d, rfl⟩ := hv.shape
  have hfew := hu.few
  have hdl : Hid (∀ p ∈ ps, p.d.length ≤ 140737488355000) := by obtain ⟨_, _, _, _, h, _⟩ := hu; exact h
  have hne : ((ps.length : Int) != (ps.length : Int)) = false := by simp
  go_enter Tryz.func149, Tryz.ntmps149
  go_wp2
  go_loopw [17] (fun i wr => ∃ k : Nat, k ≤ ps.length ∧ i = .int .i64 k ∧ Below w.heap.size w wr) (fun i _ => ps.length - (intOf i).toNat)
  case atStart => exact ⟨0, Nat.zero_le _, rfl, Below.refl _ _⟩
  case round =>
    obtain ⟨k, hk, rfl, hbw⟩ := hrel
    by_cases hlt : k < ps.length
    · obtain ⟨b1, o1, rfl, hb1, h1⟩ := PSeg.full (hu.below hbw) (by omega)
      obtain ⟨b2, o2, rfl, hb2, h2⟩ := PSeg.full (hv.below hbw) (by omega)
      obtain ⟨p0, p1, x, p2, hx⟩ : PatAt wr b1 (o1 + k * 3) (ps.getD k pat0) := by rw [getD_of ps k hlt]; exact h1 k hlt
      obtain ⟨q0, q1, y, q2, hy⟩ : PatAt wr b2 (o2 + k * 3) (ps.getD k pat0) := by rw [getD_of ps k hlt]; exact h2 k hlt
      have hdk : (ps.getD k pat0).d.length ≤ 140737488355000 := by rw [getD_of ps k hlt]; exact hdl.out _ (List.getElem_mem hlt)
      obtain ⟨xa, xc, rfl⟩ := hx.shape
      obtain ⟨ya, yc, rfl⟩ := hy.shape
      have K1 : Hid (k + 1 ≤ ps.length) := hlt
      have hlk := Lib.hid (fun (W : World) (hW : Below wr.heap.size wr W) => like1_ok (ps.getD k pat0).m (ps.getD k pat0).r _ _ (ps.getD k pat0).d W (by omega) (hx.below hW) (hy.below hW))
      clear h1 h2 hu hv hx hy
      generalize (ps.getD k pat0).d.length = dn at *
      generalize (ps.getD k pat0).m = pm at *
      generalize (ps.getD k pat0).r = pr at *
      have hb2 : Hid (Below wr.heap.size wr ((wr.alloc (.cells #[.int .i64 pm, .int .i64 pr, .slice xa dn xc] 153)).alloc (.cells #[.int .i64 pm, .int .i64 pr, .slice ya dn yc] 153))) := ((Below.refl _ _).alloc (Nat.le_refl _) _).alloc (by rw [size_alloc]; omega) _
      go_wp2_with (go_at_call 147; (with_reducible refine (hlk.out _ hb2.out).mono ?_); rintro e w1 ⟨rfl, hb1⟩)
      exact ⟨⟨k + 1, K1.out, by go_num, below_then hbw (below_then hb2.out hb1)⟩, by simp [intOf]; omega⟩
    · clear hu hv
      obtain rfl : k = ps.length := by omega
      go_wp2
      go_ret
      exact ⟨rfl, hbw⟩

def planVal (r : Int) (md : Int) (par : Int) (vq vr : Value) : Value := .agg #[.int .i64 r, .int .u8 md, .int .i64 par, vq, vr]

set_option maxRecDepth 100000 in
set_option maxHeartbeats 2000000 in
theorem plan_like (r md par : Int) (vq vr vq' vr' : Value) (ps : List Pat) (l : List Nat) (w : World) (hl : l.length ≤ 1000000) (h1 : PSeg w vq ps) (h2 : ISeg w vr l) (h3 : PSeg w vq' ps) (h4 : ISeg w vr' l) :
    Calls Tryz.prog 102 #[planVal r md par vq vr, planVal r md par vq' vr'] w fun e w' => e = .returned (.bool true) ∧ Below w.heap.size w w' := by
  obtain ⟨qa, qc, rfl⟩ := h1.shape
  obtain ⟨ra, rc, rfl⟩ := h2.shape
  obtain ⟨qa', qc', rfl⟩ := h3.shape
  obtain ⟨ra', rc', rfl⟩ := h4.shape
  have hpf := h1.few
  have hb0 : Below w.heap.size w ((w.alloc (.cells #[.int .i64 r, .int .u8 md, .int .i64 par, .slice qa ps.length qc, .slice ra l.length rc] 75)).alloc (.cells #[.int .i64 r, .int .u8 md, .int .i64 par, .slice qa' ps.length qc', .slice ra' l.length rc'] 75)) := ((Below.refl _ _).alloc (Nat.le_refl _) _).alloc (by rw [size_alloc]; omega) _
  have he := Lib.hid (equal_pats _ _ ps _ (h1.below hb0) (h3.below hb0))
  have hi := Lib.hid (fun (W : World) (hW : Below _ _ W) => equal_ints _ _ l W (by omega) ((h2.below hb0).below hW) ((h4.below hb0).below hW))
  have hA : At ((w.alloc (.cells #[.int .i64 r, .int .u8 md, .int .i64 par, .slice qa ps.length qc, .slice ra l.length rc] 75)).alloc (.cells #[.int .i64 r, .int .u8 md, .int .i64 par, .slice qa' ps.length qc', .slice ra' l.length rc'] 75)) w.heap.size #[.int .i64 r, .int .u8 md, .int .i64 par, .slice qa ps.length qc, .slice ra l.length rc] 75 := (At.new _ _ _).alloc _
  have hB : At ((w.alloc (.cells #[.int .i64 r, .int .u8 md, .int .i64 par, .slice qa ps.length qc, .slice ra l.length rc] 75)).alloc (.cells #[.int .i64 r, .int .u8 md, .int .i64 par, .slice qa' ps.length qc', .slice ra' l.length rc'] 75)) (w.heap.size + 1) #[.int .i64 r, .int .u8 md, .int .i64 par, .slice qa' ps.length qc', .slice ra' l.length rc'] 75 := At.new2 _ _ _ _
  have HA := Lib.hid hA
  have HB := Lib.hid hB
  clear h1 h2 h3 h4 hA hB
  unfold planVal
  go_enter Tryz.func102, Tryz.ntmps102
  go_wp2_with (first
    | (go_at_call 149; (with_reducible refine he.out.mono ?_); rintro e w1 ⟨rfl, hb1⟩; have a4 := (HA.out.below hb1 HA.out.lt).cell 4; have b4 := (HB.out.below hb1 HB.out.lt).cell 4)
    | (go_at_call 150; (with_reducible refine (hi.out w1 hb1).mono ?_); rintro e w2 ⟨rfl, hb2⟩))
  go_ret
  exact ⟨rfl, below_then hb0 (below_then hb1 hb2)⟩

end Go.Proofs.YtpegbgomnpinfaaGreat
