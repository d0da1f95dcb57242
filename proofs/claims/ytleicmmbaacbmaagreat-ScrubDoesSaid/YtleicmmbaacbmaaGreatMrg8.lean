/- Several texts in one: BayJ, RfBd. -/
import Derived.Test.YtleicmmbaacbmaaGreatBayI
import Derived.Test.YtleicmmbaacbmaaGreatRfBc
/- A bay of disks: Crash of a disk, Cut. -/
set_option linter.unusedVariables false
namespace Go.Proofs.YtleicmmbaacbmaaGreat
open Go.RowKit

/-- A row of bools, in a block of tag 0. -/
def Bits (w : World) (T : Nat → Nat) (v : Value) (l : List Bool) : Prop :=
  ∃ a c, v = .slice a l.length c ∧ l.length ≤ 1000000000 ∧ (l = [] ∨ ∃ b o, a = some ⟨b, o, none⟩ ∧ b < w.heap.size ∧ T b = 0 ∧ ∀ j (h : j < l.length), w.cell? ⟨b, o + j, none⟩ = some (.bool l[j]))
def Bitss (w : World) (T : Nat → Nat) (v : Value) (ls : List (List Bool)) : Prop :=
  ∃ a c, v = .slice a ls.length c ∧ ls.length ≤ 1000000000 ∧ (ls = [] ∨ ∃ b o, a = some ⟨b, o, none⟩ ∧ b < w.heap.size ∧ T b = 0 ∧ ∀ j (h : j < ls.length), ∃ u, w.cell? ⟨b, o + j, none⟩ = some u ∧ Bits w T u ls[j])

theorem Bits.keep {S : Nat → Prop} {w w' : World} {T : Nat → Nat} {v : Value} {l : List Bool} (h : Bits w T v l) (hc : Chg S w w') (hS : ∀ k, S k → T k ≠ 0) : Bits w' T v l := by
  obtain ⟨a, c, h1, h2, h3⟩ := h
  refine ⟨a, c, h1, h2, ?_⟩
  rcases h3 with h3 | ⟨b, o, h3, h4, h5, h6⟩
  · exact .inl h3
  · exact .inr ⟨b, o, h3, Nat.lt_of_lt_of_le h4 hc.size, h5, fun j hj => (hc.cell (p := ⟨b, o + j, none⟩) h4 (fun hs => hS b hs h5)).trans (h6 j hj)⟩
theorem Bitss.keep {S : Nat → Prop} {w w' : World} {T : Nat → Nat} {v : Value} {l : List (List Bool)} (h : Bitss w T v l) (hc : Chg S w w') (hS : ∀ k, S k → T k ≠ 0) : Bitss w' T v l := by
  obtain ⟨a, c, h1, h2, h3⟩ := h
  refine ⟨a, c, h1, h2, ?_⟩
  rcases h3 with h3 | ⟨b, o, h3, h4, h5, h6⟩
  · exact .inl h3
  · refine .inr ⟨b, o, h3, Nat.lt_of_lt_of_le h4 hc.size, h5, fun j hj => ?_⟩
    obtain ⟨u, q1, q2⟩ := h6 j hj
    exact ⟨u, (hc.cell (p := ⟨b, o + j, none⟩) h4 (fun hs => hS b hs h5)).trans q1, q2.keep hc hS⟩
theorem Bits.nil (w : World) (T : Nat → Nat) : Bits w T (.slice none 0 0) [] := ⟨none, 0, rfl, by simp, .inl rfl⟩
theorem Bitss.nil (w : World) (T : Nat → Nat) : Bitss w T (.slice none 0 0) [] := ⟨none, 0, rfl, by simp, .inl rfl⟩
theorem Bits.shape {w : World} {T : Nat → Nat} {v : Value} {l : List Bool} (h : Bits w T v l) : ∃ a c, v = .slice a l.length c := by
  obtain ⟨a, c, h1, _⟩ := h
  exact ⟨a, c, h1⟩
theorem Bitss.shape {w : World} {T : Nat → Nat} {v : Value} {l : List (List Bool)} (h : Bitss w T v l) : ∃ a c, v = .slice a l.length c := by
  obtain ⟨a, c, h1, _⟩ := h
  exact ⟨a, c, h1⟩

set_option maxRecDepth 100000 in
set_option maxHeartbeats 1000000 in
theorem crash_keep (T : Nat → Nat) (kb i : Nat) (v : Value) (l : List Bool) (w : World) (hk : At w kb #[v] 103) (hb : Bits w T v l) (hi : i ≤ 1000000) :
    Calls Tryz.prog 77 #[.int .i64 i, .pointer (some ⟨kb, 0, none⟩)] w fun e w' => e = .returned (.bool (l.getD i false)) ∧ Below w.heap.size w w' := by
  obtain ⟨a, c, rfl, hn, h3⟩ := hb
  have c0 : w.cell? ⟨kb, 0, none⟩ = some (.slice a l.length c) := hk.cell 0
  clear hk
  by_cases h : i < l.length
  · rcases h3 with h3 | ⟨b, o, rfl, h4, h5, h6⟩
    · rw [h3] at h; simp at h
    · have c1 := h6 i h
      have e : l.getD i false = l[i] := by rw [List.getD_eq_getElem?_getD, List.getElem?_eq_getElem h]; rfl
      rw [e]
      clear h6 h5 e
      generalize l[i] = x at *
      generalize l.length = n at *
      go_enter Tryz.func77, Tryz.ntmps77
      go_wp2
      go_ret
      exact ⟨rfl, Below.refl _ _⟩
  · have e : l.getD i false = false := by rw [List.getD_eq_getElem?_getD, List.getElem?_eq_none (by omega)]; rfl
    rw [e]
    clear h3 e
    generalize l.length = n at *
    go_enter Tryz.func77, Tryz.ntmps77
    go_wp2
    go_ret
    exact ⟨rfl, Below.refl _ _⟩

def Dsk.crash (d : Dsk) (l : List Bool) : Dsk := ⟨settleTo d.last d.cache (fun i => l.getD i false) d.cache.length, [], d.failed⟩

set_option maxRecDepth 100000 in
set_option maxHeartbeats 2000000 in
theorem disk_crash (T : Nat → Nat) (t p : Nat) (d : Dsk) (v : Value) (l : List Bool) (w : World) (h : DiskAt w T t p d) (ht : 2 ≤ t) (hv : ∀ k, w.heap.size ≤ k → T k = 0) (hm : d.cache.length ≤ 1000000) (hb : Bits w T v l) :
    Calls Tryz.prog 39 #[.pointer (some ⟨p, 0, none⟩), v] w fun e w' => e = .returned (.tuple #[]) ∧ DiskAt w' T t p (d.crash l) ∧ Chg (fun k => T k = t) w w' := by
  have h0 : Chg (fun k => T k = t) w (w.alloc (.cells #[v] 103)) := (Chg.refl _ _).alloc _
  have hA : At (w.alloc (.cells #[v] 103)) w.heap.size #[v] 103 := At.new _ _ _
  have hd1 : DiskAt (w.alloc (.cells #[v] 103)) T t p d := h.keep (S := fun _ => False) ((Chg.refl _ _).alloc _) (fun _ _ h => h)
  have hb1 : Bits (w.alloc (.cells #[v] 103)) T v l := hb.keep h0 (fun k hk => by omega)
  have hs := Lib.hid (disk_settle_crash T t p d w.heap.size (fun i => l.getD i false) _ hd1 hm (fun i W hi hc => crash_keep T w.heap.size i v l W (hA.mod hc (by rw [hv _ (Nat.le_refl _)]; omega)) (hb1.keep hc (fun k hk => by omega)) (by omega)))
  obtain ⟨va, vc, rfl⟩ := hb.shape
  clear h hA hd1 hb1 hb
  go_enter Tryz.func39, Tryz.ntmps39
  go_wp2_with (go_at_call 76; refine hs.out.mono ?_; rintro e w1 ⟨rfl, r1, r2⟩)
  go_end0
  exact ⟨rfl, r1, h0.trans r2⟩

end Go.Proofs.YtleicmmbaacbmaaGreat

/- The document's disk: Flush, Crash that keeps nothing. -/
set_option linter.unusedVariables false
namespace Go.Proofs.YtleicmmbaacbmaaGreat
open Go.RowKit

theorem settle_step (last : List Sec) (c : List (Nat × Sec)) (keep : Nat → Bool) {i : Nat} (x : Nat × Sec) (h : c[i]? = some x) (hk : keep i = true) : settleTo last c keep (i + 1) = (settleTo last c keep i).set x.1 x.2 := by
  have e : settleTo last c keep (i + 1) = match c[i]? with
    | some x => if keep i then (settleTo last c keep i).set x.1 x.2 else settleTo last c keep i
    | none => settleTo last c keep i := rfl
  rw [e, h]
  show (if keep i then (settleTo last c keep i).set x.1 x.2 else settleTo last c keep i) = _
  rw [hk, if_pos rfl]

/-- The cache is emptied. -/
theorem RDiskIn.emptied {w w1 : World} {D D' : Nat → Prop} {p : Nat} {d : Dsk} {last : List Sec} {lv cv : Value} {L : List WV} (h : RDiskIn w1 D' p ⟨last, d.cache, d.failed⟩ lv cv L) (hp : D p) (h1 : ∀ q, D' q → D q ∨ w.heap.size ≤ q) (h2 : Chg (fun q => q = p) w w1) :
    RDPost w D p ⟨last, [], d.failed⟩ (w1.setCell ⟨p, 1, none⟩ (.slice none 0 0)) := by
  have hc : Chg (fun q => q = p) w1 (w1.setCell ⟨p, 1, none⟩ (.slice none 0 0)) := Chg.setCell (S := fun q => q = p) (Chg.refl _ _) ⟨p, 1, none⟩ (.inl rfl) _
  refine ⟨D', ⟨lv, .slice none 0 0, [], ?_⟩, h1, (h2.trans hc).mono fun q hq => hq ▸ hp⟩
  exact ⟨h.dsk.set 1 (.slice none 0 0), ownsRow_chg h.last hc (fun g hg e => at_ne_row h.dsk h.last (by decide) (e ▸ hg)), World.ownsRow_nil _ _ _ _, rfl, (fun x hx => by simp at hx), h.inP, h.inL, (fun g hg => by simp [Value.ownBlock] at hg), (fun x hx => by simp at hx), fun g hg => Nat.lt_of_lt_of_le (h.lt g hg) hc.size, h.len, (fun x hx => by simp at hx), (fun x hx => by simp at hx), h.few, h.some'⟩

set_option maxRecDepth 100000 in
set_option maxHeartbeats 4000000 in
theorem rdisk_crash {w : World} {D : Nat → Prop} {p : Nat} {d : Dsk} (h : RDisk w D p d) :
    Calls Tryz.prog 40 #[.pointer (some ⟨p, 0, none⟩), .slice none 0 0] w fun e w' => e = .returned (.tuple #[]) ∧ RDPost w D p (d.crash []) w' := by
  have e : d.crash [] = ⟨d.last, [], d.failed⟩ := by
    unfold Dsk.crash
    have : (fun i => ([] : List Bool).getD i false) = fun _ => false := by funext i; simp
    rw [this, settleTo_none]
  rw [e]
  obtain ⟨lv, cv, L, h⟩ := h
  have c1 : w.cell? ⟨p, 1, none⟩ = some cv := h.dsk.cell 1
  have f1 := h.dsk.free 1
  have hlb := ownsRow_few h.cache
  have HI := Lib.hid h
  obtain ⟨ca, cc, rfl⟩ := ownsRow_shape h.cache
  clear h e
  go_enter Tryz.func40, Tryz.ntmps40
  go_wp2
  go_loopw [4] (fun q wx => ∃ k : Nat, k ≤ L.length ∧ q = .int .i64 k ∧ wx = w) (fun q _ => L.length - (intOf q).toNat)
  case atStart => exact ⟨0, by omega, rfl, rfl⟩
  case round =>
    obtain ⟨k, hk, rfl, rfl⟩ := hrel
    by_cases hk2 : k < L.length
    · go_wp2
      go_roundw
      case rel => exact ⟨k + 1, by omega, by go_num, (by trivial)⟩
      case measure => simp [intOf]; omega
    · obtain rfl : L.length = k := by omega
      go_wp2
      go_end0
      exact ⟨rfl, HI.out.emptied HI.out.inP (fun q hq => .inl hq) (Chg.refl _ _)⟩

set_option maxRecDepth 100000 in
set_option maxHeartbeats 4000000 in
theorem rdisk_flush {w : World} {D : Nat → Prop} {p : Nat} {d : Dsk} (h : RDisk w D p d) :
    Calls Tryz.prog 100 #[.pointer (some ⟨p, 0, none⟩)] w fun e w' => e = .returned (.int .i64 ((d.flush.1 : Nat) : Int)) ∧ RDPost w D p d.flush.2 w' := by
  have hsame : Hid (RDPost w D p d w) := ⟨D, h, fun q hq => .inl hq, Chg.refl _ _⟩
  obtain ⟨lv, cv, L, h⟩ := h
  have c1 : w.cell? ⟨p, 1, none⟩ = some cv := h.dsk.cell 1
  have c2 : w.cell? ⟨p, 2, none⟩ = some (.bool d.failed) := h.dsk.cell 2
  have HI := Lib.hid h
  have hlb := ownsRow_few h.cache
  obtain ⟨ca, cc, rfl⟩ := ownsRow_shape h.cache
  clear h
  cases hf : d.failed
  · have hr : d.flush = (0, d.settled) := by unfold Dsk.flush; rw [hf, if_neg (by simp)]
    rw [hr, show d.settled = ⟨settleTo d.last d.cache (fun _ => true) L.length, [], d.failed⟩ by unfold Dsk.settled; rw [HI.out.eq, wvs_length]]
    rw [hf] at c2
    have HF := Lib.hid hf
    clear hr c1 hf
    go_enter Tryz.func100, Tryz.ntmps100
    go_wp2
    clear c2
    go_loopw [3] (fun q wx => ∃ (k : Nat) (D' : Nat → Prop) (lv' : Value), k ≤ L.length ∧ q = .int .i64 k ∧ RDiskIn wx D' p ⟨settleTo d.last d.cache (fun _ => true) k, d.cache, d.failed⟩ lv' (.slice ca L.length cc) L ∧ (∀ q, D' q → D q ∨ w.heap.size ≤ q) ∧ Chg (fun q => q = p) w wx) (fun q _ => L.length - (intOf q).toNat)
    case atStart => exact ⟨0, D, lv, by omega, rfl, HI.out, fun q hq => .inl hq, Chg.refl _ _⟩
    case round =>
      obtain ⟨k, D', lv', hk, rfl, hin, hD, hch⟩ := hrel
      have c1 : wr.cell? ⟨p, 1, none⟩ = some (.slice ca L.length cc) := hin.dsk.cell 1
      have f1 := hin.dsk.free 1
      have HK := Lib.hid hin
      have HD := Lib.hid hD
      have HCH := Lib.hid hch
      by_cases hk2 : k < L.length
      · have K1 : Hid (k + 1 ≤ L.length) := hk2
        obtain ⟨gc, cc', hve, -, -⟩ := ownsRow_full hin.cache (by omega)
        simp only [Value.slice.injEq, true_and] at hve
        obtain ⟨rfl, rfl⟩ := hve
        have e1 := (hin.cache.cellAt (k * 2) (by omega)).trans (rwcells_at L k hk2).1
        have e2 := (hin.cache.cellAt (k * 2 + 1) (by omega)).trans (rwcells_at L k hk2).2
        have hdat := hin.data _ (List.getElem_mem hk2)
        obtain ⟨da, dc, hde⟩ := ownsRow_shape hdat
        obtain ⟨hsd, hsl⟩ := rseg_of_sec hdat
        rw [hde] at e2 hsd
        have hck : d.cache[k]? = some ((L[k]'hk2).1, (L[k]'hk2).2.1) := by
          rw [HI.out.eq]
          simp [wvs, hk2]
        have ha0 : (L[k]'hk2).1 < d.last.length := HI.out.cin _ (List.mem_of_getElem? hck)
        have HS : Hid (settleTo d.last d.cache (fun _ => true) (k + 1) = (settleTo d.last d.cache (fun _ => true) k).set (L[k]'hk2).1 (L[k]'hk2).2.1) := by
          exact settle_step _ _ _ _ hck rfl
        have HCALL := Lib.hid (rdisk_lasts hin (L[k]'hk2).1 (by show _ < (settleTo _ _ _ _).length; rw [settleTo_length]; exact ha0) da dc (L[k]'hk2).2.1 hsd)
        clear hdat hde hsd hsl hck hin hD hch ha0
        generalize (L[k]'hk2).1 = a at *
        generalize (L[k]'hk2).2.1 = sd at *
        go_wp2_with (first
          | (go_at_call 78; (with_reducible refine HCALL.out.mono ?_); rintro e w2 ⟨rfl, D2, lv2, r1, r2, r3⟩; have HR1 := Lib.hid r1; have HR2 := Lib.hid r2; have HR3 := Lib.hid r3; clear r1 r2 r3))
        go_roundw
        case rel =>
          refine ⟨k + 1, D2, lv2, K1.out, by go_num, ?_, fun q hq => ?_, HCH.out.trans HR3.out⟩
          · rw [HS.out]
            exact HR1.out
          · rcases HR2.out q hq with h | h
            · exact HD.out q h
            · exact .inr (Nat.le_trans HCH.out.size h)
        case measure => simp [intOf]; have := K1.out; omega
      · obtain rfl : L.length = k := by omega
        clear hin hD hch
        go_wp2
        go_ret
        have := HK.out.emptied HI.out.inP HD.out HCH.out
        exact ⟨rfl, this⟩
  · have hr : d.flush = (2, d) := by unfold Dsk.flush; rw [hf, if_pos rfl]
    rw [hr]
    rw [hf] at c2
    clear hr
    go_enter Tryz.func100, Tryz.ntmps100
    go_wp2
    go_ret
    exact ⟨rfl, hsame.out⟩

end Go.Proofs.YtleicmmbaacbmaaGreat
