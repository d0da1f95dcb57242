/- A bay of disks: Read. -/
import Derived.Test.YtkcfmkhakghniaaBayE
import Derived.Laws.ResultCell
set_option linter.unusedVariables false
namespace Go.Proofs.Ytkcfmkhakghniaa
open Go.RowKit

/-- What comes of a read of a disk: a code, and the sector if it is 0. -/
def Dsk.read (d : Dsk) (z : Int) : Nat × Option Sec := if d.may z = 0 then (0, some (d.cur z.toNat)) else (d.may z, none)

theorem may_ok {d : Dsk} {z : Int} (h : d.may z = 0) : d.failed = false ∧ ∃ i : Nat, z = i ∧ i < d.last.length := by
  unfold Dsk.may at h
  cases hf : d.failed
  · rw [hf, if_neg (by simp)] at h
    by_cases hz : z < 0 ∨ (d.last.length : Int) ≤ z
    · rw [if_pos hz] at h; omega
    · exact ⟨rfl, z.toNat, by omega, by omega⟩
  · rw [hf, if_pos rfl] at h; omega

/-- What a read of a bay leaves. -/
def BayRead (w : World) (T : Nat → Nat) (b : Nat) (s' : BaySt) (gs : Nat) (ptr : Nat → Option Nat) (tg dp : Nat → Nat) (code : Nat) (so : Option Sec) (e : Ending) (w' : World) : Prop :=
  ∃ v, e = .returned (.tuple #[v, .int .u16 code]) ∧ BayIn w' T b s' gs ptr tg dp ∧ Chg (fun k => T k ≠ 0) w w' ∧ (∀ x, so = some x → w'.ownsRow w.heap.size 5 1 v 128 (ucells x)) ∧ (so = none → v = .slice none 0 0)

theorem read_do (T : Nat → Nat) (t dv dp ab db : Nat) (z : Int) (v0 : Value) (x : Dev) (w : World) (h : DevAt w T t dv dp x) (ha : At w ab #[.int .i64 z] 3) (hd : At w db #[v0] 34) (n1 : db ≠ dv) (n2 : db ≠ ab) :
    Calls Try.prog 53 #[.pointer (some ⟨dv, 0, none⟩), .pointer (some ⟨ab, 0, none⟩), .pointer (some ⟨db, 0, none⟩)] w (ReadDo w db (x.d.read z).1 (x.d.read z).2) := by
  unfold Dsk.read
  by_cases hz : x.d.may z = 0
  · rw [if_pos hz]
    obtain ⟨hf, i, rfl, hi⟩ := may_ok hz
    exact read_do_ok T t dv dp ab db i v0 x w h hf hi ha hd n1 n2
  · rw [if_neg hz]
    exact read_do_bad T t dv dp ab db z v0 x w h hz ha hd n1 n2

set_option maxRecDepth 100000 in
set_option maxHeartbeats 4000000 in
theorem bay_read_some {w : World} {T : Nat → Nat} {b : Nat} {s : BaySt} {gs : Nat} {ptr : Nat → Option Nat} {tg dp : Nat → Nat} (h : BayIn w T b s gs ptr tg dp) (k : Nat) (z : Int) (hk : k < s.n) (ht : s.trip ≠ 0) (hd : s.dark = false) (hcnt : s.cnt 0 ≤ 1000000000000)
    (x : Dev) (hx : s.pos (k * 3) = some x) (hm : x.d.cache.length ≤ 1000000) :
    Calls Try.prog 22 #[.pointer (some ⟨b, 0, none⟩), .int .i64 k, .int .i64 z] w (BayRead w T b (s.begun 0 (k * 3) x.use) gs ptr tg dp (x.use.d.read z).1 (x.use.d.read z).2) := by
  obtain ⟨dv, hp, hdv⟩ := h.some' (k * 3) (by omega) x hx
  have hB1 : BayIn ((w.alloc (.cells #[.int .i64 z] 3)).alloc (.cells #[.slice none 0 0] 34)) T b s gs ptr tg dp := h.keep (S := fun _ => False) (((Chg.refl _ _).alloc _).alloc _) (fun _ _ h => h)
  have e1 : (w.alloc (.cells #[.int .i64 z] 3)).heap.size = w.heap.size + 1 := size_alloc _ _
  have e2 : ((w.alloc (.cells #[.int .i64 z] 3)).alloc (.cells #[.slice none 0 0] 34)).heap.size = w.heap.size + 2 := by rw [size_alloc, e1]
  have hv0 := h.virgin (w.heap.size) (Nat.le_refl _)
  have hv1 := h.virgin (w.heap.size + 1) (by omega)
  have hA1 : At ((w.alloc (.cells #[.int .i64 z] 3)).alloc (.cells #[.slice none 0 0] 34)) w.heap.size #[.int .i64 z] 3 := (At.new _ _ _).alloc _
  have hD1 : At ((w.alloc (.cells #[.int .i64 z] 3)).alloc (.cells #[.slice none 0 0] 34)) (w.heap.size + 1) #[.slice none 0 0] 34 := At.new2 _ _ _ _
  have hop := Lib.hid (read_some hB1 w.heap.size (w.heap.size + 1) k hk ht hd hcnt x hx dv hp hm
    (fun c W' => c = ((x.use.d.read z).1 : Int) ∧ BayIn W' T b (s.begun 0 (k * 3) x.use) gs ptr tg dp ∧ ∃ v, At W' (w.heap.size + 1) #[v] 34 ∧ Chg (fun q => T q ≠ 0) w W' ∧ (∀ y, (x.use.d.read z).2 = some y → W'.ownsRow w.heap.size 5 1 v 128 (ucells y) ∧ ∀ g, v.ownBlock = some g → w.heap.size + 1 < g) ∧ ((x.use.d.read z).2 = none → v = .slice none 0 0))
    (fun W hB hc => by
      obtain ⟨dv', p1, p2⟩ := hB.some' (k * 3) (by show k * 3 < 3 * s.n; omega) x.use (by show (if k * 3 = k * 3 then some x.use else s.pos (k * 3)) = some x.use; rw [if_pos rfl])
      rw [hp] at p1
      simp only [Option.some.injEq] at p1
      subst p1
      have ha := hA1.mod hc (by rw [hv0]; simp)
      have hdd := hD1.mod hc (by rw [hv1]; simp)
      have hsz := hc.size
      rw [e2] at hsz
      have nd : w.heap.size + 1 ≠ dv := fun e => by have := p2.tag; rw [← e] at this; omega
      refine (read_do T (tg (k * 3)) dv (dp (k * 3)) w.heap.size (w.heap.size + 1) z _ x.use W p2 ha hdd nd (by omega)).mono fun e W' ⟨he, v, k1, k2, k3, k4⟩ => ⟨_, he, rfl, hB.keep k2 (fun q hq e => by subst e; omega), v, k1, ?_, fun y hy => ⟨rebase_row (k3 y hy) (by omega), fun g hg => by have := ((k3 y hy).lt g hg).1; omega⟩, k4⟩
      have h0 : Chg (fun q => T q ≠ 0) w ((w.alloc (.cells #[.int .i64 z] 3)).alloc (.cells #[.slice none 0 0] 34)) := ((Chg.refl _ _).alloc _).alloc _
      have h1 := h0.trans hc
      exact ⟨k2.os.trans h1.os, k2.tape.trans h1.tape, k2.output.trans h1.output, Nat.le_trans h1.size k2.size, fun q hq hn => (k2.block q (Nat.lt_of_lt_of_le hq h1.size) (by omega)).trans (h1.block q hq hn)⟩))
  clear hB1 hA1 hD1 hdv h
  go_enter Try.func22, Try.ntmps22
  go_wp2_with (go_at_call 40; refine hop.out.mono ?_; rintro e w2 ⟨c, rfl, rfl, hB, v, k1, k2, k3, k4⟩; have hshape : ∃ a n c, v = .slice a n c := (by cases hq : (x.use.d.read z).2 with | none => exact ⟨_, _, _, k4 hq⟩ | some y => (obtain ⟨a, cap, e⟩ := ownsRow_shape (k3 y hq).1; exact ⟨_, _, _, e⟩)); obtain ⟨va, vn, vc, rfl⟩ := hshape; have d0 : w2.cell? ⟨w.heap.size + 1, 0, none⟩ = some (.slice va vn vc) := k1.cell 0; have f0 := k1.free 0; have K1 := Lib.hid k1; have HB := Lib.hid hB; clear k1 hB)
  have hset : Chg (fun q => q = w.heap.size + 1) w2 (w2.setCell ⟨w.heap.size + 1, 0, none⟩ (.slice va vn vc)) := Chg.setCell (S := fun q => q = w.heap.size + 1) (Chg.refl _ _) ⟨w.heap.size + 1, 0, none⟩ (.inl rfl) _
  have hrd : (w2.setCell ⟨w.heap.size + 1, 0, none⟩ (.slice va vn vc)).cell? ⟨w.heap.size + 1, 0, none⟩ = some (.slice va vn vc) := (K1.out.set 0 (.slice va vn vc)).cell 0
  have hb := HB.out.keep hset (fun q hq e => by subst e; omega)
  have hch : Chg (fun q => T q ≠ 0) w (w2.setCell ⟨w.heap.size + 1, 0, none⟩ (.slice va vn vc)) := ⟨hset.os.trans k2.os, hset.tape.trans k2.tape, hset.output.trans k2.output, Nat.le_trans k2.size hset.size, fun q hq hn => (hset.block q (Nat.lt_of_lt_of_le hq k2.size) (by omega)).trans (k2.block q hq hn)⟩
  (try simp only [Exit.inBlock, Exit.then])
  refine bodyPost_ret (v := .tuple #[.slice va vn vc, .int .u16 ((x.use.d.read z).1 : Nat)]) ?_ rfl ⟨.slice va vn vc, rfl, hb, hch, fun y hy => ownsRow_mod (k3 y hy).1 hset (fun g hg e => by have := (k3 y hy).2 g hg; omega), k4⟩
  rw [results_cell_tmp rfl]
  go_simp

end Go.Proofs.Ytkcfmkhakghniaa
