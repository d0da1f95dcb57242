/- A bay of disks: what is done to a device. -/
import Derived.Test.YtkcfmkhakghniaaBayB
set_option linter.unusedVariables false
namespace Go.Proofs.Ytkcfmkhakghniaa
open Go.RowKit

theorem DiskAt.drew {W : World} {T : Nat → Nat} {t p : Nat} {d : Dsk} (h : DiskAt W T t p d) : DiskAt W.drew T t p d := h.keep ((Chg.refl (fun _ => False) W).drew) (fun _ _ h => h)

set_option maxHeartbeats 1000000 in
theorem reads_any (b : Nat) (w : World) : Calls Try.prog 52 #[.pointer (some ⟨b, 3, none⟩)] w fun e w' => e = .returned (.pointer (some ⟨b, 3, none⟩)) ∧ w' = w := by
  go_enter Try.func52, Try.ntmps52
  go_wp2
  go_ret
  exact ⟨rfl, rfl⟩

set_option maxHeartbeats 1000000 in
theorem writes_any (b : Nat) (w : World) : Calls Try.prog 41 #[.pointer (some ⟨b, 3, none⟩)] w fun e w' => e = .returned (.pointer (some ⟨b, 4, none⟩)) ∧ w' = w := by
  go_enter Try.func41, Try.ntmps41
  go_wp2
  go_ret
  exact ⟨rfl, rfl⟩

set_option maxHeartbeats 1000000 in
theorem flushes_any (b : Nat) (w : World) : Calls Try.prog 49 #[.pointer (some ⟨b, 3, none⟩)] w fun e w' => e = .returned (.pointer (some ⟨b, 5, none⟩)) ∧ w' = w := by
  go_enter Try.func49, Try.ntmps49
  go_wp2
  go_ret
  exact ⟨rfl, rfl⟩

/-- What a read through the bay's closure leaves. -/
def ReadDo (w : World) (db code : Nat) (s : Option Sec) (e : Ending) (w' : World) : Prop :=
  e = .returned (.int .u16 code) ∧ ∃ v, At w' db #[v] 34 ∧ Chg (fun k => k = db) w w' ∧ (∀ x, s = some x → w'.ownsRow w.heap.size 5 1 v 128 (ucells x)) ∧ (s = none → v = .slice none 0 0)

set_option maxRecDepth 100000 in
set_option maxHeartbeats 4000000 in
theorem read_do_ok (T : Nat → Nat) (t dv dp ab db i : Nat) (v0 : Value) (x : Dev) (w : World) (h : DevAt w T t dv dp x) (hf : x.d.failed = false) (hi : i < x.d.last.length) (ha : At w ab #[.int .i64 (i : Int)] 3) (hd : At w db #[v0] 34) (n1 : db ≠ dv) (n2 : db ≠ ab) :
    Calls Try.prog 53 #[.pointer (some ⟨dv, 0, none⟩), .pointer (some ⟨ab, 0, none⟩), .pointer (some ⟨db, 0, none⟩)] w (ReadDo w db 0 (some (x.d.cur i))) := by
  have hread := Lib.hid (disk_read T t dp i x.d w.drew h.disk.drew hf hi)
  have zv := h.dev.lt
  have za := ha.lt
  have zd := hd.lt
  have HSA : Hid (w.drew.cell? ⟨dv, 0, none⟩ = some (.pointer (some ⟨dp, 0, none⟩)) ∧ w.drew.cell? ⟨ab, 0, none⟩ = some (.int .i64 (i : Int))) := ⟨h.dev.cell 0, ha.cell 0⟩
  have HD := Lib.hid hd
  clear h ha hd hf hi
  generalize x.d.cur i = s at *
  go_enter Try.func53, Try.ntmps53
  go_wp2
  go_region_held3 (fun w' => w'.cell? ⟨dv, 0, none⟩ = some (.pointer (some ⟨dp, 0, none⟩)) ∧ w'.cell? ⟨ab, 0, none⟩ = some (.int .i64 (i : Int)))
    (first | exact HSA.out | exact HSB | exact HSC)
    (first | (go_at_call 54; refine hread.out.mono ?_; rintro e w2 ⟨v, rfl, hown, hb⟩; have HSB : w2.cell? ⟨dv, 0, none⟩ = some (.pointer (some ⟨dp, 0, none⟩)) ∧ w2.cell? ⟨ab, 0, none⟩ = some (.int .i64 (i : Int)) := ⟨(hb.cell (p := ⟨dv, 0, none⟩) zv).trans HSA.out.1, (hb.cell (p := ⟨ab, 0, none⟩) za).trans HSA.out.2⟩; have hd2 : At w2 db #[v0] 34 := HD.out.drew.below hb zd; have d0 : w2.cell? ⟨db, 0, none⟩ = some v0 := hd2.cell 0; have f0 := hd2.free 0; have HO := Lib.hid hown; have HD2 := Lib.hid hd2; obtain ⟨va, vc, rfl⟩ := ownsRow_shape hown; clear hown hd2; have HSC : (w2.setCell ⟨db, 0, none⟩ (.slice va 128 vc)).cell? ⟨dv, 0, none⟩ = some (.pointer (some ⟨dp, 0, none⟩)) ∧ (w2.setCell ⟨db, 0, none⟩ (.slice va 128 vc)).cell? ⟨ab, 0, none⟩ = some (.int .i64 (i : Int)) := ⟨(World.cell?_of_block (heap_setCell_other w2 ⟨db, 0, none⟩ dv _ (Ne.symm n1))).trans HSB.1, (World.cell?_of_block (heap_setCell_other w2 ⟨db, 0, none⟩ ab _ (Ne.symm n2))).trans HSB.2⟩))
  go_wp2
  go_ret
  have hs : Chg (fun k => k = db) w2 (w2.setCell ⟨db, 0, none⟩ (.slice va 128 vc)) := Chg.setCell (S := fun k => k = db) (Chg.refl _ _) ⟨db, 0, none⟩ (.inl rfl) _
  have hdrew : Below w.heap.size w w2 := (Below.refl w.heap.size w).drew.trans hb
  refine ⟨rfl, .slice va 128 vc, HD2.out.set 0 _, (Chg.ofBelow hdrew _).trans hs, ?_, fun h => by cases h⟩
  intro y hy
  cases hy
  refine ownsRow_mod HO.out hs (fun g hg e => ?_)
  have := (HO.out.lt g hg).1
  have : w.drew.heap.size = w.heap.size := rfl
  omega

set_option maxRecDepth 100000 in
set_option maxHeartbeats 4000000 in
theorem read_do_bad (T : Nat → Nat) (t dv dp ab db : Nat) (z : Int) (v0 : Value) (x : Dev) (w : World) (h : DevAt w T t dv dp x) (hz : x.d.may z ≠ 0) (ha : At w ab #[.int .i64 z] 3) (hd : At w db #[v0] 34) (n1 : db ≠ dv) (n2 : db ≠ ab) :
    Calls Try.prog 53 #[.pointer (some ⟨dv, 0, none⟩), .pointer (some ⟨ab, 0, none⟩), .pointer (some ⟨db, 0, none⟩)] w (ReadDo w db (x.d.may z) none) := by
  have hread := Lib.hid (disk_read_bad T t dp z x.d w.drew h.disk.drew hz)
  have HSA : Hid (w.drew.cell? ⟨dv, 0, none⟩ = some (.pointer (some ⟨dp, 0, none⟩)) ∧ w.drew.cell? ⟨ab, 0, none⟩ = some (.int .i64 z)) := ⟨h.dev.cell 0, ha.cell 0⟩
  have HSC : Hid ((w.drew.setCell ⟨db, 0, none⟩ (.slice none 0 0)).cell? ⟨dv, 0, none⟩ = some (.pointer (some ⟨dp, 0, none⟩)) ∧ (w.drew.setCell ⟨db, 0, none⟩ (.slice none 0 0)).cell? ⟨ab, 0, none⟩ = some (.int .i64 z)) :=
    ⟨(World.cell?_of_block (heap_setCell_other w.drew ⟨db, 0, none⟩ dv _ (Ne.symm n1))).trans HSA.out.1, (World.cell?_of_block (heap_setCell_other w.drew ⟨db, 0, none⟩ ab _ (Ne.symm n2))).trans HSA.out.2⟩
  have HD := Lib.hid hd
  have d0 : w.drew.cell? ⟨db, 0, none⟩ = some v0 := hd.cell 0
  have f0 : w.drew.frozen? ⟨db, 0, none⟩ = false := hd.free 0
  clear h ha hd hz
  generalize x.d.may z = c at *
  go_enter Try.func53, Try.ntmps53
  go_wp2
  go_region_held3 (fun w' => w'.cell? ⟨dv, 0, none⟩ = some (.pointer (some ⟨dp, 0, none⟩)) ∧ w'.cell? ⟨ab, 0, none⟩ = some (.int .i64 z))
    (first | exact HSA.out | exact HSC.out)
    (first | (go_at_call 54; refine hread.out.mono ?_; rintro e w2 ⟨rfl, rfl⟩))
  go_wp2
  go_ret
  have hs : Chg (fun k => k = db) w.drew (w.drew.setCell ⟨db, 0, none⟩ (.slice none 0 0)) := Chg.setCell (S := fun k => k = db) (Chg.refl _ _) ⟨db, 0, none⟩ (.inl rfl) _
  exact ⟨rfl, .slice none 0 0, HD.out.drew.set 0 _, ((Chg.refl _ w).drew).trans hs, (fun y hy => by cases hy), fun _ => rfl⟩

/-- What a change of a device leaves. -/
def DevPost (W : World) (T : Nat → Nat) (t dv dp : Nat) (x' : Dev) (W' : World) : Prop :=
  ∃ T', DevAt W' T' t dv dp x' ∧ (∀ k, k < W.heap.size ∨ W'.heap.size ≤ k → T' k = T k) ∧ (∀ k, T' k = T k ∨ T' k = t) ∧ Chg (fun k => T k = t ∨ k = dv) W W'

theorem DevAt.post {w w' : World} {T : Nat → Nat} {t dv dp : Nat} {x : Dev} {d' : Dsk} (h : DevAt w T t dv dp x) (hp : DiskPost w T t dp d' w') : DevPost w T t dv dp ⟨d', x.worn, x.left⟩ w' := by
  obtain ⟨T', h1, h2, h3, h4⟩ := hp
  refine ⟨T', ⟨h.dev.mod h4 (fun e => by have := h.tag; have := h.two; omega), by rw [h2 dv (.inl h.dev.lt)]; exact h.tag, h.two, h1, h.lo, h.hi⟩, h2, h3, h4.mono fun k hk => .inl hk⟩

theorem DiskPost.drew {w w' : World} {T : Nat → Nat} {t p : Nat} {d' : Dsk} (h : DiskPost w.drew T t p d' w') : DiskPost w T t p d' w' := by
  obtain ⟨T', h1, h2, h3, h4⟩ := h
  exact ⟨T', h1, h2, h3, ((Chg.refl _ w).drew).trans h4⟩

/-- The same disk, elsewhere nothing. -/
theorem DiskPost.same {w w' : World} {T : Nat → Nat} {t p : Nat} {d' : Dsk} (h : DiskAt w' T t p d') (hc : Chg (fun k => T k = t) w w') : DiskPost w T t p d' w' :=
  ⟨T, h, fun _ _ => rfl, fun _ => .inl rfl, hc⟩

set_option maxRecDepth 100000 in
set_option maxHeartbeats 4000000 in
theorem write_do_ok (T : Nat → Nat) (t dv dp ab sb i : Nat) (v : Value) (s : Sec) (x : Dev) (w : World) (h : DevAt w T t dv dp x) (hf : x.d.failed = false) (hi : i < x.d.last.length) (ha : At w ab #[.int .i64 (i : Int)] 3) (hb : At w sb #[v] 34)
    (hv : Seg w v s) (hs : s.length = 128) (hc : x.d.cache.length ≤ 1000000) (hvT : ∀ a n c, v = .slice (some a) n c → T a.block ≠ t) (n1 : T ab ≠ t) (n2 : T sb ≠ t) :
    Calls Try.prog 42 #[.pointer (some ⟨dv, 0, none⟩), .pointer (some ⟨ab, 0, none⟩), .pointer (some ⟨sb, 0, none⟩)] w fun e w' => e = .returned (.int .u16 0) ∧ DevPost w T t dv dp ⟨{ x.d with cache := x.d.cache ++ [(i, s)] }, x.worn, x.left⟩ w' := by
  have hvd : Seg w.drew v s := hv.below ((Below.refl w.heap.size w).drew)
  have hwr := Lib.hid (disk_write_ok T t dp i x.d s v w.drew h.disk.drew hf hi hvd hs hc hvT)
  obtain ⟨va, vc, rfl⟩ := hv.shape
  have HSA : Hid (w.drew.cell? ⟨dv, 0, none⟩ = some (.pointer (some ⟨dp, 0, none⟩)) ∧ w.drew.cell? ⟨ab, 0, none⟩ = some (.int .i64 (i : Int)) ∧ w.drew.cell? ⟨sb, 0, none⟩ = some (.slice va s.length vc)) := ⟨h.dev.cell 0, ha.cell 0, hb.cell 0⟩
  have zv := h.dev.lt
  have za := ha.lt
  have zb := hb.lt
  have tv : T dv ≠ t := by have := h.tag; have := h.two; omega
  have H := Lib.hid h
  clear h ha hb hf hi hv hvd hvT
  generalize s.length = sn at *
  subst hs
  go_enter Try.func42, Try.ntmps42
  go_wp2
  go_region_held3 (fun w' => w'.cell? ⟨dv, 0, none⟩ = some (.pointer (some ⟨dp, 0, none⟩)) ∧ w'.cell? ⟨ab, 0, none⟩ = some (.int .i64 (i : Int)) ∧ w'.cell? ⟨sb, 0, none⟩ = some (.slice va 128 vc))
    (first | exact HSA.out | exact HSB)
    (first | (go_at_call 43; refine hwr.out.mono ?_; rintro e w2 ⟨rfl, hp⟩; have hp4 : Chg (fun k => T k = t) w.drew w2 := (by obtain ⟨_, _, _, _, k⟩ := hp; exact k); have HSB : w2.cell? ⟨dv, 0, none⟩ = some (.pointer (some ⟨dp, 0, none⟩)) ∧ w2.cell? ⟨ab, 0, none⟩ = some (.int .i64 (i : Int)) ∧ w2.cell? ⟨sb, 0, none⟩ = some (.slice va 128 vc) := ⟨(hp4.cell (p := ⟨dv, 0, none⟩) zv tv).trans HSA.out.1, (hp4.cell (p := ⟨ab, 0, none⟩) za n1).trans HSA.out.2.1, (hp4.cell (p := ⟨sb, 0, none⟩) zb n2).trans HSA.out.2.2⟩; have HP := Lib.hid hp; clear hp))
  go_wp2
  go_ret
  exact ⟨rfl, H.out.post HP.out.drew⟩

set_option maxRecDepth 100000 in
set_option maxHeartbeats 4000000 in
theorem write_do_bad (T : Nat → Nat) (t dv dp ab sb : Nat) (z : Int) (va : Option Addr) (sn vc code : Nat) (x : Dev) (w : World) (h : DevAt w T t dv dp x) (ha : At w ab #[.int .i64 z] 3) (hb : At w sb #[.slice va sn vc] 34)
    (hcode : (x.d.may z ≠ 0 ∧ code = x.d.may z) ∨ (x.d.may z = 0 ∧ sn ≠ 128 ∧ code = 4)) :
    Calls Try.prog 42 #[.pointer (some ⟨dv, 0, none⟩), .pointer (some ⟨ab, 0, none⟩), .pointer (some ⟨sb, 0, none⟩)] w fun e w' => e = .returned (.int .u16 (code : Int)) ∧ w' = w.drew := by
  have hwr : Hid (Calls Try.prog 43 #[.pointer (some ⟨dp, 0, none⟩), .int .i64 z, .slice va sn vc] w.drew fun e w' => e = .returned (.int .u16 (code : Int)) ∧ w' = w.drew) := by
    rcases hcode with ⟨h1, rfl⟩ | ⟨h1, h2, rfl⟩
    · exact disk_write_bad T t dp z _ x.d w.drew h.disk.drew h1
    · exact disk_write_long T t dp z va sn vc x.d w.drew h.disk.drew h1 h2
  have HSA : Hid (w.drew.cell? ⟨dv, 0, none⟩ = some (.pointer (some ⟨dp, 0, none⟩)) ∧ w.drew.cell? ⟨ab, 0, none⟩ = some (.int .i64 z) ∧ w.drew.cell? ⟨sb, 0, none⟩ = some (.slice va sn vc)) := ⟨h.dev.cell 0, ha.cell 0, hb.cell 0⟩
  clear h ha hb hcode
  go_enter Try.func42, Try.ntmps42
  go_wp2
  go_region_held3 (fun w' => w'.cell? ⟨dv, 0, none⟩ = some (.pointer (some ⟨dp, 0, none⟩)) ∧ w'.cell? ⟨ab, 0, none⟩ = some (.int .i64 z) ∧ w'.cell? ⟨sb, 0, none⟩ = some (.slice va sn vc))
    (first | exact HSA.out)
    (first | (go_at_call 43; refine hwr.out.mono ?_; rintro e w2 ⟨rfl, rfl⟩))
  go_wp2
  go_ret
  exact ⟨rfl, rfl⟩

set_option maxRecDepth 100000 in
set_option maxHeartbeats 2000000 in
theorem flush_do_ok (T : Nat → Nat) (t dv dp : Nat) (x : Dev) (w : World) (h : DevAt w T t dv dp x) (hf : x.d.failed = false) (hc : x.d.cache.length ≤ 1000000) :
    Calls Try.prog 50 #[.pointer (some ⟨dv, 0, none⟩)] w fun e w' => e = .returned (.int .u16 0) ∧ DevPost w T t dv dp ⟨x.d.settled, x.worn, x.left⟩ w' := by
  have hfl := Lib.hid (disk_flush T t dp x.d w h.disk hf hc)
  have c0 : w.cell? ⟨dv, 0, none⟩ = some (.pointer (some ⟨dp, 0, none⟩)) := h.dev.cell 0
  have H := Lib.hid h
  clear h
  go_enter Try.func50, Try.ntmps50
  go_wp2_with (go_at_call 51; refine hfl.out.mono ?_; rintro e w2 ⟨rfl, r1, r2⟩)
  go_ret
  exact ⟨rfl, H.out.post (DiskPost.same r1 r2)⟩

set_option maxRecDepth 100000 in
set_option maxHeartbeats 2000000 in
theorem flush_do_bad (T : Nat → Nat) (t dv dp : Nat) (x : Dev) (w : World) (h : DevAt w T t dv dp x) (hf : x.d.failed = true) :
    Calls Try.prog 50 #[.pointer (some ⟨dv, 0, none⟩)] w fun e w' => e = .returned (.int .u16 2) ∧ w' = w := by
  have hfl := Lib.hid (disk_flush_bad T t dp x.d w h.disk hf)
  have c0 : w.cell? ⟨dv, 0, none⟩ = some (.pointer (some ⟨dp, 0, none⟩)) := h.dev.cell 0
  clear h
  go_enter Try.func50, Try.ntmps50
  go_wp2_with (go_at_call 51; refine hfl.out.mono ?_; rintro e w2 ⟨rfl, rfl⟩)
  go_ret
  exact ⟨rfl, rfl⟩

end Go.Proofs.Ytkcfmkhakghniaa
