/- Several texts in one: BayC, BayD. -/
import Derived.Test.YtleicmmbaacbmaaGreatMrg4
/- A bay of disks: what is done to a device. -/
set_option linter.unusedVariables false
namespace Go.Proofs.YtleicmmbaacbmaaGreat
open Go.RowKit

theorem DiskAt.drew {W : World} {T : Nat → Nat} {t p : Nat} {d : Dsk} (h : DiskAt W T t p d) : DiskAt W.drew T t p d := h.keep ((Chg.refl (fun _ => False) W).drew) (fun _ _ h => h)

set_option maxHeartbeats 1000000 in
theorem reads_any (b : Nat) (w : World) : Calls Tryz.prog 107 #[.pointer (some ⟨b, 3, none⟩)] w fun e w' => e = .returned (.pointer (some ⟨b, 3, none⟩)) ∧ w' = w := by
  go_enter Tryz.func107, Tryz.ntmps107
  go_wp2
  go_ret
  exact ⟨rfl, rfl⟩

set_option maxHeartbeats 1000000 in
theorem writes_any (b : Nat) (w : World) : Calls Tryz.prog 58 #[.pointer (some ⟨b, 3, none⟩)] w fun e w' => e = .returned (.pointer (some ⟨b, 4, none⟩)) ∧ w' = w := by
  go_enter Tryz.func58, Tryz.ntmps58
  go_wp2
  go_ret
  exact ⟨rfl, rfl⟩

set_option maxHeartbeats 1000000 in
theorem flushes_any (b : Nat) (w : World) : Calls Tryz.prog 96 #[.pointer (some ⟨b, 3, none⟩)] w fun e w' => e = .returned (.pointer (some ⟨b, 5, none⟩)) ∧ w' = w := by
  go_enter Tryz.func96, Tryz.ntmps96
  go_wp2
  go_ret
  exact ⟨rfl, rfl⟩

/-- What a read through the bay's closure leaves. -/
def ReadDo (w : World) (db code : Nat) (s : Option Sec) (e : Ending) (w' : World) : Prop :=
  e = .returned (.int .u16 code) ∧ ∃ v, At w' db #[v] 53 ∧ Chg (fun k => k = db) w w' ∧ (∀ x, s = some x → w'.ownsRow w.heap.size 5 1 v 128 (ucells x)) ∧ (s = none → v = .slice none 0 0)

set_option maxRecDepth 100000 in
set_option maxHeartbeats 4000000 in
theorem read_do_ok (T : Nat → Nat) (t dv dp ab db i : Nat) (v0 : Value) (x : Dev) (w : World) (h : DevAt w T t dv dp x) (hf : x.d.failed = false) (hi : i < x.d.last.length) (ha : At w ab #[.int .i64 (i : Int)] 3) (hd : At w db #[v0] 53) (n1 : db ≠ dv) (n2 : db ≠ ab) :
    Calls Tryz.prog 108 #[.pointer (some ⟨dv, 0, none⟩), .pointer (some ⟨ab, 0, none⟩), .pointer (some ⟨db, 0, none⟩)] w (ReadDo w db 0 (some (x.d.cur i))) := by
  have hread := Lib.hid (disk_read T t dp i x.d w.drew h.disk.drew hf hi)
  have zv := h.dev.lt
  have za := ha.lt
  have zd := hd.lt
  have HSA : Hid (w.drew.cell? ⟨dv, 0, none⟩ = some (.pointer (some ⟨dp, 0, none⟩)) ∧ w.drew.cell? ⟨ab, 0, none⟩ = some (.int .i64 (i : Int))) := ⟨h.dev.cell 0, ha.cell 0⟩
  have HD := Lib.hid hd
  clear h ha hd hf hi
  generalize x.d.cur i = s at *
  go_enter Tryz.func108, Tryz.ntmps108
  go_wp2
  go_region_held3 (fun w' => w'.cell? ⟨dv, 0, none⟩ = some (.pointer (some ⟨dp, 0, none⟩)) ∧ w'.cell? ⟨ab, 0, none⟩ = some (.int .i64 (i : Int)))
    (first | exact HSA.out | exact HSB | exact HSC)
    (first | (go_at_call 109; refine hread.out.mono ?_; rintro e w2 ⟨v, rfl, hown, hb⟩; have HSB : w2.cell? ⟨dv, 0, none⟩ = some (.pointer (some ⟨dp, 0, none⟩)) ∧ w2.cell? ⟨ab, 0, none⟩ = some (.int .i64 (i : Int)) := ⟨(hb.cell (p := ⟨dv, 0, none⟩) zv).trans HSA.out.1, (hb.cell (p := ⟨ab, 0, none⟩) za).trans HSA.out.2⟩; have hd2 : At w2 db #[v0] 53 := HD.out.drew.below hb zd; have d0 : w2.cell? ⟨db, 0, none⟩ = some v0 := hd2.cell 0; have f0 := hd2.free 0; have HO := Lib.hid hown; have HD2 := Lib.hid hd2; obtain ⟨va, vc, rfl⟩ := ownsRow_shape hown; clear hown hd2; have HSC : (w2.setCell ⟨db, 0, none⟩ (.slice va 128 vc)).cell? ⟨dv, 0, none⟩ = some (.pointer (some ⟨dp, 0, none⟩)) ∧ (w2.setCell ⟨db, 0, none⟩ (.slice va 128 vc)).cell? ⟨ab, 0, none⟩ = some (.int .i64 (i : Int)) := ⟨(World.cell?_of_block (heap_setCell_other w2 ⟨db, 0, none⟩ dv _ (Ne.symm n1))).trans HSB.1, (World.cell?_of_block (heap_setCell_other w2 ⟨db, 0, none⟩ ab _ (Ne.symm n2))).trans HSB.2⟩))
  go_wp2
  go_ret
  have hs : Chg (fun k => k = db) w2 (w2.setCell ⟨db, 0, none⟩ (.slice va 128 vc)) := Chg.setCell (S := fun k => k = db) (Chg.refl _ _) ⟨db, 0, none⟩ (.inl rfl) _
  have hdrew : Below w.heap.size w w2 := (Below.refl w.heap.size w).drew.trans hb
  refine ⟨rfl, .slice va 128 vc, HD2.out.set 0 _, (Chg.ofBelow hdrew _).trans hs, ?_, fun h => by cases h⟩
  intro y hy
  cases hy
  refine ownsRow_mod HO.out hs (fun g hg e => ?_)
  have := (HO.out.lt g hg).1
  have : w.drew.heap.size = w.heap.size := rfl
  omega

set_option maxRecDepth 100000 in
set_option maxHeartbeats 4000000 in
theorem read_do_bad (T : Nat → Nat) (t dv dp ab db : Nat) (z : Int) (v0 : Value) (x : Dev) (w : World) (h : DevAt w T t dv dp x) (hz : x.d.may z ≠ 0) (ha : At w ab #[.int .i64 z] 3) (hd : At w db #[v0] 53) (n1 : db ≠ dv) (n2 : db ≠ ab) :
    Calls Tryz.prog 108 #[.pointer (some ⟨dv, 0, none⟩), .pointer (some ⟨ab, 0, none⟩), .pointer (some ⟨db, 0, none⟩)] w (ReadDo w db (x.d.may z) none) := by
  have hread := Lib.hid (disk_read_bad T t dp z x.d w.drew h.disk.drew hz)
  have HSA : Hid (w.drew.cell? ⟨dv, 0, none⟩ = some (.pointer (some ⟨dp, 0, none⟩)) ∧ w.drew.cell? ⟨ab, 0, none⟩ = some (.int .i64 z)) := ⟨h.dev.cell 0, ha.cell 0⟩
  have HSC : Hid ((w.drew.setCell ⟨db, 0, none⟩ (.slice none 0 0)).cell? ⟨dv, 0, none⟩ = some (.pointer (some ⟨dp, 0, none⟩)) ∧ (w.drew.setCell ⟨db, 0, none⟩ (.slice none 0 0)).cell? ⟨ab, 0, none⟩ = some (.int .i64 z)) :=
    ⟨(World.cell?_of_block (heap_setCell_other w.drew ⟨db, 0, none⟩ dv _ (Ne.symm n1))).trans HSA.out.1, (World.cell?_of_block (heap_setCell_other w.drew ⟨db, 0, none⟩ ab _ (Ne.symm n2))).trans HSA.out.2⟩
  have HD := Lib.hid hd
  have d0 : w.drew.cell? ⟨db, 0, none⟩ = some v0 := hd.cell 0
  have f0 : w.drew.frozen? ⟨db, 0, none⟩ = false := hd.free 0
  clear h ha hd hz
  generalize x.d.may z = c at *
  go_enter Tryz.func108, Tryz.ntmps108
  go_wp2
  go_region_held3 (fun w' => w'.cell? ⟨dv, 0, none⟩ = some (.pointer (some ⟨dp, 0, none⟩)) ∧ w'.cell? ⟨ab, 0, none⟩ = some (.int .i64 z))
    (first | exact HSA.out | exact HSC.out)
    (first | (go_at_call 109; refine hread.out.mono ?_; rintro e w2 ⟨rfl, rfl⟩))
  go_wp2
  go_ret
  have hs : Chg (fun k => k = db) w.drew (w.drew.setCell ⟨db, 0, none⟩ (.slice none 0 0)) := Chg.setCell (S := fun k => k = db) (Chg.refl _ _) ⟨db, 0, none⟩ (.inl rfl) _
  exact ⟨rfl, .slice none 0 0, HD.out.drew.set 0 _, ((Chg.refl _ w).drew).trans hs, (fun y hy => by cases hy), fun _ => rfl⟩

/-- What a change of a device leaves. -/
def DevPost (W : World) (T : Nat → Nat) (t dv dp : Nat) (x' : Dev) (W' : World) : Prop :=
  ∃ T', DevAt W' T' t dv dp x' ∧ (∀ k, k < W.heap.size ∨ W'.heap.size ≤ k → T' k = T k) ∧ (∀ k, T' k = T k ∨ T' k = t) ∧ Chg (fun k => T k = t ∨ k = dv) W W'

theorem DevAt.post {w w' : World} {T : Nat → Nat} {t dv dp : Nat} {x : Dev} {d' : Dsk} (h : DevAt w T t dv dp x) (hp : DiskPost w T t dp d' w') : DevPost w T t dv dp ⟨d', x.worn, x.left⟩ w' := by
  obtain ⟨T', h1, h2, h3, h4⟩ := hp
  refine ⟨T', ⟨h.dev.mod h4 (fun e => by have := h.tag; have := h.two; omega), by rw [h2 dv (.inl h.dev.lt)]; exact h.tag, h.two, h1, h.lo, h.hi⟩, h2, h3, h4.mono fun k hk => .inl hk⟩

theorem DiskPost.drew {w w' : World} {T : Nat → Nat} {t p : Nat} {d' : Dsk} (h : DiskPost w.drew T t p d' w') : DiskPost w T t p d' w' := by
  obtain ⟨T', h1, h2, h3, h4⟩ := h
  exact ⟨T', h1, h2, h3, ((Chg.refl _ w).drew).trans h4⟩

/-- The same disk, elsewhere nothing. -/
theorem DiskPost.same {w w' : World} {T : Nat → Nat} {t p : Nat} {d' : Dsk} (h : DiskAt w' T t p d') (hc : Chg (fun k => T k = t) w w') : DiskPost w T t p d' w' :=
  ⟨T, h, fun _ _ => rfl, fun _ => .inl rfl, hc⟩

set_option maxRecDepth 100000 in
set_option maxHeartbeats 4000000 in
theorem write_do_ok (T : Nat → Nat) (t dv dp ab sb i : Nat) (v : Value) (s : Sec) (x : Dev) (w : World) (h : DevAt w T t dv dp x) (hf : x.d.failed = false) (hi : i < x.d.last.length) (ha : At w ab #[.int .i64 (i : Int)] 3) (hb : At w sb #[v] 53)
    (hv : Seg w v s) (hs : s.length = 128) (hc : x.d.cache.length ≤ 1000000) (hvT : ∀ a n c, v = .slice (some a) n c → T a.block ≠ t) (n1 : T ab ≠ t) (n2 : T sb ≠ t) :
    Calls Tryz.prog 59 #[.pointer (some ⟨dv, 0, none⟩), .pointer (some ⟨ab, 0, none⟩), .pointer (some ⟨sb, 0, none⟩)] w fun e w' => e = .returned (.int .u16 0) ∧ DevPost w T t dv dp ⟨{ x.d with cache := x.d.cache ++ [(i, s)] }, x.worn, x.left⟩ w' := by
  have hvd : Seg w.drew v s := hv.below ((Below.refl w.heap.size w).drew)
  have hwr := Lib.hid (disk_write_ok T t dp i x.d s v w.drew h.disk.drew hf hi hvd hs hc hvT)
  obtain ⟨va, vc, rfl⟩ := hv.shape
  have HSA : Hid (w.drew.cell? ⟨dv, 0, none⟩ = some (.pointer (some ⟨dp, 0, none⟩)) ∧ w.drew.cell? ⟨ab, 0, none⟩ = some (.int .i64 (i : Int)) ∧ w.drew.cell? ⟨sb, 0, none⟩ = some (.slice va s.length vc)) := ⟨h.dev.cell 0, ha.cell 0, hb.cell 0⟩
  have zv := h.dev.lt
  have za := ha.lt
  have zb := hb.lt
  have tv : T dv ≠ t := by have := h.tag; have := h.two; omega
  have H := Lib.hid h
  clear h ha hb hf hi hv hvd hvT
  generalize s.length = sn at *
  subst hs
  go_enter Tryz.func59, Tryz.ntmps59
  go_wp2
  go_region_held3 (fun w' => w'.cell? ⟨dv, 0, none⟩ = some (.pointer (some ⟨dp, 0, none⟩)) ∧ w'.cell? ⟨ab, 0, none⟩ = some (.int .i64 (i : Int)) ∧ w'.cell? ⟨sb, 0, none⟩ = some (.slice va 128 vc))
    (first | exact HSA.out | exact HSB)
    (first | (go_at_call 60; refine hwr.out.mono ?_; rintro e w2 ⟨rfl, hp⟩; have hp4 : Chg (fun k => T k = t) w.drew w2 := (by obtain ⟨_, _, _, _, k⟩ := hp; exact k); have HSB : w2.cell? ⟨dv, 0, none⟩ = some (.pointer (some ⟨dp, 0, none⟩)) ∧ w2.cell? ⟨ab, 0, none⟩ = some (.int .i64 (i : Int)) ∧ w2.cell? ⟨sb, 0, none⟩ = some (.slice va 128 vc) := ⟨(hp4.cell (p := ⟨dv, 0, none⟩) zv tv).trans HSA.out.1, (hp4.cell (p := ⟨ab, 0, none⟩) za n1).trans HSA.out.2.1, (hp4.cell (p := ⟨sb, 0, none⟩) zb n2).trans HSA.out.2.2⟩; have HP := Lib.hid hp; clear hp))
  go_wp2
  go_ret
  exact ⟨rfl, H.out.post HP.out.drew⟩

set_option maxRecDepth 100000 in
set_option maxHeartbeats 4000000 in
theorem write_do_bad (T : Nat → Nat) (t dv dp ab sb : Nat) (z : Int) (va : Option Addr) (sn vc code : Nat) (x : Dev) (w : World) (h : DevAt w T t dv dp x) (ha : At w ab #[.int .i64 z] 3) (hb : At w sb #[.slice va sn vc] 53)
    (hcode : (x.d.may z ≠ 0 ∧ code = x.d.may z) ∨ (x.d.may z = 0 ∧ sn ≠ 128 ∧ code = 4)) :
    Calls Tryz.prog 59 #[.pointer (some ⟨dv, 0, none⟩), .pointer (some ⟨ab, 0, none⟩), .pointer (some ⟨sb, 0, none⟩)] w fun e w' => e = .returned (.int .u16 (code : Int)) ∧ w' = w.drew := by
  have hwr : Hid (Calls Tryz.prog 60 #[.pointer (some ⟨dp, 0, none⟩), .int .i64 z, .slice va sn vc] w.drew fun e w' => e = .returned (.int .u16 (code : Int)) ∧ w' = w.drew) := by
    rcases hcode with ⟨h1, rfl⟩ | ⟨h1, h2, rfl⟩
    · exact disk_write_bad T t dp z _ x.d w.drew h.disk.drew h1
    · exact disk_write_long T t dp z va sn vc x.d w.drew h.disk.drew h1 h2
  have HSA : Hid (w.drew.cell? ⟨dv, 0, none⟩ = some (.pointer (some ⟨dp, 0, none⟩)) ∧ w.drew.cell? ⟨ab, 0, none⟩ = some (.int .i64 z) ∧ w.drew.cell? ⟨sb, 0, none⟩ = some (.slice va sn vc)) := ⟨h.dev.cell 0, ha.cell 0, hb.cell 0⟩
  clear h ha hb hcode
  go_enter Tryz.func59, Tryz.ntmps59
  go_wp2
  go_region_held3 (fun w' => w'.cell? ⟨dv, 0, none⟩ = some (.pointer (some ⟨dp, 0, none⟩)) ∧ w'.cell? ⟨ab, 0, none⟩ = some (.int .i64 z) ∧ w'.cell? ⟨sb, 0, none⟩ = some (.slice va sn vc))
    (first | exact HSA.out)
    (first | (go_at_call 60; refine hwr.out.mono ?_; rintro e w2 ⟨rfl, rfl⟩))
  go_wp2
  go_ret
  exact ⟨rfl, rfl⟩

set_option maxRecDepth 100000 in
set_option maxHeartbeats 2000000 in
theorem flush_do_ok (T : Nat → Nat) (t dv dp : Nat) (x : Dev) (w : World) (h : DevAt w T t dv dp x) (hf : x.d.failed = false) (hc : x.d.cache.length ≤ 1000000) :
    Calls Tryz.prog 97 #[.pointer (some ⟨dv, 0, none⟩)] w fun e w' => e = .returned (.int .u16 0) ∧ DevPost w T t dv dp ⟨x.d.settled, x.worn, x.left⟩ w' := by
  have hfl := Lib.hid (disk_flush T t dp x.d w h.disk hf hc)
  have c0 : w.cell? ⟨dv, 0, none⟩ = some (.pointer (some ⟨dp, 0, none⟩)) := h.dev.cell 0
  have H := Lib.hid h
  clear h
  go_enter Tryz.func97, Tryz.ntmps97
  go_wp2_with (go_at_call 98; refine hfl.out.mono ?_; rintro e w2 ⟨rfl, r1, r2⟩)
  go_ret
  exact ⟨rfl, H.out.post (DiskPost.same r1 r2)⟩

set_option maxRecDepth 100000 in
set_option maxHeartbeats 2000000 in
theorem flush_do_bad (T : Nat → Nat) (t dv dp : Nat) (x : Dev) (w : World) (h : DevAt w T t dv dp x) (hf : x.d.failed = true) :
    Calls Tryz.prog 97 #[.pointer (some ⟨dv, 0, none⟩)] w fun e w' => e = .returned (.int .u16 2) ∧ w' = w := by
  have hfl := Lib.hid (disk_flush_bad T t dp x.d w h.disk hf)
  have c0 : w.cell? ⟨dv, 0, none⟩ = some (.pointer (some ⟨dp, 0, none⟩)) := h.dev.cell 0
  clear h
  go_enter Tryz.func97, Tryz.ntmps97
  go_wp2_with (go_at_call 98; refine hfl.out.mono ?_; rintro e w2 ⟨rfl, rfl⟩)
  go_ret
  exact ⟨rfl, rfl⟩

end Go.Proofs.YtleicmmbaacbmaaGreat

/- A bay of disks: an operation. -/
set_option linter.unusedVariables false
namespace Go.Proofs.YtleicmmbaacbmaaGreat
open Go.RowKit

/-- The bay's own cells turned. -/
theorem BayIn.cells' {W W' : World} {T : Nat → Nat} {b : Nat} {s : BaySt} {gs : Nat} {ptr : Nat → Option Nat} {tg dp : Nat → Nat} (h : BayIn W T b s gs ptr tg dp) (hc : Chg (fun k => k = b) W W') (dark : Bool) (trip : Int) (cnt : Nat → Int)
    (ha : At W' b #[.slice (some ⟨gs, 0, none⟩) s.n s.n, .bool dark, .int .i64 trip, .int .i64 (cnt 0), .int .i64 (cnt 1), .int .i64 (cnt 2)] 80) (h1 : ∀ j, 0 ≤ cnt j) (h2 : -1 ≤ trip) (h3 : trip ≤ 9223372036854775807) : BayIn W' T b { s with dark := dark, trip := trip, cnt := cnt } gs ptr tg dp := by
  have hne : gs ≠ b := fun e => by
    have a := h.bay; have c := h.slots
    subst e
    unfold At at a c
    rw [a] at c
    simp only [Option.some.injEq, Obj.cells.injEq] at c
    exact absurd c.2.1 (by decide)
  refine ⟨ha, h.slots.mod hc hne, h.tb, h.ts, fun i hi x hx => ?_, h.none', h.apart, h.own, fun k hk => h.virgin k (Nat.le_trans hc.size hk), h.few, h1, h2, h3⟩
  obtain ⟨dv, k1, k2⟩ := h.some' i hi x hx
  refine ⟨dv, k1, k2.keep hc (fun k hk e => ?_)⟩
  subst e
  rcases hk with hk | hk
  · have := h.tb; have := k2.two; omega
  · subst hk
    have a := h.bay; have c := k2.dev
    unfold At at a c
    rw [a] at c
    simp only [Option.some.injEq, Obj.cells.injEq] at c
    exact absurd c.2.1 (by decide)

/-- A device turned. -/
theorem BayIn.device {W W' : World} {T : Nat → Nat} {b : Nat} {s : BaySt} {gs : Nat} {ptr : Nat → Option Nat} {tg dp : Nat → Nat} (h : BayIn W T b s gs ptr tg dp) {i dv : Nat} {x x' : Dev} (hi : i < 3 * s.n) (hx : s.pos i = some x) (hp : ptr i = some dv) (hd : DevPost W T (tg i) dv (dp i) x' W') :
    ∃ T', BayIn W' T' b { s with pos := fun q => if q = i then some x' else s.pos q } gs ptr tg dp ∧ (∀ k, k < W.heap.size → T' k = T k) ∧ Chg (fun k => T k ≠ 0) W W' := by
  obtain ⟨T', d1, d2, d3, d4⟩ := hd
  obtain ⟨dv0, q1, q2⟩ := h.some' i hi x hx
  rw [hp] at q1
  simp only [Option.some.injEq] at q1
  subst q1
  have htwo := q2.two
  have hne : ∀ g cs ty, At W g cs ty → ty ≠ 86 → g ≠ dv := fun g cs ty ha hty e => by
    subst e
    have c := q2.dev
    unfold At at ha c
    rw [ha] at c
    simp only [Option.some.injEq, Obj.cells.injEq] at c
    exact hty c.2.1
  have hb : ¬ (T b = tg i ∨ b = dv) := by
    rintro (e | e)
    · have := h.tb; omega
    · exact hne b _ _ h.bay (by decide) e
  have hs : ¬ (T gs = tg i ∨ gs = dv) := by
    rintro (e | e)
    · have := h.ts; omega
    · exact hne gs _ _ h.slots (by decide) e
  refine ⟨T', ⟨h.bay.mod d4 hb, h.slots.mod d4 hs, by rw [d2 b (.inl h.bay.lt)]; exact h.tb, by rw [d2 gs (.inl h.slots.lt)]; exact h.ts, fun j hj y hy => ?_, fun j hj hy => ?_, fun j l hj hl hjl a c => ?_, h.own, fun k hk => ?_, h.few, h.cl, h.trl, h.trh⟩, fun k hk => d2 k (.inl hk), d4.mono fun k hk => ?_⟩
  · by_cases hji : j = i
    · subst hji
      simp only [if_pos, Option.some.injEq] at hy
      subst hy
      exact ⟨dv, hp, d1⟩
    · simp only [if_neg hji] at hy
      obtain ⟨dv2, e1, e2⟩ := h.some' j hj y hy
      have hap := h.apart j i hj hi hji (by rw [hy]; simp) (by rw [hx]; simp)
      refine ⟨dv2, e1, ?_⟩
      refine ⟨e2.dev.mod d4 ?_, by rw [d2 dv2 (.inl e2.dev.lt)]; exact e2.tag, e2.two, ?_, e2.lo, e2.hi⟩
      · rintro (e | e)
        · have := e2.tag; omega
        · exact h.own j i hj hi hji dv2 e1 (by rw [hp, e])
      · refine (e2.disk.retag (fun g hg => d2 g (.inl hg))).keep d4 (fun q hq e => ?_)
        have hap' : tg j ≠ tg i := hap
        rcases d3 q with h3 | h3
        · rw [h3] at hq
          rcases e with e | e
          · omega
          · subst e; have := q2.tag; have := e2.two; omega
        · omega
  · by_cases hji : j = i
    · subst hji; simp at hy
    · simp only [if_neg hji] at hy; exact h.none' j hj hy
  · have a' : s.pos j ≠ none := by
      by_cases hji : j = i
      · subst hji; rw [hx]; simp
      · simpa [hji] using a
    have c' : s.pos l ≠ none := by
      by_cases hli : l = i
      · subst hli; rw [hx]; simp
      · simpa [hli] using c
    exact h.apart j l hj hl hjl a' c'
  · rw [d2 k (.inr hk)]
    exact h.virgin k (Nat.le_trans d4.size hk)
  · rcases hk with hk | hk
    · omega
    · subst hk; have := q2.tag; omega


/-- A bay behind the beginning of an operation: j is what it counts as, i the disk's place, x' the device behind its wear. -/
def BaySt.begun (s : BaySt) (j i : Nat) (x' : Dev) : BaySt :=
  { s with trip := if 0 < s.trip then s.trip - 1 else s.trip, cnt := fun q => if q = j then s.cnt j + 1 else s.cnt q, pos := fun q => if q = i then some x' else s.pos q }

theorem DevAt.use_post {w w' : World} {T : Nat → Nat} {t dv dp : Nat} {x : Dev} (h : DevAt w' T t dv dp x) (hc : Chg (fun k => T k = t ∨ k = dv) w w') : DevPost w T t dv dp x w' := ⟨T, h, fun _ _ => rfl, fun _ => .inl rfl, hc⟩

/-- As 'device', the tags being as they were. -/
theorem BayIn.used {W W' : World} {T : Nat → Nat} {b : Nat} {s : BaySt} {gs : Nat} {ptr : Nat → Option Nat} {tg dp : Nat → Nat} (h : BayIn W T b s gs ptr tg dp) {i dv : Nat} {x x' : Dev} (hi : i < 3 * s.n) (hx : s.pos i = some x) (hp : ptr i = some dv) (hd : DevAt W' T (tg i) dv (dp i) x') (hc : Chg (fun k => T k = tg i ∨ k = dv) W W') :
    BayIn W' T b { s with pos := fun q => if q = i then some x' else s.pos q } gs ptr tg dp ∧ Chg (fun k => T k ≠ 0) W W' := by
  obtain ⟨dv0, q1, q2⟩ := h.some' i hi x hx
  rw [hp] at q1
  simp only [Option.some.injEq] at q1
  subst q1
  have htwo := q2.two
  have hne : ∀ g cs ty, At W g cs ty → ty ≠ 86 → g ≠ dv := fun g cs ty ha hty e => by
    subst e
    have c := q2.dev
    unfold At at ha c
    rw [ha] at c
    simp only [Option.some.injEq, Obj.cells.injEq] at c
    exact hty c.2.1
  refine ⟨⟨h.bay.mod hc ?_, h.slots.mod hc ?_, h.tb, h.ts, fun j hj y hy => ?_, fun j hj hy => ?_, fun j l hj hl hjl a c => ?_, h.own, fun k hk => h.virgin k (Nat.le_trans hc.size hk), h.few, h.cl, h.trl, h.trh⟩, hc.mono fun k hk => ?_⟩
  · rintro (e | e)
    · have := h.tb; omega
    · exact hne b _ _ h.bay (by decide) e
  · rintro (e | e)
    · have := h.ts; omega
    · exact hne gs _ _ h.slots (by decide) e
  · by_cases hji : j = i
    · subst hji
      simp only [if_pos, Option.some.injEq] at hy
      subst hy
      exact ⟨dv, hp, hd⟩
    · simp only [if_neg hji] at hy
      obtain ⟨dv2, e1, e2⟩ := h.some' j hj y hy
      have hap := h.apart j i hj hi hji (by rw [hy]; simp) (by rw [hx]; simp)
      refine ⟨dv2, e1, e2.keep hc (fun k hk e => ?_)⟩
      rcases hk with hk | hk
      · rcases e with e | e
        · omega
        · subst e; have := q2.tag; have := e2.two; omega
      · subst hk
        rcases e with e | e
        · have := e2.tag; omega
        · exact h.own j i hj hi hji k e1 (by rw [hp, e])
  · by_cases hji : j = i
    · subst hji; simp at hy
    · simp only [if_neg hji] at hy; exact h.none' j hj hy
  · have a' : s.pos j ≠ none := by
      by_cases hji : j = i
      · subst hji; rw [hx]; simp
      · simpa [hji] using a
    have c' : s.pos l ≠ none := by
      by_cases hli : l = i
      · subst hli; rw [hx]; simp
      · simpa [hli] using c
    exact h.apart j l hj hl hjl a' c'
  · rcases hk with hk | hk
    · omega
    · subst hk; have := q2.tag; omega


end Go.Proofs.YtleicmmbaacbmaaGreat
