/- What collects spans: slices.AppendSeq and slices.Collect at spans, over an iterator that writes variables of its own. -/
import Derived.Test.YtjmnbpghfnageaaRingA
namespace Go.Proofs.Ytjmnbpghfnageaa
open Go.RowKit Go.Shelf
attribute [local go_sem] Oper.semAt_some

theorem slice28 : SliceOf Try.prog 28 31 2 16 := SliceOf.mk' (z := .agg #[.int .i64 0, .int .i64 0]) Try.underlying28 (by decide) (by kernel_rfl) rfl

def spanCells (x : Nat × Nat) : List Value := [.int .i64 (x.1 : Int), .int .i64 (x.2 : Int)]

theorem spanCells_length (l : List (Nat × Nat)) : (l.flatMap spanCells).length = l.length * 2 := by
  induction l with
  | nil => rfl
  | cons x l ih => rw [List.flatMap_cons, List.length_append, ih, List.length_cons]; simp [spanCells]; omega

theorem ownsRow_form {w : World} {base : Nat} {e : TypeId} {size : Nat} {v : Value} {n : Nat} {xs : List Value} (h : w.ownsRow base e size v n xs) (hn : 0 < n) :
    ∃ g cap, v = .slice (some ⟨g, 0, none⟩) n cap ∧ base ≤ g := by
  rcases h.2 with ⟨_, h0⟩ | ⟨g, cap, cur, hv, hb, _⟩
  · omega
  · exact ⟨g, cap, hv, hb⟩

theorem ownsRow_isCells {W : World} {base : Nat} {e : TypeId} {size : Nat} {v : Value} {k : Nat} {xs : List Value} (h : W.ownsRow base e size v k xs) : ∀ (j : Nat) (o : Obj), v.ownBlock = some j → W.heap[j]? = some o → o.isCells = true := by
  intro j o hj ho
  rcases h.2 with ⟨rfl, _⟩ | ⟨g, cap, cur, rfl, _, hgb, _⟩
  · simp [Value.ownBlock] at hj
  · have : g = j := by simpa [Value.ownBlock] using hj
    subst this; rw [hgb] at ho; cases ho; rfl

theorem chg_below {S : Nat → Prop} {a b c : World} (h : Chg S a b) (hb : Below a.heap.size b c) : Chg S a c :=
  ⟨hb.os.trans h.os, hb.tape.trans h.tape, hb.output.trans h.output, Nat.le_trans h.size hb.size, fun k hk hs => (hb.block k hk).trans (h.block k hk hs)⟩

/-- Between two rounds of the collecting loop. -/
def ApI (own : Nat → Prop) (w : World) (pre : List (Nat × Nat)) (W : World) : Prop :=
  ∃ v, At W w.heap.size #[v] 28 ∧ W.ownsRow (w.heap.size + 1) 31 2 v pre.length (pre.flatMap spanCells) ∧ (v = .slice none 0 0 ↔ pre = []) ∧ Chg own w W

/-- Behind the loop's assignment: the loop's variable lies in a block of its own. -/
def ApAx (own : Nat → Prop) (w : World) (sv : Value) (_l : Nat) (pre : List (Nat × Nat)) (x : Nat × Nat) (a' : Act) (W : World) : Prop :=
  ApI own w pre W ∧ ∃ Bx, w.heap.size + 1 ≤ Bx ∧ At W Bx #[.int .i64 (x.1 : Int), .int .i64 (x.2 : Int)] 31 ∧
    a' = { tmps := #[.slice none 0 0, sv, .pointer (some ⟨w.heap.size, 0, none⟩), undef, .slice none 0 0, .pointer (some ⟨Bx, 0, none⟩), sv, encSpan x, undef, undef, undef, undef, undef], defers := [] }

theorem chg_turns {own : Nat → Prop} {B : Nat} {w A A' : World} (h : Chg own w A) (hT : Turns own B A A') (hB : w.heap.size ≤ B) : Chg own w A' :=
  ⟨hT.os.trans h.os, hT.tape.trans h.tape, hT.output.trans h.output, Nat.le_trans h.size hT.size, fun k hk hs =>
    (hT.block k (Nat.lt_of_lt_of_le hk h.size) (fun hs' => by
      rcases hs' with hs' | ⟨hs', _⟩
      · exact hs hs'
      · omega)).trans (h.block k hk hs)⟩

theorem ApI.turns {own : Nat → Prop} {w : World} {B : Nat} {pre : List (Nat × Nat)} {A A' : World} (h : ApI own w pre A) (hT : Turns own B A A') (hB : w.heap.size ≤ B) (ho : ∀ k, own k → k < w.heap.size) : ApI own w pre A' := by
  obtain ⟨v, h1, h2, h3, h4⟩ := h
  exact ⟨v, h1.turns hT (fun hs => by have := ho _ hs; omega), ownsRow_turns h2 hT (fun k hk hs => by have := ho _ hs; omega), h3, chg_turns h4 hT hB⟩

set_option maxRecDepth 100000 in
set_option maxHeartbeats 2000000 in
theorem appendSeq_any (m gf : Nat) (lb : Array Value) (own : Nat → Prop) (B : Nat) (xs : List (Nat × Nat)) (w : World) (eg : ∀ args w, (callFunc gf args).run Try.prog w = .ok (.enter gf args) w)
    (hseq : SeqW (m - 1) Try.prog gf lb (fun x => #[encSpan x]) own B xs w) (hBw : B ≤ w.heap.size) (hown : ∀ k, own k → k < B) (hlen : xs.length ≤ 1000000) :
    CallsIn Fence.wide m Try.prog 73 #[.slice none 0 0, .func (.func gf) #[] lb] w fun e w' => ∃ v, e = .returned v ∧ w'.ownsRow (w.heap.size + 1) 31 2 v xs.length (xs.flatMap spanCells) ∧ (v = .slice none 0 0 ↔ xs = []) ∧ Chg own w w' := by
  refine callsIn_of_wp_marks Try.func73 rfl trivial ?_ rfl
  simp only [Try.ntmps73, List.size_toArray, List.length_cons, List.length_nil, Nat.reduceAdd, Nat.reduceSub, Array.replicate_succ, Array.replicate_zero, List.push_toArray, List.append_toArray, List.nil_append, List.cons_append]
  gi_wp2
  refine wpIn_rangeFunc_W (w0 := w) (gf := gf) (lb := lb) rfl eg hseq (((Below.refl _ w).alloc (Nat.le_refl _) _).mono hBw) (by rw [size_alloc]; omega) hown (fun _ => rfl) (ApI own w) (fun _ _ _ => False)
    (fun pre A A' h hT => h.turns hT (by rw [size_alloc]; omega) (fun k hk => Nat.lt_of_lt_of_le (hown k hk) hBw)) (fun _ _ _ _ h _ => h) ?_
    (ApAx own w (.func (.func gf) #[] lb)) ?_ ?assign ?body ?done ?stop
  · intro W1 hb
    refine ⟨.slice none 0 0, (At.new w _ _).below hb (by rw [size_alloc]; omega), World.ownsRow_nil _ _ _ _, by simp, ?_⟩
    exact ((Chg.refl own w).alloc _).trans (Chg.ofBelow hb own)
  · rintro l pre x a' A A' ⟨h, Bx, h1, h2, h3⟩ hT
    exact ⟨h.turns hT (by rw [size_alloc]; omega) (fun k hk => Nat.lt_of_lt_of_le (hown k hk) hBw), Bx, h1, h2.turns hT (fun hs => by have := hown _ hs; omega), h3⟩
  case assign =>
    intro l pre x W K hl hlt hpre hi hK
    obtain ⟨v, _, _, _, hc⟩ := id hi
    have hsz := hc.size
    simp only [encSpan, List.zip_toArray, List.zip_cons_cons, List.zip_nil_right]
    gi_wp2
    refine hK _ _ ((KeepsOthers.alloc _ _).from _) ((Below.refl B W).alloc (by omega) _) ⟨hi.turns (B := W.heap.size) (Turns.ofChg ((Chg.refl own W).alloc _)) hsz (fun k hk => Nat.lt_of_lt_of_le (hown k hk) hBw), W.heap.size, ?_, At.new _ _ _, rfl⟩
    rw [size_alloc] at hl
    omega
  case body =>
    rintro l pre x a' W hl hr hpre ⟨⟨v, h1, h2, h3, h4⟩, Bx, hBx, hx, rfl⟩
    have hsz := h4.size
    have c0 : W.cell? ⟨Bx, 0, none⟩ = some (.int .i64 (x.1 : Int)) := hx.cell 0
    have c1 : W.cell? ⟨Bx, 1, none⟩ = some (.int .i64 (x.2 : Int)) := hx.cell 1
    have cs : W.cell? ⟨w.heap.size, 0, none⟩ = some v := h1.cell 0
    have hlp : pre.length + 1 ≤ 1000000 := by
      have := hpre.length_le
      simp at this
      omega
    obtain ⟨i1, i0, i, z, i2, i3, i4, i5, i6⟩ := slice28
    gi_wp2_with (gi_at_builtin; refine wpListIn_append_own _ rfl _ _ 28 rfl (w.heap.size + 1) 31 i z 2 16 i1 i2 i3 i4 i5 i6 i0 v pre.length _ rfl (h2.alloc _) ⟨W.heap.size, 0, none⟩ 1 1 (spanCells x) rfl rfl (cell_two_new _ _ _ _) (by intro u hu; simp [spanCells] at hu; rcases hu with rfl | rfl <;> rfl) (by unfold maxLen; omega) (by omega) (by rw [size_alloc]; have := h1.lt; omega) ?_; intro v' w3 hown3 hg3 hnil3; obtain ⟨g', cap', rfl, hg'⟩ := ownsRow_form hown3 (by omega); have a3 : At w3 w.heap.size #[v] 28 := (hg3.block _ (by rw [size_alloc]; have := h1.lt; omega) (fun e => by have := (h2.lt _ e.symm).1; omega)).trans (h1.alloc _); have c3 : w3.cell? ⟨w.heap.size, 0, none⟩ = some v := a3.cell 0; have f3 := a3.free 0)
    have hC : (w.alloc (Obj.cells #[Value.slice none 0 0] 28)).heap.size = w.heap.size + 1 := size_alloc _ _
    have k1 : KeepsOthers W (W.alloc (.cells #[.int .i64 (x.1 : Int), .int .i64 (x.2 : Int)] 31)) := KeepsOthers.alloc _ _
    have k2 : KeepsOthers (W.alloc (.cells #[.int .i64 (x.1 : Int), .int .i64 (x.2 : Int)] 31)) w3 := KeepsOthers.of_grownBy hg3 (ownsRow_isCells (h2.alloc _))
    have b2 : Below B W w3 := ((Below.refl B W).alloc (by omega) _).grown hg3 (by rw [size_alloc]; omega) (fun k hk => by have := (h2.lt k hk).1; omega)
    refine ⟨((k1.trans k2).trans (KeepsOthers.setCell _ _ _)).from _, b2.setCell (by simpa using hBw) _, .slice (some ⟨g', 0, none⟩) (pre.length + 1) cap', a3.set 0 _, ?_, by simp, ?_⟩
    · have h := ownsRow_setCell_below hown3 (a := ⟨w.heap.size, 0, none⟩) (by simp) (.slice (some ⟨g', 0, none⟩) (pre.length + 1) cap')
      rw [List.length_append, List.flatMap_append]
      simpa using h
    · refine Chg.setCell (S := own) (chg_below h4 ?_) ⟨w.heap.size, 0, none⟩ (.inr (Nat.le_refl _)) _
      exact ((Below.refl _ W).alloc (by omega) _).grown hg3 (by rw [size_alloc]; omega) (fun k hk => by have := (h2.lt k hk).1; omega)
  case done =>
    rintro D W hD ⟨v, h1, h2, h3, h4⟩ hd
    have cs : W.cell? ⟨w.heap.size, 0, none⟩ = some v := h1.cell 0
    gi_wp2
    have hT := Turns.putObj (own := own) (B := w.heap.size) (by rw [size_alloc] at hD; omega) hd rfl (.deferred none)
    have hno : ∀ k, w.heap.size ≤ k → ¬ own k := fun k hk ho => by have := hown k ho; omega
    refine ⟨by simp, .inl ⟨_, _, rfl, run_takeDeferred hd, ?_⟩⟩
    exact ⟨_, results_tmp rfl _ _ _, v, rfl, ownsRow_turns h2 hT (fun k hk => hno k (by omega)), h3, chg_turns h4 hT (Nat.le_refl _)⟩
  case stop =>
    intro D c pre W _ h _
    exact h.elim

set_option maxRecDepth 100000 in
set_option maxHeartbeats 1000000 in
/-- slices.Collect of the ring's spans. -/
theorem collect_any (gr Br Bf Bn size start n : Nat) (tail used : Int) (w : World) (hsz : size ≤ 2048) (hst : start < size) (hn : n ≤ size)
    (hgr : At w gr #[.int .i64 size, .int .i64 tail, .int .i64 used] 90) (hr : At w Br #[.pointer (some ⟨gr, 0, none⟩)] 22) (hf : At w Bf #[.int .i64 start] 3) (hnn : At w Bn #[.int .i64 n] 3)
    (h1 : gr ≠ Bf) (h2 : gr ≠ Bn) (h3 : Br ≠ Bf) (h4 : Br ≠ Bn) (h5 : Bf ≠ Bn) :
    Calls Try.prog 45 #[.func (.func 74) #[] #[.pointer (some ⟨Bn, 0, none⟩), .pointer (some ⟨Br, 0, none⟩), .pointer (some ⟨Bf, 0, none⟩)]] w fun e w' =>
      ∃ v, e = .returned v ∧ w'.ownsRow w.heap.size 31 2 v (spansL size start n).length ((spansL size start n).flatMap spanCells) ∧ (v = .slice none 0 0 ↔ spansL size start n = []) ∧ Chg (fun k => k = Bf ∨ k = Bn) w w' := by
  have hseq := spans1_seq 5 gr w.heap.size Br Bf Bn size start n tail used w (by omega) hsz hst hn hgr hr hf hnn hgr.lt hr.lt hf.lt hnn.lt h1 h2 h3 h4 h5
  have hlen : (spansL size start n).length ≤ 1000000 := by
    unfold spansL
    split
    · simp
    · split <;> simp
  have hcall := callsIn_wide.1 (appendSeq_any 6 74 _ _ w.heap.size _ w (enters_of Try.func74 (by kernel_rfl) rfl) hseq (Nat.le_refl _) (fun k hk => by rcases hk with rfl | rfl; exact hf.lt; exact hnn.lt) hlen)
  have Hc := Lib.hid hcall
  clear hcall hseq hgr hr hf hnn
  go_enter Try.func45, Try.ntmps45
  go_wp2_with (go_at_call 73; refine Hc.out.mono ?_; rintro e w' ⟨v, rfl, hown, hnil, hc⟩)
  go_ret
  refine ⟨v, rfl, ?_, hnil, hc⟩
  exact ⟨hown.1, hown.2.imp id (fun ⟨g, cap, cur, a, b, r⟩ => ⟨g, cap, cur, a, by omega, r⟩)⟩

end Go.Proofs.Ytjmnbpghfnageaa
