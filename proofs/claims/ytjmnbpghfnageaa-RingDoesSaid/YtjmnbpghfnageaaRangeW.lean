/- A range over a function whose iterator writes variables of its own (which it has captured): the iterator's contract, and the law for the loop over it. -/
import Derived.RangeFuncNested
import Derived.RangeFuncBound
import Derived.RangeFuncCalls
import Derived.RangeFuncLeaves
import Derived.Test.YtjmnbpghfnageaaBlk
namespace Go
open Go.RowKit

/-- What a step of the loop's machinery, or of the iterator, may turn: the iterator's own variables, and what is no cells from B on. -/
def Turns (own : Nat → Prop) (B : Nat) (A A' : World) : Prop := Chg (fun k => own k ∨ (B ≤ k ∧ ∃ o : Obj, A.heap[k]? = some o ∧ o.isCells = false)) A A'

theorem Turns.ofChg {own : Nat → Prop} {B : Nat} {A A' : World} (h : Chg own A A') : Turns own B A A' := h.mono fun _ hk => .inl hk

theorem Turns.putObj {own : Nat → Prop} {B : Nat} {A : World} {l : Nat} {o : Obj} (hB : B ≤ l) (hl : A.heap[l]? = some o) (ho : o.isCells = false) (o' : Obj) : Turns own B A (A.putObj l o') :=
  ⟨rfl, rfl, rfl, by simp, fun k _ hk => World.putObj_heap_other (fun e => hk (.inr ⟨by omega, o, by rw [e]; exact hl, ho⟩))⟩

theorem At.turns {own : Nat → Prop} {B : Nat} {A A' : World} {g : Nat} {cs : Array Value} {t : TypeId} (h : At A g cs t) (hT : Turns own B A A') (hg : ¬ own g) : At A' g cs t :=
  h.mod hT (fun hs => by
    rcases hs with hs | ⟨_, o, ho, hc⟩
    · exact hg hs
    · rw [show A.heap[g]? = _ from h] at ho
      cases ho
      cases hc)

theorem ownsRow_turns {own : Nat → Prop} {B : Nat} {A A' : World} {base : Nat} {e : TypeId} {size : Nat} {v : Value} {n : Nat} {xs : List Value} (h : A.ownsRow base e size v n xs) (hT : Turns own B A A') (hg : ∀ k, base ≤ k → ¬ own k) : A'.ownsRow base e size v n xs := by
  refine ⟨h.1, ?_⟩
  rcases h.2 with hn | ⟨g, cap, cur, hv, hb, hh, r⟩
  · exact .inl hn
  · exact .inr ⟨g, cap, cur, hv, hb, At.turns (cs := cur) hh hT (hg g hb), r⟩

theorem below_turns {own : Nat → Prop} {B C : Nat} {w A A' : World} (h : Below C w A) (hT : Turns own B A A') (hC : C ≤ w.heap.size) (hB : C ≤ B) (ho : ∀ k, k < C → ¬ own k) : Below C w A' :=
  h.trans (hT.below fun k hk => ⟨Nat.lt_of_lt_of_le hk (Nat.le_trans hC h.size), fun hs => by
    rcases hs with hs | ⟨hs, _⟩
    · exact ho k hk hs
    · omega⟩)

/-- The iterator (function g, what it has captured: lb) gives xs, in this order; it writes blocks of 'own' alone; whatever happens in a round leaves all below B as it was. -/
def SeqW {α : Type} (m : Nat) (P : Program) (g : Nat) (lb : Array Value) (encs : α → Array Value) (own : Nat → Prop) (B : Nat) (xs : List α) (w0 : World) : Prop :=
  ∀ (l : Nat) (J Jx : List α → World → Prop) (W : World), Below B w0 W →
    (∀ pre A A', J pre A → Chg own A A' → J pre A') → (∀ pre A A', Jx pre A → Chg own A A' → Jx pre A') →
    (∀ pre x A, (pre ++ [x]) <+: xs → J pre A → YieldAt Fence.wide (m - 1) P l (encs x) A fun e A' =>
      (e = .returned (.bool true) ∧ J (pre ++ [x]) A' ∧ Below B A A') ∨ (e = .returned (.bool false) ∧ Jx (pre ++ [x]) A')) →
    J [] W → CallsIn Fence.wide m P g (#[.func (.yield l) #[] #[]] ++ lb) W fun e W' => (∃ v, e = .returned v) ∧ (J xs W' ∨ ∃ pre, Jx pre W')

/-- How a round's body may be left. -/
def roundEnd {α : Type} (C B : Nat) (I : List α → World → Prop) (Ix : Code → List α → World → Prop) (xs : List α) (W : World) : Exit → Act → World → Prop
  | .normal, _, W' => KeepsFrom C W W' ∧ Below B W W' ∧ I xs W'
  | .ret, _, W' => KeepsFrom C W W' ∧ Ix .ret xs W'
  | .exit id, _, W' => KeepsFrom C W W' ∧ Ix (.exit id) xs W'
  | .goto t, _, W' => KeepsFrom C W W' ∧ Ix (.goto t) xs W'
  | .panic _, _, _ => False
  | .outgrown, _, _ => False

theorem wpIn_rangeFunc_W {α : Type} {n : Nat} {P : Program} {g : Operand} {ps : Array Tmp} {assign body : Code} {Q : Exit → Act → World → Prop} {a : Act} {w : World}
    {gf : Nat} {lb : Array Value} (hg : a.eval g = .func (.func gf) #[] lb) (eg : ∀ args w, (callFunc gf args).run P w = .ok (.enter gf args) w)
    {encs : α → Array Value} {own : Nat → Prop} {B : Nat} {xs : List α} {w0 : World} (hseq : SeqW (n - 1) P gf lb encs own B xs w0) (hb0 : Below B w0 w) (hBw : B ≤ w.heap.size) (hown : ∀ k, own k → k < B)
    (hps : ∀ x, (encs x).size = ps.size)
    (I : List α → World → Prop) (Ix : Code → List α → World → Prop)
    (hI : ∀ pre A A', I pre A → Turns own w.heap.size A A' → I pre A') (hIx : ∀ c pre A A', Ix c pre A → Turns own w.heap.size A A' → Ix c pre A')
    (h0 : ∀ W1, Below w.heap.size w W1 → I [] W1)
    (Ax : Nat → List α → α → Act → World → Prop) (hAx : ∀ l pre x a' A A', Ax l pre x a' A → Turns own w.heap.size A A' → Ax l pre x a' A')
    (hassign : ∀ (l : Nat) (pre : List α) (x : α) (W : World) (K : Act → World → Prop), w.heap.size ≤ l → l < W.heap.size → (pre ++ [x]) <+: xs → I pre W → (∀ a' W', KeepsFrom w.heap.size W W' → Below B W W' → Ax l pre x a' W' → K a' W') →
      assign.wpIn (Fence.wide.inRound l) (n - 1 - 1) P (Exit.then K (fun _ _ _ => False)) { tmps := (ps.zip (encs x)).foldl (fun t (p, v) => t.setIfInBounds p v) a.tmps, defers := [] } W)
    (hbody : ∀ (l : Nat) (pre : List α) (x : α) (a' : Act) (W : World), w.heap.size ≤ l → (∃ r, W.heap[l]? = some (.loop r)) → (pre ++ [x]) <+: xs → Ax l pre x a' W →
      body.wpIn (Fence.wide.inRound l) (n - 1 - 1) P (roundEnd w.heap.size B I Ix (pre ++ [x]) W) a' W)
    (hdone : ∀ (D : Nat) (W : World), w.heap.size ≤ D → I xs W → W.heap[D]? = some (.deferred (some [])) → Q .normal { a with defers := { target := .collected D, args := #[] } :: a.defers } W)
    (hstop : ∀ (D : Nat) (c : Code) (pre : List α) (W : World), w.heap.size ≤ D → Ix c pre W → W.heap[D]? = some (.deferred (some [])) → c.wpIn Fence.wide n P Q { a with defers := { target := .collected D, args := #[] } :: a.defers } W) :
    (Code.rangeFunc g ps assign body).wpIn Fence.wide n P Q a w := by
  refine wpIn_rangeFunc fun fn hfn => ?_
  -- the loop's record and the block for the rounds' deferred calls
  obtain ⟨rec, hrec⟩ : ∃ rec : LoopState → Option Code → Loop, rec = fun st pe => { state := st, pending := pe, fn, tmps := a.tmps, params := ps, assign, body, defers := w.heap.size } := ⟨_, rfl⟩
  obtain ⟨W1, hW1⟩ : ∃ W1, (w.alloc (.deferred (some []))).alloc (.loop (rec .ready none)) = W1 := ⟨_, rfl⟩
  have hD1 : W1.heap[w.heap.size]? = some (.deferred (some [])) := by rw [← hW1]; exact heap_alloc2_old w _ _
  have hL1 : W1.heap[w.heap.size + 1]? = some (.loop (rec .ready none)) := by rw [← hW1]; exact heap_alloc2_new w _ _
  have hbw : Below w.heap.size w W1 := by rw [← hW1]; exact ((Below.refl _ w).alloc (Nat.le_refl _) _).alloc (by rw [size_alloc]; omega) _
  have hno : ∀ k, w.heap.size ≤ k → ¬ own k := fun k hk ho => by have := hown k ho; omega
  refine ⟨w.heap.size + 1, [{ target := .collected w.heap.size, args := #[] }], W1, { target := .fn (.func gf) lb, args := #[.func (.yield (w.heap.size + 1)) #[] #[]] }, W1, gf,
    #[.func (.yield (w.heap.size + 1)) #[] #[]] ++ lb, W1, ?_, ?_, fun _ _ => trivial, ?_, fun h => by simp [Fence.wide] at h, ?_⟩
  · rw [← hW1, hrec]; exact run_enterLoop_outer _ _ _ _ _
  · simp only [resolve, hg]; simp [go_sem]
  · simp [invoke, go_sem, eg]
  have chgKeep : ∀ {A A' : World} {k : Nat} {o : Obj}, A.heap[k]? = some o → w.heap.size ≤ k → Chg own A A' → A'.heap[k]? = some o := fun hk hle hc =>
    (hc.block _ (Array.getElem?_eq_some_iff.1 hk).1 (hno _ hle)).trans hk
  refine (hseq (w.heap.size + 1)
    (fun pre W => I pre W ∧ W.heap[w.heap.size + 1]? = some (.loop (rec .ready none)) ∧ W.heap[w.heap.size]? = some (.deferred (some [])))
    (fun pre W => ∃ c, Ix c pre W ∧ W.heap[w.heap.size + 1]? = some (.loop (rec .done (some c))) ∧ W.heap[w.heap.size]? = some (.deferred (some [])))
    W1 (hb0.trans (hbw.mono hBw))
    (fun pre A A' ⟨h1, h2, h3⟩ hc => ⟨hI pre A A' h1 (Turns.ofChg hc), chgKeep h2 (by omega) hc, chgKeep h3 (Nat.le_refl _) hc⟩)
    (fun pre A A' ⟨c, h1, h2, h3⟩ hc => ⟨c, hIx c pre A A' h1 (Turns.ofChg hc), chgKeep h2 (by omega) hc, chgKeep h3 (Nat.le_refl _) hc⟩)
    ?_ ⟨h0 W1 hbw, hL1, hD1⟩).mono ?_
  · -- one round
    rintro pre x W hpre ⟨hi, hl, hd⟩
    have hy := run_yield (P := P) (args := encs x) hl (by rw [hrec]; exact hps x)
    rw [hrec] at hy
    refine ⟨fn, _, assign, body, hy, roundIn_of_wpIn hfn (hassign _ pre x W _ (by omega) (Array.getElem?_eq_some_iff.1 hl).1 hpre hi fun a' Wa hka hba hax => ?_)⟩
    have hla := hka.same _ _ (by omega) hl rfl
    have hda := hka.same _ _ (Nat.le_refl _) hd rfl
    have hlt : w.heap.size + 1 < Wa.heap.size := (Array.getElem?_eq_some_iff.1 hla).1
    refine ⟨_, run_beginRound hla (by rw [hrec]), ?_⟩
    obtain ⟨Wb, hWb⟩ : ∃ Wb, Wa.putObj (w.heap.size + 1) (.loop { rec .ready none with state := .busy }) = Wb := ⟨_, rfl⟩
    rw [hWb]
    have hlb : Wb.heap[w.heap.size + 1]? = some (.loop { rec .ready none with state := .busy }) := by rw [← hWb]; exact World.putObj_heap_same hlt
    have hdb : Wb.heap[w.heap.size]? = some (.deferred (some [])) := by rw [← hWb]; exact (World.putObj_heap_other (by omega)).trans hda
    have hTb : Turns own w.heap.size Wa Wb := by rw [← hWb]; exact Turns.putObj (by omega) hla rfl _
    have hbB : ∀ {X : World} (o : Obj), Below B X (X.putObj (w.heap.size + 1) o) := fun {X} o => ⟨rfl, rfl, rfl, by simp, fun k hk => World.putObj_heap_other (by omega)⟩
    have hbb : Below B W Wb := by rw [← hWb]; exact hba.trans (hbB _)
    refine wpIn_mono (hbody _ pre x a' Wb (by omega) ⟨_, hlb⟩ hpre (hAx _ _ _ _ _ _ hax hTb)) ?_
    have fin : ∀ (jump : Option Code) (W3 : World), KeepsFrom w.heap.size Wb W3 →
        (Instr.endRound (w.heap.size + 1) jump).run P W3 = .ok (.bool jump.isNone) (W3.putObj (w.heap.size + 1) (.loop (rec (if jump.isNone then .ready else .done) jump))) ∧
        W3.heap[w.heap.size + 1]? = some (.loop { rec .ready none with state := .busy }) ∧
        (W3.putObj (w.heap.size + 1) (.loop (rec (if jump.isNone then .ready else .done) jump))).heap[w.heap.size + 1]? = some (.loop (rec (if jump.isNone then .ready else .done) jump)) ∧
        (W3.putObj (w.heap.size + 1) (.loop (rec (if jump.isNone then .ready else .done) jump))).heap[w.heap.size]? = some (.deferred (some [])) := fun jump W3 hk3 => by
      have hl3 := hk3.same _ _ (by omega) hlb rfl
      have hr := run_endRound (P := P) jump hl3
      rw [hrec] at hr ⊢
      exact ⟨hr, by rw [hrec] at hl3; exact hl3, World.putObj_heap_same (Array.getElem?_eq_some_iff.1 hl3).1, (World.putObj_heap_other (by omega)).trans (hk3.same _ _ (Nat.le_refl _) hdb rfl)⟩
    rintro e a3 W3 hp
    cases e with
    | normal =>
      obtain ⟨hk3, hb3, hi3⟩ := hp
      obtain ⟨hr, hl3, hl4, hd4⟩ := fin none W3 hk3
      exact ⟨_, _, hr, .inl ⟨rfl, ⟨hI _ _ _ hi3 (Turns.putObj (by omega) hl3 rfl _), hl4, hd4⟩, (hbb.trans hb3).trans (hbB _)⟩⟩
    | ret =>
      obtain ⟨hk3, hi3⟩ := hp
      obtain ⟨hr, hl3, hl4, hd4⟩ := fin (some .ret) W3 hk3
      exact ⟨_, _, hr, .inr ⟨rfl, .ret, hIx _ _ _ _ hi3 (Turns.putObj (by omega) hl3 rfl _), hl4, hd4⟩⟩
    | exit id =>
      obtain ⟨hk3, hi3⟩ := hp
      obtain ⟨hr, hl3, hl4, hd4⟩ := fin (some (.exit id)) W3 hk3
      exact ⟨_, _, hr, .inr ⟨rfl, .exit id, hIx _ _ _ _ hi3 (Turns.putObj (by omega) hl3 rfl _), hl4, hd4⟩⟩
    | goto t =>
      obtain ⟨hk3, hi3⟩ := hp
      obtain ⟨hr, hl3, hl4, hd4⟩ := fin (some (.goto t)) W3 hk3
      exact ⟨_, _, hr, .inr ⟨rfl, .goto t, hIx _ _ _ _ hi3 (Turns.putObj (by omega) hl3 rfl _), hl4, hd4⟩⟩
    | panic ch => exact hp.elim
    | outgrown => exact hp.elim
  · -- behind the iterator
    rintro e W2 ⟨⟨v, rfl⟩, (⟨hi, hl, hd⟩ | ⟨pre, c, hi, hl, hd⟩)⟩
    · exact ⟨none, _, by have h := run_endLoop (P := P) hl (by rw [hrec]; simp); rw [hrec] at h; exact h, hdone _ _ (Nat.le_refl _) (hI _ _ _ hi (Turns.putObj (by omega) hl rfl _)) ((World.putObj_heap_other (by omega)).trans hd)⟩
    · exact ⟨some c, _, by have h := run_endLoop (P := P) hl (by rw [hrec]; simp); rw [hrec] at h; exact h, hstop _ c pre _ (Nat.le_refl _) (hIx _ _ _ _ hi (Turns.putObj (by omega) hl rfl _)) ((World.putObj_heap_other (by omega)).trans hd)⟩

end Go
