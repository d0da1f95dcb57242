/- Rows that a plan law has laid away. No program in sight. -/
import Derived.Test.YtkcfmkhakghniaaPlwG
set_option linter.unusedVariables false
namespace Go.Proofs.Ytkcfmkhakghniaa
open Go.RowKit

theorem LawAt.reRow {w0 w : World} {B M : Nat} {X : Nat → Prop} {vp : Value} {Y : List OP} {RS RS' : List RB} {KS : List KB} (h : LawAt w0 w B M X vp Y RS KS) (hp : RS'.Perm RS) : LawAt w0 w B M X vp Y RS' KS :=
  ⟨fun p hq => h.rows p (hp.mem_iff.1 hq), h.kept, h.puts, h.hX, hp.symm.pairwise h.rsep (fun {a b} hab e => hab e.symm), h.ksep, fun p hq => h.rlow p (hp.mem_iff.1 hq), h.klow, h.hB, h.lowB, h.bel, h.xin⟩

/-- Another row of the call's own was appended to. -/
theorem LawAt.seen {w0 w w' : World} {B M B2 n n' : Nat} {X : Nat → Prop} {vp vs v' : Value} {Y : List OP} {RS : List RB} {KS : List KB} {e : TypeId} {xs xs' : List Value} (h : LawAt w0 w B M X vp Y RS KS)
    (hc : Chg (fun g => vs.ownBlock = some g) w w') (hown : w.ownsRow B2 e 1 vs n xs) (he1 : e ≠ 34) (he2 : e ≠ 69) (he3 : e ≠ 5) (hke : ∀ p ∈ KS, p.2.2 ≠ e) (hlow : w0.heap.size ≤ B2)
    (hXv : ∀ k, vs.ownBlock = some k → X k) (hv : v'.ownBlock = vs.ownBlock ∨ ∃ k, v'.ownBlock = some k ∧ w.heap.size ≤ k) (hown' : w'.ownsRow B2 e 1 v' n' xs') : LawAt w0 w' B M (fun k => X k ∨ v'.ownBlock = some k) vp Y RS KS := by
  have hrk : ∀ p ∈ RS, vs.ownBlock ≠ some p.1 := fun p hp => by
    obtain ⟨cs, hat⟩ := LawAt.at_row (h.rows p hp)
    exact own_ne_at hown hat he1
  refine ⟨fun p hp => ?_, fun p hp => ⟨(h.kept p hp).1.mod hc (own_ne_at hown (h.kept p hp).1 fun e' => hke p hp e'.symm), (h.kept p hp).2⟩, h.puts.mod hc (fun g hg e' => own_ne_own h.puts.row hown (fun z => he2 z.symm) e' hg) (fun x hx g hg e' => own_ne_own (h.puts.dat x hx) hown (fun z => he3 z.symm) e' hg), fun k hk => .inl (h.hX k hk), h.rsep, h.ksep, h.rlow, h.klow, Nat.le_trans h.hB hc.size, h.lowB, Chg.own h.bel hc (fun k hk => Nat.le_trans hlow (hown.lt k hk).1), fun k hk => ?_⟩
  case refine_2 =>
    rcases hk with hk | hk
    · exact ⟨(h.xin k hk).1, Nat.lt_of_lt_of_le (h.xin k hk).2 hc.size⟩
    · exact ⟨Nat.le_trans hlow (hown'.lt k hk).1, (hown'.lt k hk).2⟩
  refine RowsOf.chg (S := fun g => vs.ownBlock = some g) (w := w) ((h.rows p hp).more (fun k hk => ?_)) hc (hrk p hp) (fun k hk => .inl (hXv k hk))
  rcases hk with hk | hk
  · exact .inl hk
  · rcases hv with e' | ⟨k', e', hlt⟩
    · exact .inl (hXv k (e' ▸ hk))
    · rw [e'] at hk
      simp only [Option.some.injEq] at hk
      exact .inr (hk ▸ hlt)

theorem slice_seen : SliceOf Try.prog 87 51 1 24 := SliceOf.mk' (z := .slice none 0 0) Try.underlying87 (by decide) (by kernel_rfl) rfl

end Go.Proofs.Ytkcfmkhakghniaa
