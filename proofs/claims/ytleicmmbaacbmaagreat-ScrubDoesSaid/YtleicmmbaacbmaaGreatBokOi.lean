/- 'ownInts': its walk. -/
import Derived.Test.YtleicmmbaacbmaaGreatMrg17
set_option linter.unusedVariables false
namespace Go.Proofs.YtleicmmbaacbmaaGreat
open Go.RowKit
theorem slice_intsB : SliceOf Tryz.prog 27 3 1 8 := SliceOf.mk' (z := .int .i64 0) Tryz.underlying27 (by decide) (by kernel_rfl) rfl
theorem slice_rowsI : SliceOf Tryz.prog 40 27 1 24 := SliceOf.mk' (z := .slice none 0 0) Tryz.underlying40 (by decide) (by kernel_rfl) rfl

def mki (i k : Nat) : List Value := [.int .i64 ((i : Int) * 1000 + (k : Int))]
def tli (i k : Nat) : List Value := [.int .i64 ((-1 - (i : Int)) * 1000 + (k : Int))]
theorem mki_len (i k : Nat) : (mki i k).length = 1 := rfl
theorem tli_len (i k : Nat) : (tli i k).length = 1 := rfl

/-- While the rows are marked: those ahead of i are; of row i the first k places. -/
def CMi (i n k j : Nat) (xs : List Value) : Prop := xs.length ≤ 300000 ∧ (j < i → xs = elems (mki j) (xs.length / 1)) ∧ (j = i → xs.length = n * 1 ∧ xs.take (k * 1) = elems (mki i) k)
def CFi (i j : Nat) (xs : List Value) : Prop := xs.length ≤ 300000 ∧ (j < i → xs = elems (mki j) (xs.length / 1))

theorem cmi_start {i n j : Nat} {xs : List Value} (h : CFi i j xs) (hn : j = i → xs.length = n * 1) : CMi i n 0 j xs := ⟨h.1, h.2, fun e => ⟨hn e, by simp [elems]⟩⟩
theorem cmi_end {i n j : Nat} {xs : List Value} (h : CMi i n n j xs) : CFi (i + 1) j xs := by
  refine ⟨h.1, fun hj => ?_⟩
  by_cases hji : j = i
  · obtain ⟨h1, h2⟩ := h.2.2 hji
    rw [List.take_of_length_le (by omega)] at h2
    rw [h2, elems_length (mki_len i), hji, show n * 1 / 1 = n by omega]
  · exact h.2.1 (by omega)

/-- Row i, place k marked. -/
theorem fami_mark {W : World} {B : Nat} {T : Nat → Nat} {vs : List Value} {i n k g cap : Nat} (h : Fam W B 3 1 T vs (CMi i n k)) (hi : i < vs.length) (hv : vs[i] = .slice (some ⟨g, 0, none⟩) n cap) (hk : k < n) :
    Fam (W.setCell ⟨g, k, none⟩ (.int .i64 ((i : Int) * 1000 + (k : Int)))) B 3 1 T vs (CMi i n (k + 1)) ∧ Chg (fun x => T x = i + 2) W (W.setCell ⟨g, k, none⟩ (.int .i64 ((i : Int) * 1000 + (k : Int)))) := by
  have htg : T g = i + 2 := h.tag i hi g (by rw [hv]; rfl)
  have hc : Chg (fun x => T x = i + 2) W (W.setCell ⟨g, k, none⟩ (.int .i64 ((i : Int) * 1000 + (k : Int)))) := Chg.setCell (S := fun x => T x = i + 2) (Chg.refl _ _) ⟨g, k, none⟩ (.inl htg) _
  refine ⟨h.turn hc (fun hi' => ?_) (fun j xs hj hcj => ⟨hcj.1, hcj.2.1, fun e => absurd e hj⟩), hc⟩
  obtain ⟨xs, r1, r2⟩ := h.row i hi
  have hm : vs[i].many = n := by rw [hv]; rfl
  rw [hm] at r1 ⊢
  have hl := r1.1
  rw [hv] at r1 ⊢
  refine ⟨_, (r1.stored k _).1, by simp; have := r2.1; omega, fun e => absurd e (by omega), fun _ => ⟨by simp; omega, ?_⟩⟩
  rw [take_set_one xs k _ (by omega), (r2.2.2 rfl).2, elems_succ]
  rfl

/-- While the rows grow: i have grown. -/
structure OSi (W : World) (B h0 : Nat) (T0 T : Nat → Nat) (vs : List Value) (v : Value) (i : Nat) (L : Value) (Ls : List Value) : Prop where
  row : W.ownsRow B 27 1 v vs.length vs
  tag : ∀ g, v.ownBlock = some g → T g = 0
  fam : Fam W B 3 1 T vs (fun j xs => xs.length ≤ 300000 ∧ xs = elems (mki j) (xs.length / 1))
  len : Ls.length = i
  long : W.ownsRow B 27 1 L i Ls
  ltag : ∀ g, L.ownBlock = some g → T g = 1
  lnew : ∀ g, L.ownBlock = some g → h0 ≤ g
  lfam : Fam W B 3 1 T Ls (fun j xs => ∃ h : j < vs.length, xs = elems (mki j) vs[j].many ++ elems (tli j) 16)
  old : ∀ g, g < h0 → T g = T0 g
  grown : h0 ≤ W.heap.size

theorem OSi.app {W w1 : World} {B h0 : Nat} {T0 T : Nat → Nat} {vs : List Value} {v L x v1 : Value} {i n k : Nat} {Ls xs ys : List Value} {o : Obj} (h : OSi W B h0 T0 T vs v i L Ls) (hB : B ≤ W.heap.size) (hi : i < vs.length) (hn : vs[i].many = n)
    (hx : W.ownsRow B 3 1 x (n + k) xs) (hxt : ∀ g, x.ownBlock = some g → T g = i + 2) (hown : w1.ownsRow B 3 1 v1 (n + k + 1) ys) (hloc : v1.ownBlock = x.ownBlock ∨ v1.ownBlock = some (W.alloc o).heap.size)
    (hc : Chg (fun k => x.ownBlock = some k) (W.alloc o) w1) (hkeep : ∀ B' u k' ys, (W.alloc o).ownsRow B' 3 1 u k' ys → (u.ownBlock = x.ownBlock → k' ≤ n + k) → w1.ownsRow B' 3 1 u k' ys) :
    ∃ T', OSi w1 B h0 T0 T' vs v i L Ls ∧ (∀ g, v1.ownBlock = some g → T' g = i + 2) ∧ Chg (fun k => T k = i + 2) W w1 := by
  have ha : Chg (fun _ => False) W (W.alloc o) := (Chg.refl _ _).alloc o
  have hT : ∀ g, g < W.heap.size → tagAt T (W.heap.size + 1) (i + 2) g = T g := fun g hg => tagAt_lt _ _ _ _ (by omega)
  have hxt' : ∀ g, x.ownBlock = some g → tagAt T (W.heap.size + 1) (i + 2) g = i + 2 := fun g hg => by rw [hT g (hx.lt g hg).2]; exact hxt g hg
  refine ⟨tagAt T (W.heap.size + 1) (i + 2), ⟨?_, ?_, ?_, h.len, ?_, ?_, h.lnew, ?_, ?_, ?_⟩, ?_, ?_⟩
  · exact ownsRow_mod (h.row.alloc o) hc (fun g hg e => by have := h.tag g hg; have := hxt g e; omega)
  · exact fun g hg => by rw [hT g (h.row.lt g hg).2]; exact h.tag g hg
  · exact ((h.fam.retag hT).chg ha (fun _ _ h => h)).app hkeep hxt' (fun j hj e => by obtain rfl : j = i := by omega
                                                                                      rw [hn]; omega)
  · exact ownsRow_mod (h.long.alloc o) hc (fun g hg e => by have := h.ltag g hg; have := hxt g e; omega)
  · exact fun g hg => by rw [hT g (h.long.lt g hg).2]; exact h.ltag g hg
  · exact ((h.lfam.retag hT).chg ha (fun _ _ h => h)).app hkeep hxt' (fun j hj e => by have := h.len; omega)
  · exact fun g hg => by rw [hT g (Nat.lt_of_lt_of_le hg h.grown)]; exact h.old g hg
  · exact Nat.le_trans h.grown (Nat.le_trans ha.size hc.size)
  · intro g hg
    rcases hloc with hl | hl
    · rw [hl] at hg; exact hxt' g hg
    · rw [hl, size_alloc] at hg
      simp only [Option.some.injEq] at hg
      subst hg
      exact tagAt_same _ _ _
  · exact (Chg.mono ha (fun k hk => hk.elim)).trans (hc.mono fun g hg => hxt g hg)

theorem OSi.next {W w1 : World} {B h0 : Nat} {T0 T : Nat → Nat} {vs : List Value} {v L x L' : Value} {i n : Nat} {Ls : List Value} {o : Obj} (h : OSi W B h0 T0 T vs v i L Ls) (hB : B ≤ W.heap.size) (hi : i < vs.length) (hn : vs[i].many = n)
    (hx : W.ownsRow B 3 1 x (n + 16) (elems (mki i) n ++ elems (tli i) 16)) (hxt : ∀ g, x.ownBlock = some g → T g = i + 2) (hown : w1.ownsRow B 27 1 L' (i + 1) (Ls ++ [x])) (hloc : L'.ownBlock = L.ownBlock ∨ L'.ownBlock = some (W.alloc o).heap.size)
    (hc : Chg (fun k => L.ownBlock = some k) (W.alloc o) w1) : ∃ T', OSi w1 B h0 T0 T' vs v (i + 1) L' (Ls ++ [x]) ∧ Chg (fun k => h0 ≤ k) W w1 := by
  have ha : Chg (fun _ => False) W (W.alloc o) := (Chg.refl _ _).alloc o
  have hT : ∀ g, g < W.heap.size → tagAt T (W.heap.size + 1) 1 g = T g := fun g hg => tagAt_lt _ _ _ _ (by omega)
  have hlt' : ∀ g, L.ownBlock = some g → tagAt T (W.heap.size + 1) 1 g = 1 := fun g hg => by rw [hT g (h.long.lt g hg).2]; exact h.ltag g hg
  have hc' : Chg (fun k => tagAt T (W.heap.size + 1) 1 k = 1) (W.alloc o) w1 := hc.mono fun g hg => hlt' g hg
  refine ⟨tagAt T (W.heap.size + 1) 1, ⟨?_, ?_, ?_, by simp [h.len], hown, ?_, ?_, ?_, ?_, ?_⟩, ?_⟩
  · exact ownsRow_mod (h.row.alloc o) hc (fun g hg e => by have := h.tag g hg; have := h.ltag g e; omega)
  · exact fun g hg => by rw [hT g (h.row.lt g hg).2]; exact h.tag g hg
  · exact ((h.fam.retag hT).chg ha (fun _ _ h => h)).keep hc' (fun j hj => by omega)
  · intro g hg
    rcases hloc with hl | hl
    · rw [hl] at hg; exact hlt' g hg
    · rw [hl, size_alloc] at hg
      simp only [Option.some.injEq] at hg
      subst hg
      exact tagAt_same _ _ _
  · intro g hg
    rcases hloc with hl | hl
    · rw [hl] at hg; exact h.lnew g hg
    · rw [hl, size_alloc] at hg
      simp only [Option.some.injEq] at hg
      have := h.grown
      omega
  · refine (((h.lfam.retag hT).chg ha (fun _ _ h => h)).keep hc' (fun j hj => by omega)).snoc (ownsRow_mod (hx.alloc o) hc (fun g hg e => by have := hxt g hg; have := h.ltag g e; omega)) ?_ (fun g hg => by rw [hT g (hx.lt g hg).2, h.len]; exact hxt g hg)
    have hl := h.len
    subst hl
    exact ⟨hi, by rw [hn]⟩
  · exact fun g hg => by rw [hT g (Nat.lt_of_lt_of_le hg h.grown)]; exact h.old g hg
  · exact Nat.le_trans h.grown (Nat.le_trans ha.size hc.size)
  · exact (Chg.mono ha (fun k hk => hk.elim)).trans (hc.mono fun g hg => h.lnew g hg)

set_option maxRecDepth 100000 in
set_option maxHeartbeats 8000000 in
theorem owni_any (w : World) (B : Nat) (T : Nat → Nat) (vs : List Value) (v : Value) (hrow : w.ownsRow B 27 1 v vs.length vs) (htag : ∀ g, v.ownBlock = some g → T g = 0) (hfam : Fam w B 3 1 T vs (fun _ xs => xs.length ≤ 300000)) (hn : vs.length ≤ 1000000) (hB : B ≤ w.heap.size) :
    Calls Tryz.prog 47 #[v] w fun e w' => e = .returned (.bool true) ∧ Chg (fun k => 2 ≤ T k) w w' := by
  obtain ⟨va, vc, rfl⟩ := ownsRow_shape hrow
  have HR0 := Lib.hid hrow
  have HF0 := Lib.hid hfam
  have HT := Lib.hid htag
  clear hrow hfam htag
  go_enter Tryz.func47, Tryz.ntmps47
  go_wp2
  go_loopw [3] (fun i wr => ∃ k : Nat, k ≤ vs.length ∧ i = .int .i64 k ∧ wr.ownsRow B 27 1 (.slice va vs.length vc) vs.length vs ∧ Fam wr B 3 1 T vs (CFi k) ∧ Chg (fun k => 2 ≤ T k) w wr) (fun i _ => vs.length - (intOf i).toNat)
  case atStart => exact ⟨0, by omega, rfl, HR0.out, HF0.out.weak (fun j xs _ h => ⟨h, fun h => by omega⟩), Chg.refl _ _⟩
  case round =>
    obtain ⟨i, hi, rfl, hrow, hfam, hchg⟩ := hrel
    by_cases hin : i < vs.length
    · as_aux_lemma =>
        obtain ⟨g, vc', hve, hgB, hgl⟩ := ownsRow_full hrow (by omega)
        simp only [Value.slice.injEq] at hve
        obtain ⟨rfl, _, rfl⟩ := hve
        obtain ⟨xs, r1, r2⟩ := hfam.row i hin
        obtain ⟨xa, xc, hxe⟩ := ownsRow_shape r1
        have hlen := r1.1
        have hmany : vs[i].many ≤ 300000 := by have := r2.1; omega
        have hfam' : Fam wr B 3 1 T vs (CMi i vs[i].many 0) := by
          refine ⟨fun j hj => ?_, hfam.tag⟩
          obtain ⟨ys, s1, s2⟩ := hfam.row j hj
          exact ⟨ys, s1, cmi_start s2 (fun e => by subst e; exact s1.1)⟩
        have Hxe := Lib.hid hxe
        have K1 : Hid (i + 1 ≤ vs.length) := hin
        clear r1 r2 hlen hfam hxe
        generalize hm : vs[i].many = n at *
        have Hm := Lib.hid hm
        clear hm
        go_wp2
        go_loopw [4] (fun q wr => ∃ k : Nat, k ≤ n ∧ q = .int .i64 k ∧ wr.ownsRow B 27 1 (.slice (some ⟨g, 0, none⟩) vs.length vc) vs.length vs ∧ Fam wr B 3 1 T vs (CMi i n k) ∧ Chg (fun k => 2 ≤ T k) w wr) (fun q _ => n - (intOf q).toNat)
        case atStart => exact ⟨0, by omega, rfl, hrow, hfam', hchg⟩
        case round =>
          clear hrow hfam' hchg
          obtain ⟨k, hk, rfl, hrow, hfam, hchg⟩ := hrel
          have c0 : wr.cell? ⟨g, i, none⟩ = some (.slice xa n xc) := by
            rw [hrow.cellAt i (by omega), List.getElem?_eq_getElem hin, Hxe.out]
          by_cases hkn : k < n
          · obtain ⟨ys, s1, s2⟩ := hfam.row i hin
            replace s1 : wr.ownsRow B 3 1 vs[i] n ys := (congrArg (fun m => wr.ownsRow B 3 1 vs[i] m ys) Hm.out).mp s1
            obtain ⟨gx, xc', hve, hgxB, hgxl⟩ := ownsRow_full s1 (by omega)
            have hve2 := Hxe.out.symm.trans hve
            simp only [Value.slice.injEq] at hve2
            obtain ⟨rfl, _, rfl⟩ := hve2
            rw [hve] at s1
            have hyl := s1.1
            have hgt : T gx = i + 2 := hfam.tag i hin gx ((congrArg Value.ownBlock hve).trans rfl)
            have hgne : gx ≠ g := fun e => by have := HT.out g rfl; rw [e] at hgt; omega
            have Hset := Lib.hid (fami_mark hfam hin hve hkn)
            have Hrow := Lib.hid hrow
            have HCH := Lib.hid hchg
            have HGT : Hid (T gx = i + 2) := hgt
            have f0 := s1.frozenAt k
            obtain ⟨y0, d0⟩ : ∃ u, wr.cell? ⟨gx, k, none⟩ = some u := ⟨_, (s1.cellAt k (by omega)).trans (List.getElem?_eq_getElem (by omega))⟩
            have K2 : Hid (k + 1 ≤ n) := hkn
            clear s1 s2 hyl hfam hrow hgt hchg
            go_wp2
            refine ⟨⟨k + 1, K2.out, by go_num, ?_, ?_, ?_⟩, by simp [intOf]; omega⟩
            · exact ownsRow_mod Hrow.out Hset.out.2 (fun g' hg' e => by have := HT.out g' hg'; omega)
            · exact Hset.out.1
            · exact HCH.out.trans (Hset.out.2.mono fun z hz => by omega)
          · obtain rfl : k = n := by omega
            have Hend := Lib.hid (hfam.weak (fun j xs _ h => cmi_end h))
            clear hk hfam
            go_wp2
            exact ⟨⟨i + 1, K1.out, by go_num, hrow, Hend.out, hchg⟩, by simp [intOf]; omega⟩
    · as_aux_lemma =>
      obtain rfl : i = vs.length := by omega
      clear hi hin HF0 HR0
      have hfam2 : Fam wr B 3 1 T vs (fun j xs => xs.length ≤ 300000 ∧ xs = elems (mki j) (xs.length / 1)) := hfam.weak (fun j xs hj h => ⟨h.1, h.2 hj⟩)
      have HT0 : Hid (∀ g, (Value.slice va vs.length vc).ownBlock = some g → T g = 0) := HT
      clear hfam HT
      go_wp2
      go_loopw [5, 6] (fun L q wr => ∃ (k : Nat) (T' : Nat → Nat) (Ls : List Value), k ≤ vs.length ∧ q = .int .i64 k ∧ OSi wr B w.heap.size T T' vs (.slice va vs.length vc) k L Ls ∧ Chg (fun k => 2 ≤ T k) w wr) (fun _ q _ => vs.length - (intOf q).toNat)
      case atStart => exact ⟨0, T, [], by omega, rfl, ⟨hrow, HT0.out, hfam2, rfl, World.ownsRow_nil _ _ _ _, by simp [Value.ownBlock], by simp [Value.ownBlock], Fam.nil _ _ _ _ _ _, fun g _ => rfl, hchg.size⟩, hchg⟩
      case round =>
        clear hrow hfam2 HT0 hchg
        obtain ⟨i, T', Ls, hi, rfl, hos, hchg⟩ := hrel
        by_cases hin : i < vs.length
        · as_aux_lemma =>
          obtain ⟨g, vc', hve, hgB, hgl⟩ := ownsRow_full hos.row (by omega)
          simp only [Value.slice.injEq] at hve
          obtain ⟨rfl, _, rfl⟩ := hve
          obtain ⟨xs, r1, r2⟩ := hos.fam.row i hin
          obtain ⟨xa, xc, hxe⟩ := ownsRow_shape r1
          have hlen := r1.1
          have hmany : vs[i].many ≤ 300000 := by have := r2.1; omega
          have Hxe := Lib.hid hxe
          have K1 : Hid (i + 1 ≤ vs.length) := hin
          have c0 : wr.cell? ⟨g, i, none⟩ = some (.slice xa vs[i].many xc) := by
            rw [hos.row.cellAt i (by omega), List.getElem?_eq_getElem hin]; exact congrArg some hxe
          have hx0 : wr.ownsRow B 3 1 (.slice xa vs[i].many xc) vs[i].many (elems (mki i) vs[i].many) := by
            have h1 := r1
            have h2 := r2.2
            rw [show xs.length / 1 = vs[i].many by omega] at h2
            have h3 := (congrArg (fun m => wr.ownsRow B 3 1 m vs[i].many xs) hxe).mp h1
            exact (congrArg (fun m => wr.ownsRow B 3 1 (.slice xa vs[i].many xc) vs[i].many m) h2).mp h3
          have hxt0 : ∀ g, (Value.slice xa vs[i].many xc).ownBlock = some g → T' g = i + 2 := fun g hg => hos.fam.tag i hin g ((congrArg Value.ownBlock hxe).trans hg)
          clear r1 r2 hlen hxe
          generalize hm : vs[i].many = n at *
          have Hm := Lib.hid hm
          clear hm
          go_wp2
          go_loopw [7, 8] (fun x q wr => ∃ (k : Nat) (T' : Nat → Nat), k ≤ 16 ∧ q = .int .i64 k ∧ OSi wr B w.heap.size T T' vs (.slice (some ⟨g, 0, none⟩) vs.length vc) i u5 Ls ∧ wr.ownsRow B 3 1 x (n + k) (elems (mki i) n ++ elems (tli i) k) ∧ (∀ g, x.ownBlock = some g → T' g = i + 2) ∧ Chg (fun k => 2 ≤ T k) w wr) (fun _ q _ => 16 - (intOf q).toNat)
          case atStart => exact ⟨0, T', by omega, rfl, hos, by simpa [elems] using hx0, hxt0, hchg⟩
          case round =>
            clear hos hx0 hxt0 hchg c0
            obtain ⟨k, T', hk, rfl, hos, hx, hxt, hchg⟩ := hrel
            by_cases hkn : k < 16
            · have HX := Lib.hid hx
              have HO := Lib.hid hos
              have HXT := Lib.hid hxt
              have HCH := Lib.hid hchg
              have hBw : B ≤ wr.heap.size := Nat.le_trans hB hchg.size
              have K2 : Hid (k + 1 ≤ 16) := hkn
              clear hx hos hxt hchg
              go_wp2_with (refine wpList_append_keeps rfl _ _ 27 3 1 8 rfl slice_intsB B u7 (n + k) _ rfl (HX.out.alloc _) _ 1 1 [.int .i64 ((-1 - (i : Int)) * 1000 + (k : Int))] rfl rfl (new_one _ _ _ _ (by first | rfl | simp)) (by intro u hu; simp at hu; subst hu; rfl) (by unfold maxLen; omega) (by omega) (by rw [size_alloc]; omega) (by omega) ?_; intro v1 w1 hown1 hloc1 hchg1 hkeep1; have HN := Lib.hid (HO.out.app hBw hin Hm.out HX.out HXT.out hown1 hloc1 hchg1 hkeep1); have HW := Lib.hid hown1; clear hown1 hloc1 hchg1 hkeep1)
              obtain ⟨T'', n1, n2, n3⟩ := HN.out
              refine ⟨⟨k + 1, T'', K2.out, by go_num, n1, ?_, n2, chg_old HCH.out n3 (fun z hz hz2 => by rw [← HO.out.old z hz]; omega)⟩, by simp [intOf]; omega⟩
              have := HW.out
              rw [List.append_assoc] at this
              rw [elems_succ]
              exact this
            · obtain rfl : k = 16 := by omega
              clear hkn hk
              obtain ⟨ya, yc, rfl⟩ := ownsRow_shape hx
              have HX := Lib.hid hx
              have HO := Lib.hid hos
              have HXT := Lib.hid hxt
              have HCH := Lib.hid hchg
              have hBw : B ≤ wr.heap.size := Nat.le_trans hB hchg.size
              clear hx hos hxt hchg
              go_wp2_with (refine wpList_append_keeps rfl _ _ 40 27 1 24 rfl slice_rowsI B u5 i Ls rfl (HO.out.long.alloc _) _ 1 1 [.slice ya (n + 16) yc] rfl rfl (new_one _ _ _ _ (by first | rfl | simp)) (by intro u hu; simp at hu; subst hu; rfl) (by unfold maxLen; omega) (by omega) (by rw [size_alloc]; omega) (by omega) ?_; intro v1 w1 hown1 hloc1 hchg1 hkeep1; have HN := Lib.hid (HO.out.next hBw hin Hm.out HX.out HXT.out hown1 hloc1 hchg1); clear hown1 hloc1 hchg1 hkeep1)
              obtain ⟨T'', n1, n2⟩ := HN.out
              exact ⟨⟨i + 1, T'', _, K1.out, by go_num, n1, chg_old HCH.out n2 (fun z hz hz2 => by omega)⟩, by simp [intOf]; omega⟩
        · as_aux_lemma =>
          obtain rfl : i = vs.length := by omega
          clear hin hi
          go_wp2
          obtain ⟨wo, rfl⟩ : ∃ wo : World, wo = wr := ⟨_, rfl⟩
          have HO := Lib.hid hos
          clear hos
          go_loopw [9] (fun q wr => ∃ k : Nat, k ≤ vs.length ∧ q = .int .i64 k ∧ wr = wo) (fun q _ => vs.length - (intOf q).toNat)
          case atStart => exact ⟨0, by omega, rfl, rfl⟩
          case round =>
            obtain ⟨i, hi, rfl, rfl⟩ := hrel
            by_cases hin : i < vs.length
            · obtain ⟨g, vc', hve, hgB, hgl⟩ := ownsRow_full HO.out.row (by omega)
              simp only [Value.slice.injEq] at hve
              obtain ⟨rfl, _, rfl⟩ := hve
              have hll := HO.out.len
              obtain ⟨gL, Lc, rfl, hLB, hLl⟩ := ownsRow_full HO.out.long (by omega)
              obtain ⟨xs, r1, r2⟩ := HO.out.fam.row i hin
              obtain ⟨xa, xc, hxe⟩ := ownsRow_shape r1
              have hlen := r1.1
              have hmany : vs[i].many ≤ 300000 := by have := r2.1; omega
              have hx : wr.ownsRow B 3 1 (.slice xa vs[i].many xc) vs[i].many (elems (mki i) vs[i].many) := by
                have h1 := r1
                have h2 := r2.2
                rw [show xs.length / 1 = vs[i].many by omega] at h2
                have h3 := (congrArg (fun m => wr.ownsRow B 3 1 m vs[i].many xs) hxe).mp h1
                exact (congrArg (fun m => wr.ownsRow B 3 1 (.slice xa vs[i].many xc) vs[i].many m) h2).mp h3
              have c0 : wr.cell? ⟨g, i, none⟩ = some (.slice xa vs[i].many xc) := by
                rw [HO.out.row.cellAt i (by omega), List.getElem?_eq_getElem hin]; exact congrArg some hxe
              obtain ⟨ys, q1, hin', q2⟩ := HO.out.lfam.row i (by omega)
              have hyl := q1.1
              have hyl2 : ys.length = (vs[i].many + 16) * 1 := by rw [q2, List.length_append, elems_length (mki_len i), elems_length (tli_len i)]; omega
              obtain ⟨gy, yc, hye, hyB, hyL⟩ := ownsRow_full q1 (by omega)
              have hym : Ls[i].many = vs[i].many + 16 := by omega
              have hy : wr.ownsRow B 3 1 (.slice (some ⟨gy, 0, none⟩) (vs[i].many + 16) yc) (vs[i].many + 16) (elems (mki i) vs[i].many ++ elems (tli i) 16) := by
                have h3 := (congrArg (fun m => wr.ownsRow B 3 1 m Ls[i].many ys) hye).mp q1
                rw [hym] at h3
                rw [← q2]
                exact h3
              have c1 : wr.cell? ⟨gL, i, none⟩ = some (.slice (some ⟨gy, 0, none⟩) (vs[i].many + 16) yc) := by
                rw [HO.out.long.cellAt i (by omega), List.getElem?_eq_getElem (by omega), ← hym]; exact congrArg some hye
              have K1 : Hid (i + 1 ≤ vs.length) := hin
              clear r1 r2 hlen hxe q1 q2 hyl hyl2 hye hym HO
              generalize vs[i].many = n at *
              go_wp2
              go_loopw [11] (fun q w' => ∃ k : Nat, k ≤ n ∧ q = .int .i64 k ∧ w' = wr) (fun q _ => n - (intOf q).toNat)
              case atStart => exact ⟨0, by omega, rfl, rfl⟩
              case round =>
                obtain ⟨k, hk, rfl, rfl⟩ := hrel
                by_cases hkn : k < n
                · obtain ⟨gx, xc', hve2, hgxB, hgxl⟩ := ownsRow_full hx (by omega)
                  simp only [Value.slice.injEq] at hve2
                  obtain ⟨rfl, _, rfl⟩ := hve2
                  have l0 := elems_length (mki_len i) n
                  have e0 := elems_at (mki_len i) n k 0 hkn (by omega)
                  rw [Nat.add_zero, Nat.mul_one] at e0
                  have e2 : (elems (mki i) n ++ elems (tli i) 16)[k]? = (mki i k)[0]? := by rw [List.getElem?_append_left (by omega), e0]
                  have d0 : wr.cell? ⟨gx, k, none⟩ = some (.int .i64 ((i : Int) * 1000 + (k : Int))) := by rw [hx.cellAt k (by omega), e0]; rfl
                  have d2 : wr.cell? ⟨gy, k, none⟩ = some (.int .i64 ((i : Int) * 1000 + (k : Int))) := by rw [hy.cellAt k (by omega), e2]; rfl
                  clear e0 e2
                  have K2 : Hid (k + 1 ≤ n) := hkn
                  clear hx hy l0
                  go_wp2
                  exact ⟨⟨k + 1, K2.out, by go_num, trivial⟩, by simp [intOf]; omega⟩
                · obtain rfl : k = n := by omega
                  go_wp2
                  clear hx c0 hkn hk
                  go_loopw [12] (fun q w' => ∃ j : Nat, j ≤ 16 ∧ q = .int .i64 j ∧ w' = wr) (fun q _ => 16 - (intOf q).toNat)
                  case atStart => exact ⟨0, by omega, rfl, rfl⟩
                  case round =>
                    obtain ⟨j, hj, rfl, rfl⟩ := hrel
                    by_cases hjn : j < 16
                    · have l0 := elems_length (mki_len i) k
                      have e0 := elems_at (tli_len i) 16 j 0 hjn (by omega)
                      rw [Nat.add_zero, Nat.mul_one] at e0
                      have e2 : (elems (mki i) k ++ elems (tli i) 16)[k + j]? = (tli i j)[0]? := by rw [List.getElem?_append_right (by omega), l0, show k + j - k * 1 = j by omega, e0]
                      have d2 : wr.cell? ⟨gy, k + j, none⟩ = some (.int .i64 ((-1 - (i : Int)) * 1000 + (j : Int))) := by rw [hy.cellAt (k + j) (by omega), e2]; rfl
                      clear e0 e2
                      have K2 : Hid (j + 1 ≤ 16) := hjn
                      clear hy l0
                      go_wp2
                      exact ⟨⟨j + 1, K2.out, by go_num, trivial⟩, by simp [intOf]; omega⟩
                    · clear hy
                      go_wp2
                      exact ⟨⟨i + 1, K1.out, by go_num, trivial⟩, by simp [intOf]; omega⟩
            · go_wp2
              go_ret
              exact ⟨rfl, hchg⟩

end Go.Proofs.YtleicmmbaacbmaaGreat
