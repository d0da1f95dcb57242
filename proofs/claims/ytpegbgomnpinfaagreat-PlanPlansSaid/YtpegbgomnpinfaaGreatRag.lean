/- Rows of rows that the call itself has made: each has a block of its own; a store into one, and an append to one, leave all others. No program in sight. -/
import Derived.Test.YtpegbgomnpinfaaGreatMrg1
import Derived.Deep.MidRow
set_option linter.unusedVariables false
namespace Go
open Go.RowKit

/-- How many elements a slice has. -/
def Value.many : Value → Nat
  | .slice _ n _ => n
  | _ => 0

section
variable {W W' : World} {B : Nat} {e : TypeId} {sz : Nat} {v : Value} {n : Nat} {xs : List Value}

theorem ownsRow_many (h : W.ownsRow B e sz v n xs) : v.many = n := by
  rcases h.2 with ⟨rfl, rfl⟩ | ⟨g, cap, cur, rfl, _⟩ <;> rfl

theorem ownsRow_full (h : W.ownsRow B e sz v n xs) (hn : 0 < n) : ∃ g cap, v = .slice (some ⟨g, 0, none⟩) n cap ∧ B ≤ g ∧ g < W.heap.size := by
  rcases h.2 with ⟨_, h0⟩ | ⟨g, cap, cur, rfl, hb, hg, _⟩
  · omega
  · exact ⟨g, cap, rfl, hb, lt_of_block hg⟩

theorem ownsRow_shape (h : W.ownsRow B e sz v n xs) : ∃ a cap, v = .slice a n cap := by
  rcases h.2 with ⟨rfl, rfl⟩ | ⟨g, cap, cur, rfl, _⟩
  · exact ⟨none, 0, rfl⟩
  · exact ⟨_, cap, rfl⟩

theorem ownsRow_mod {S : Nat → Prop} (h : W.ownsRow B e sz v n xs) (hc : Chg S W W') (hS : ∀ g, v.ownBlock = some g → ¬ S g) : W'.ownsRow B e sz v n xs := ownsRow_chg h hc hS
end

/-- Rows with tags: row j's block bears the tag j + 2. c says what row j holds. -/
structure Fam (W : World) (B : Nat) (e : TypeId) (sz : Nat) (T : Nat → Nat) (vs : List Value) (c : Nat → List Value → Prop) : Prop where
  row : ∀ j (h : j < vs.length), ∃ xs, W.ownsRow B e sz vs[j] vs[j].many xs ∧ c j xs
  tag : ∀ j (h : j < vs.length) g, vs[j].ownBlock = some g → T g = j + 2

namespace Fam
variable {W W' : World} {B : Nat} {e : TypeId} {sz : Nat} {T T' : Nat → Nat} {vs : List Value} {c c' : Nat → List Value → Prop}

/-- A change of blocks with another tag. -/
theorem keep {t : Nat} (h : Fam W B e sz T vs c) (hc : Chg (fun k => T k = t) W W') (ht : ∀ j, j < vs.length → t ≠ j + 2) : Fam W' B e sz T vs c :=
  ⟨fun j hj => by
    obtain ⟨xs, h1, h2⟩ := h.row j hj
    exact ⟨xs, ownsRow_mod h1 hc fun g hg e => ht j hj (by rw [← e, h.tag j hj g hg]), h2⟩, h.tag⟩

/-- Row i turned. -/
theorem turn {i : Nat} (h : Fam W B e sz T vs c) (hc : Chg (fun k => T k = i + 2) W W') (hi : ∀ h : i < vs.length, ∃ xs, W'.ownsRow B e sz vs[i] vs[i].many xs ∧ c' i xs) (hcc : ∀ j xs, j ≠ i → c j xs → c' j xs) : Fam W' B e sz T vs c' :=
  ⟨fun j hj => by
    by_cases hji : j = i
    · subst hji; exact hi hj
    · obtain ⟨xs, h1, h2⟩ := h.row j hj
      exact ⟨xs, ownsRow_mod h1 hc fun g hg e => hji (by have := h.tag j hj g hg; omega), hcc j xs hji h2⟩, h.tag⟩

theorem weak (h : Fam W B e sz T vs c) (hcc : ∀ j xs, j < vs.length → c j xs → c' j xs) : Fam W B e sz T vs c' :=
  ⟨fun j hj => by obtain ⟨xs, h1, h2⟩ := h.row j hj; exact ⟨xs, h1, hcc j xs hj h2⟩, h.tag⟩

theorem chg {S : Nat → Prop} (h : Fam W B e sz T vs c) (hc : Chg S W W') (hS : ∀ k, B ≤ k → ¬ S k) : Fam W' B e sz T vs c :=
  ⟨fun j hj => by
    obtain ⟨xs, h1, h2⟩ := h.row j hj
    exact ⟨xs, ownsRow_mod h1 hc fun g hg => hS g (h1.lt g hg).1, h2⟩, h.tag⟩

/-- Behind an append to a row x that bears the tag t. -/
theorem app {x : Value} {n t : Nat} (h : Fam W B e sz T vs c) (hkeep : ∀ B' u k ys, W.ownsRow B' e sz u k ys → (u.ownBlock = x.ownBlock → k ≤ n) → W'.ownsRow B' e sz u k ys)
    (hx : ∀ g, x.ownBlock = some g → T g = t) (hi : ∀ j (h : j < vs.length), t = j + 2 → vs[j].many ≤ n) : Fam W' B e sz T vs c :=
  ⟨fun j hj => by
    obtain ⟨xs, h1, h2⟩ := h.row j hj
    refine ⟨xs, hkeep _ _ _ _ h1 (fun he => ?_), h2⟩
    cases hb : vs[j].ownBlock with
    | none =>
      rcases h1.2 with ⟨_, h0⟩ | ⟨g, cap, cur, hv, _⟩
      · omega
      · rw [hv] at hb; simp [Value.ownBlock] at hb
    | some g =>
      have t1 := h.tag j hj g hb
      have t2 := hx g (by rw [← he, hb])
      exact hi j hj (by omega), h.tag⟩

theorem snoc {x : Value} {n : Nat} {xs : List Value} (h : Fam W B e sz T vs c) (hx : W.ownsRow B e sz x n xs) (hc : c vs.length xs) (ht : ∀ g, x.ownBlock = some g → T g = vs.length + 2) : Fam W B e sz T (vs ++ [x]) c :=
  ⟨fun j hj => by
    by_cases hjl : j < vs.length
    · rw [List.getElem_append_left hjl]; exact h.row j hjl
    · obtain rfl : j = vs.length := by simp at hj; omega
      rw [List.getElem_append_right (Nat.le_refl _)]
      simp only [Nat.sub_self, List.getElem_cons_zero]
      exact ⟨xs, by rw [ownsRow_many hx]; exact hx, hc⟩,
  fun j hj g hg => by
    by_cases hjl : j < vs.length
    · rw [List.getElem_append_left hjl] at hg; exact h.tag j hjl g hg
    · obtain rfl : j = vs.length := by simp at hj; omega
      rw [List.getElem_append_right (Nat.le_refl _)] at hg
      simp only [Nat.sub_self, List.getElem_cons_zero] at hg
      exact ht g hg⟩

theorem nil (W : World) (B : Nat) (e : TypeId) (sz : Nat) (T : Nat → Nat) (c : Nat → List Value → Prop) : Fam W B e sz T [] c := ⟨fun j h => by simp at h, fun j h => by simp at h⟩

/-- The tags of blocks that are not there yet may be chosen. -/
theorem retag (h : Fam W B e sz T vs c) (hT : ∀ g, g < W.heap.size → T' g = T g) : Fam W B e sz T' vs c :=
  ⟨h.row, fun j hj g hg => by
    obtain ⟨xs, h1, _⟩ := h.row j hj
    rw [hT g (h1.lt g hg).2]
    exact h.tag j hj g hg⟩
end Fam

/-- The tags, the block x given the tag t. -/
def tagAt (T : Nat → Nat) (x t : Nat) : Nat → Nat := fun g => if g = x then t else T g
theorem tagAt_same (T : Nat → Nat) (x t : Nat) : tagAt T x t x = t := if_pos rfl
theorem tagAt_lt (T : Nat → Nat) (x t g : Nat) (h : g < x) : tagAt T x t g = T g := if_neg (by omega)

section
variable {P : Program} (w : World)
/-- An append: besides where the new row lies, that every row that was there and is no longer than the old one stands. -/
theorem run_append_keeps (B : Nat) (t ty e : TypeId) (sz bytes : Nat) (hT : SliceOf P t e sz bytes)
    (v : Value) (n : Nat) (xs : List Value) (hown : w.ownsRow B e sz v n xs)
    (a : Addr) (m c : Nat) (news : List Value) (hl : news.length = m * sz) (hnews : ∀ j u, news[j]? = some u → w.cell? (a.add j) = some u) (h1 : ∀ u ∈ news, u.oneCell' = true)
    (h63 : n + m ≤ maxLen) (hbytes : (n + m) * bytes ≤ 140737488355328) (hbase : B ≤ w.heap.size) (hm : 0 < m) :
    ∃ v' w', (Builtin.append_ #[t, t] ty #[v, .slice (some a) m c]).run P w = .ok v' w' ∧ w'.ownsRow B e sz v' (n + m) (xs ++ news) ∧
      (v'.ownBlock = v.ownBlock ∨ v'.ownBlock = some w.heap.size) ∧ Chg (fun k => v.ownBlock = some k) w w' ∧
      (∀ B' u k ys, w.ownsRow B' e sz u k ys → (u.ownBlock = v.ownBlock → k ≤ n) → w'.ownsRow B' e sz u k ys) := by
  obtain ⟨ht, h0, i, z, hi, hz, rfl, rfl, hzs⟩ := hT
  obtain ⟨v', w', hr, h2, h3, _, h5⟩ := run_append_own_at (P := P) w B t ty e i z i.size i.bytes ht hi hz rfl rfl hzs h0 v n xs hown a m c news hl hnews h1 h63 hbytes hbase
  have hchg : Chg (fun k => v.ownBlock = some k) w w' := Chg.ofGrown h3 fun k hk => .inl hk
  have hsmall : n + m ≤ 9223372036854775807 := by simp only [maxLen] at h63; omega
  refine ⟨v', w', hr, h2, h5, hchg, ?_⟩
  have fresh : ∀ o : Obj, w' = w.drew.alloc o → ∀ B' u k ys, w.ownsRow B' e i.size u k ys → w'.ownsRow B' e i.size u k ys := by
    intro o ho B' u k ys hu
    subst ho
    exact World.ownsRow.alloc (w := w.drew) hu o
  rcases hown.2 with ⟨rfl, rfl⟩ | ⟨g, cap, cur, rfl, hbg, hg, hnc, hcm, hcs, htake⟩
  · have hx : xs = [] := List.eq_nil_of_length_eq_zero (by simpa using hown.1)
    subst hx
    have hr' := run_append_nil (P := P) w t ty e i z ht hi hz a m c news hl hnews hm (by omega) (by have hb := hbytes; simp only [Nat.zero_add] at hb; omega)
    rw [hr] at hr'
    simp only [Result.ok.injEq] at hr'
    exact fun B' u k ys hu _ => fresh _ hr'.2 B' u k ys hu
  · by_cases hroom : n + m ≤ cap
    · have hfit : n * i.size + news.length ≤ cur.size := by rw [hl, hcs, ← Nat.add_mul]; exact Nat.mul_le_mul_right _ hroom
      have hr' := run_append_room (P := P) w t ty e i ht hi g n cap cur hg a m c news hl hnews h1 hroom hfit
      rw [hr] at hr'
      simp only [Result.ok.injEq] at hr'
      obtain ⟨_, rfl⟩ := hr'
      intro B' u k ys hu hk
      by_cases hub : u.ownBlock = some g
      · have hkn := hk hub
        rcases hu.2 with ⟨rfl, _⟩ | ⟨g', cap', cur', rfl, hb', hg', hnc', hcm', hcs', htake'⟩
        · simp [Value.ownBlock] at hub
        · simp [Value.ownBlock] at hub
          subst hub
          rw [hg] at hg'
          simp only [Option.some.injEq, Obj.cells.injEq, and_true] at hg'
          subst hg'
          refine ⟨hu.1, .inr ⟨g', cap', _, rfl, hb', setRow_heap w g' cur _ e _ hg, hnc', hcm', ?_, ?_⟩⟩
          · simp only [List.size_toArray, List.length_append, List.length_take, List.length_drop, Array.length_toList]
            omega
          · have hle : k * i.size ≤ n * i.size := Nat.mul_le_mul_right _ hkn
            rw [← htake', List.append_assoc, List.take_append_of_le_length (by rw [List.length_take, Array.length_toList]; omega), List.take_take, Nat.min_eq_left hle]
      · refine ownsRow_mod hu hchg fun x hx hxe => hub ?_
        rw [hx]
        simpa [Value.ownBlock] using hxe.symm
    · have holds : ∀ j u, xs[j]? = some u → w.cell? ((⟨g, 0, none⟩ : Addr).add j) = some u := hown.cells (g := g) rfl
      have hr' := run_append_grow (P := P) w t ty e i z ht hi hz ⟨g, 0, none⟩ n cap xs hown.1 holds a m c news hl hnews (by omega) (by omega) (growslice_fits (by omega) hbytes)
      rw [hr] at hr'
      simp only [Result.ok.injEq] at hr'
      exact fun B' u k ys hu _ => fresh _ hr'.2 B' u k ys hu
end

section
variable {P : Program} {w : World}
theorem wpList_append_keeps {ops : Array Oper} {rest : List Oper} {o : Oper} {a : Act} {Q : Exit → Act → World → Prop} (hgd : o.guard = none) (s x : Operand) (t e : TypeId) (sz bytes : Nat)
    (ho : o.op = .call { callee := .builtin .append, args := #[s, x], argTypes := #[t, t] }) (hT : SliceOf P t e sz bytes)
    (B : Nat) (v : Value) (n : Nat) (xs : List Value) (hs : a.eval s = v) (hown : w.ownsRow B e sz v n xs)
    (ad : Addr) (m c : Nat) (news : List Value) (hx : a.eval x = .slice (some ad) m c) (hl : news.length = m * sz) (hnews : ∀ j u, news[j]? = some u → w.cell? (ad.add j) = some u) (h1 : ∀ u ∈ news, u.oneCell' = true)
    (h63 : n + m ≤ maxLen) (hbytes : (n + m) * bytes ≤ 140737488355328) (hbase : B ≤ w.heap.size) (hm : 0 < m)
    (h : ∀ v' w', w'.ownsRow B e sz v' (n + m) (xs ++ news) → (v'.ownBlock = v.ownBlock ∨ v'.ownBlock = some w.heap.size) → Chg (fun k => v.ownBlock = some k) w w' →
      (∀ B' u k ys, w.ownsRow B' e sz u k ys → (u.ownBlock = v.ownBlock → k ≤ n) → w'.ownsRow B' e sz u k ys) → wpList P ops Q rest (a.put o.dst v') w') :
    wpList P ops Q (o :: rest) a w := by
  refine wpList_plain hgd fun K hK => ?_
  obtain ⟨v', w', hr, h2, h3, h4, h5⟩ := run_append_keeps (P := P) w B t o.type e sz bytes hT v n xs hown ad m c news hl hnews h1 h63 hbytes hbase hm
  unfold Oper.wp execOp
  simp only [ho, resolve, invoke, builtin, Sem.run_bind, Sem.run_pure, Result.andThen_ok, List.map_toArray, List.map_cons, List.map_nil, hs, hx, hr]
  exact hK _ _ (h v' w' h2 h3 h4 h5)
end

/-- The elements 0 .. n - 1 of a row, each of them a list of cells. -/
def elems (f : Nat → List Value) (n : Nat) : List Value := (List.range n).flatMap f

theorem elems_length {f : Nat → List Value} {sz : Nat} (hf : ∀ k, (f k).length = sz) : ∀ n, (elems f n).length = n * sz
  | 0 => by simp [elems]
  | n + 1 => by
    have := elems_length hf n
    unfold elems at this ⊢
    rw [List.range_succ, List.flatMap_append, List.length_append, this]
    simp [hf, Nat.add_mul]

theorem elems_succ (f : Nat → List Value) (n : Nat) : elems f (n + 1) = elems f n ++ f n := by
  unfold elems
  rw [List.range_succ, List.flatMap_append]
  simp

theorem elems_at {f : Nat → List Value} {sz : Nat} (hf : ∀ k, (f k).length = sz) (n k j : Nat) (hk : k < n) (hj : j < sz) : (elems f n)[k * sz + j]? = (f k)[j]? := by
  induction n with
  | zero => omega
  | succ n ih =>
    rw [elems_succ]
    by_cases h : k < n
    · have h1 : k * sz + j < n * sz := Nat.lt_of_lt_of_le (by rw [Nat.add_mul]; omega : k * sz + j < (k + 1) * sz) (Nat.mul_le_mul_right _ h)
      rw [List.getElem?_append_left (by rw [elems_length hf]; exact h1)]
      exact ih h
    · obtain rfl : k = n := by omega
      rw [List.getElem?_append_right (by rw [elems_length hf]; omega), elems_length hf]
      congr 1
      omega

theorem take_set_two (xs : List Value) (k : Nat) (a b : Value) (h : k * 2 + 1 < xs.length) : ((xs.set (k * 2) a).set (k * 2 + 1) b).take ((k + 1) * 2) = xs.take (k * 2) ++ [a, b] := by
  apply List.ext_getElem?
  intro i
  rw [List.getElem?_take]
  by_cases h1 : i < (k + 1) * 2
  · rw [if_pos h1]
    by_cases h2 : i < k * 2
    · rw [List.getElem?_append_left (by rw [List.length_take]; omega), List.getElem?_take, if_pos h2, List.getElem?_set_ne (by omega), List.getElem?_set_ne (by omega)]
    · rw [List.getElem?_append_right (by rw [List.length_take]; omega), List.length_take, Nat.min_eq_left (by omega)]
      by_cases h3 : i = k * 2
      · subst h3
        rw [List.getElem?_set_ne (by omega), List.getElem?_set_self (by omega)]
        simp
      · obtain rfl : i = k * 2 + 1 := by omega
        rw [List.getElem?_set_self (by simp; omega), show k * 2 + 1 - k * 2 = 1 by omega]
        simp
  · rw [if_neg h1, List.getElem?_eq_none]
    simp only [List.length_append, List.length_take, List.length_cons, List.length_nil]
    omega

end Go
