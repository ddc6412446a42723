/- The walk's laws for rows of whole numbers: make, append, a cut, in the words of Base. -/
import Derived.Test.YtnhclpajfejnoaaBase
namespace Go.Proofs.Ytnhclpajfejnoaa
open Go.RowKit

section
variable {ops : Array Oper} {rest : List Oper} {o : Oper} {a : Act} {Q : Exit → Act → World → Prop}

theorem madeInts (n : Nat) : (madeCells (Value.int .i64 0).cells (n * 1)).toList = ints (List.replicate n 0) := by
  simp [toList_madeCells_one, Value.cells, ints]

theorem own_of (w : World) (B : Nat) (A : Option Addr) (n c : Nat) (xs : List Int) (hn : n = xs.length) (h : w.ownsRow B 3 1 (.slice A n c) n (ints xs)) : Own w B A c xs := by
  subst hn
  exact h

/-- 'make([]int, n)'. -/
theorem wp_make_ints (w : World) (hg : o.guard = none) (l c : Operand) (hop : o.op = Op.makeSlice 24 l c) (kl kc : IntKind) (L C : Int) (n : Nat)
    (hl : a.eval l = .int kl L) (hc : a.eval c = .int kc C) (hL : L = (n : Int)) (hC : C = (n : Int)) (hn : n ≤ 16777216)
    (hK : ∀ w', Own w' w.heap.size (some ⟨w.heap.size, 0, none⟩) n (List.replicate n 0) → Below w.heap.size w w' → wpList Try.prog ops Q rest (a.put o.dst (.slice (some ⟨w.heap.size, 0, none⟩) n n)) w') :
    wpList Try.prog ops Q (o :: rest) a w := by
  obtain ⟨i0, hi, hz0, hz1, hz2⟩ := info_parts int_info
  refine wpList_make_full w hg l c 24 hop w.heap.size 3 i0 _ 1 Try.underlying24 hi hz0 hz1 kl kc L C n hl hc hL hC (by rw [hz2]; omega) (by unfold maxLen; omega) (Nat.le_refl _) ?_
  intro w' hown hgr
  refine hK w' (own_of _ _ _ n _ _ (by simp) ?_) (below_of_grown hgr)
  rw [← madeInts]
  exact hown

theorem Rd.box (w : World) (x : Int) (t : TypeId) : Rd (w.alloc (.cells #[.int .i64 x] t)) (some ⟨w.heap.size, 0, none⟩) (ints [x]) := by
  intro k u hu
  have : k = 0 := by
    have := (List.getElem?_eq_some_iff.1 hu).1
    simp [ints] at this
    omega
  subst this
  simp [ints] at hu
  subst hu
  exact ⟨_, rfl, by simp [Addr.add]⟩

set_option maxRecDepth 10000 in
/-- 'append(xs, ys...)' on a row of the call's own, ys whatever reads. -/
theorem op_append_ints {K : Act → World → Prop} (w : World) (s x : Operand) (ho : o.op = .call { callee := .builtin .append, args := #[s, x], argTypes := #[24, 24] })
    (B : Nat) (A : Option Addr) (n c : Nat) (xs : List Int) (hs : a.eval s = .slice A n c) (hn : n = xs.length) (hown : Own w B A c xs)
    (A' : Option Addr) (m c' : Nat) (ys : List Int) (hx : a.eval x = .slice A' m c') (hm : m = ys.length) (hr : Rd w A' (ints ys))
    (h63 : xs.length + ys.length ≤ 16777216) (hB : B ≤ w.heap.size)
    (h : ∀ A2 c2 w', Own w' B A2 c2 (xs ++ ys) → w.grownBy w' (blk A) → (blk A2 = blk A ∨ blk A2 = some w.heap.size) →
      K (a.put o.dst (.slice A2 (n + m) c2)) w') :
    o.wp Try.prog a w K Q := by
  subst hn hm
  obtain ⟨i0, hi, hz0, hz1, hz2⟩ := info_parts int_info
  have key : ∃ A2 c2 w', (Builtin.append_ #[24, 24] o.type #[.slice A xs.length c, .slice A' ys.length c']).run Try.prog w = .ok (.slice A2 (xs.length + ys.length) c2) w' ∧
      Own w' B A2 c2 (xs ++ ys) ∧ w.grownBy w' (blk A) ∧ (blk A2 = blk A ∨ blk A2 = some w.heap.size) := by
    have hb : ((xs.length + ys.length) * 8) ≤ 140737488355328 := by omega
    have fin : ∀ v' w', w'.ownsRow B 3 1 v' (xs.length + ys.length) (ints xs ++ ints ys) → (v'.ownBlock = (Value.slice A xs.length c).ownBlock ∨ v'.ownBlock = some w.heap.size) → 
        (v' = .slice none 0 0 ∨ ∃ g cap, v' = .slice (some ⟨g, 0, none⟩) (xs.length + ys.length) cap) →
        ∃ A2 c2, v' = .slice A2 (xs.length + ys.length) c2 ∧ Own w' B A2 c2 (xs ++ ys) ∧ (blk A2 = blk A ∨ blk A2 = some w.heap.size) := by
      intro v' w' h2 h5 h6
      rcases h6 with rfl | ⟨g, cap, rfl⟩
      · have h0 : xs.length + ys.length = 0 := by
          rcases h2.2 with ⟨_, h⟩ | ⟨g, cap, cur, hv, _⟩
          · exact h
          · simp at hv
        refine ⟨none, 0, by rw [h0], own_of _ _ _ (xs.length + ys.length) _ _ (by simp) ?_, ?_⟩
        · rw [ints_append, h0]; rw [h0] at h2; exact h2
        · rw [ownBlock_slice, ownBlock_slice] at h5; exact h5
      · refine ⟨_, _, rfl, own_of _ _ _ (xs.length + ys.length) _ _ (by simp) ?_, ?_⟩
        · rw [ints_append]; exact h2
        · rw [ownBlock_slice, ownBlock_slice] at h5; exact h5
    have shape : ∀ v' (w' : World), w'.ownsRow B 3 1 v' (xs.length + ys.length) (ints xs ++ ints ys) → (v' = .slice none 0 0 ∨ ∃ g cap, v' = .slice (some ⟨g, 0, none⟩) (xs.length + ys.length) cap) := by
      intro v' w' h2
      rcases h2.2 with ⟨hv, _⟩ | ⟨g, cap, cur, hv, _⟩
      · exact .inl hv
      · exact .inr ⟨g, cap, hv⟩
    rcases A' with _ | ad
    · have hy : ys = [] := by
        cases ys with
        | nil => rfl
        | cons y l => obtain ⟨ad, h, _⟩ := hr 0 _ rfl; cases h
      subst hy
      have hrun : (Builtin.append_ #[24, 24] o.type #[.slice A xs.length c, .slice none 0 c']).run Try.prog w = .ok (.slice A xs.length c) w := by
        rcases hown.2 with ⟨hv, h0⟩ | ⟨g, cap, cur, hv, _, _, hnc, _⟩
        · rw [hv]
          simp [Builtin.append_, run_underlying Try.underlying24, sizeOf, typeInfo, hi, Builtin.lenOf, Builtin.firstCells]
        · rw [hv]
          simp [Builtin.append_, run_underlying Try.underlying24, sizeOf, typeInfo, hi, Builtin.lenOf, Builtin.firstCells, hnc, storeCells]
      exact ⟨A, c, w, hrun, by simpa using hown, World.grownBy.refl w _, .inl rfl⟩
    · have hcells : ∀ j u, (ints ys)[j]? = some u → w.cell? (ad.add j) = some u := by
        intro j u hu
        obtain ⟨ad', h, hc⟩ := hr j u hu
        injection h with h
        subst h
        exact hc
      obtain ⟨v', w', hrun, h2, h3, _, h5⟩ := run_append_own_at (P := Try.prog) w B 24 o.type 3 i0 _ 1 8 Try.underlying24 hi hz0 hz1 hz2 rfl (by omega)
        _ xs.length (ints xs) hown ad ys.length c' (ints ys) (by simp [ints]) hcells (ints_one ys) (by unfold maxLen; omega) hb hB
      obtain ⟨A2, c2, rfl, hO, hb2⟩ := fin v' w' h2 h5 (shape v' w' h2)
      rw [ownBlock_slice] at h3
      exact ⟨A2, c2, w', hrun, hO, h3, hb2⟩
  obtain ⟨A2, c2, w', hrun, h2, h3, h4⟩ := key
  unfold Oper.wp execOp
  simp only [ho, resolve, invoke, builtin, Sem.run_bind, Sem.run_pure, Result.andThen_ok, List.map_toArray, List.map_cons, List.map_nil, hs, hx, hrun]
  exact h A2 c2 w' h2 h3 h4
theorem wp_append_ints (w : World) (hgd : o.guard = none) (s x : Operand) (ho : o.op = .call { callee := .builtin .append, args := #[s, x], argTypes := #[24, 24] })
    (B : Nat) (A : Option Addr) (n c : Nat) (xs : List Int) (hs : a.eval s = .slice A n c) (hn : n = xs.length) (hown : Own w B A c xs)
    (A' : Option Addr) (m c' : Nat) (ys : List Int) (hx : a.eval x = .slice A' m c') (hm : m = ys.length) (hr : Rd w A' (ints ys))
    (h63 : xs.length + ys.length ≤ 16777216) (hB : B ≤ w.heap.size)
    (h : ∀ A2 c2 w', Own w' B A2 c2 (xs ++ ys) → w.grownBy w' (blk A) → (blk A2 = blk A ∨ blk A2 = some w.heap.size) →
      wpList Try.prog ops Q rest (a.put o.dst (.slice A2 (n + m) c2)) w') :
    wpList Try.prog ops Q (o :: rest) a w :=
  wpList_plain hgd fun _ hK => op_append_ints w s x ho B A n c xs hs hn hown A' m c' ys hx hm hr h63 hB fun A2 c2 w' h2 h3 h4 => hK _ _ (h A2 c2 w' h2 h3 h4)
/-- The same in a region that draws its order. -/
theorem step_append_ints {K : Act → World → Prop} {E : Prop} (w : World) (hgd : o.guard = none) (s x : Operand) (ho : o.op = .call { callee := .builtin .append, args := #[s, x], argTypes := #[24, 24] })
    (B : Nat) (A : Option Addr) (n c : Nat) (xs : List Int) (hs : a.eval s = .slice A n c) (hn : n = xs.length) (hown : Own w B A c xs)
    (A' : Option Addr) (m c' : Nat) (ys : List Int) (hx : a.eval x = .slice A' m c') (hm : m = ys.length) (hr : Rd w A' (ints ys))
    (h63 : xs.length + ys.length ≤ 16777216) (hB : B ≤ w.heap.size)
    (h : ∀ A2 c2 w', Own w' B A2 c2 (xs ++ ys) → w.grownBy w' (blk A) → (blk A2 = blk A ∨ blk A2 = some w.heap.size) → K (a.put o.dst (.slice A2 (n + m) c2)) w') :
    if Region.wanted o (yielded ops a.tmps) = true then Oper.wp Try.prog o a w K Q else E := by
  have hw : Region.wanted o (yielded ops a.tmps) = true := by simp [Region.wanted, hgd]
  rw [if_pos hw]
  exact op_append_ints w s x ho B A n c xs hs hn hown A' m c' ys hx hm hr h63 hB h
/-- 'append(xs, x)': x has just been laid in a box of its own. -/
theorem wp_append1 (w : World) (y : Int) (t : TypeId) (hgd : o.guard = none) (s x : Operand) (ho : o.op = .call { callee := .builtin .append, args := #[s, x], argTypes := #[24, 24] })
    (B : Nat) (A : Option Addr) (n c : Nat) (xs : List Int) (hs : a.eval s = .slice A n c) (hn : n = xs.length) (hown : Own w B A c xs)
    (hx : a.eval x = .slice (some ⟨w.heap.size, 0, none⟩) 1 1) (h63 : xs.length + 1 ≤ 16777216) (hB : B ≤ w.heap.size)
    (h : ∀ A2 c2 w', Own w' B A2 c2 (xs ++ [y]) → w.grownBy w' (blk A) → (blk A2 = blk A ∨ ∃ g, blk A2 = some g ∧ w.heap.size ≤ g) →
      wpList Try.prog ops Q rest (a.put o.dst (.slice A2 (n + 1) c2)) w') :
    wpList Try.prog ops Q (o :: rest) a (w.alloc (.cells #[.int .i64 y] t)) := by
  refine wp_append_ints _ hgd s x ho B A n c xs hs hn (hown.alloc _) _ 1 1 [y] hx rfl (Rd.box w y t) h63 (by simp; omega) ?_
  intro A2 c2 w' h2 h3 h4
  refine h A2 c2 w' h2 (grown_of_alloc h3) ?_
  rcases h4 with h4 | h4
  · exact .inl h4
  · exact .inr ⟨_, h4, by simp⟩
end
end Go.Proofs.Ytnhclpajfejnoaa
