/- Rows of bytes; the laws' helpers on their codes. (Written by gen_byt.py.) -/
import Derived.Test.YtnhclpajfejnoaaCur
import Derived.Deep.DeepCutAuto
namespace Go.Proofs.Ytnhclpajfejnoaa
open Go.RowKit

theorem u8_info : (Try.prog.info? 5).map (fun i => (i.zero, i.size, i.bytes)) = some (some (.int .u8 0), 1, 1) := by kernel_rfl
theorem u8s_append (xs ys : List Int) : u8s (xs ++ ys) = u8s xs ++ u8s ys := by simp [u8s]
theorem u8s_one (xs : List Int) : ∀ u ∈ u8s xs, u.oneCell' = true := by
  intro u hu
  obtain ⟨x, _, rfl⟩ := List.mem_map.1 hu
  rfl
def OwnU (w : World) (B : Nat) (A : Option Addr) (c : Nat) (xs : List Int) : Prop := w.ownsRow B 5 1 (.slice A xs.length c) xs.length (u8s xs)
theorem ownU_of (w : World) (B : Nat) (A : Option Addr) (n c : Nat) (xs : List Int) (hn : n = xs.length) (h : w.ownsRow B 5 1 (.slice A n c) n (u8s xs)) : OwnU w B A c xs := by
  subst hn
  exact h
theorem OwnU.rd {w : World} {B c : Nat} {A : Option Addr} {xs : List Int} (h : OwnU w B A c xs) : Rd w A (u8s xs) := Rd.of_own h
theorem OwnU.lit (w : World) (xs : List Int) (hx : xs.length ≤ 16777216) : OwnU (w.alloc (.cells (u8s xs).toArray 5)) w.heap.size (some ⟨w.heap.size, 0, none⟩) xs.length xs := by
  have := World.ownsRow_lit (base := w.heap.size) (e := 5) (size := 1) w (u8s xs).toArray xs.length (Nat.le_refl _) (by unfold maxLen; omega) (by simp [u8s])
  simpa [OwnU] using this
theorem OwnU.alloc {w : World} {B c : Nat} {A : Option Addr} {xs : List Int} (h : OwnU w B A c xs) (o : Obj) : OwnU (w.alloc o) B A c xs := World.ownsRow.alloc h o
theorem OwnU.ge {w : World} {B c : Nat} {A : Option Addr} {xs : List Int} (h : OwnU w B A c xs) : ∀ k, blk A = some k → B ≤ k := fun k e => (World.ownsRow.lt h k (by rw [ownBlock_slice]; exact e)).1
section
variable {ops : Array Oper} {rest : List Oper} {o : Oper} {a : Act} {Q : Exit → Act → World → Prop}
set_option maxRecDepth 10000 in
/-- 'append(xs, ys...)' on a row of the call's own, ys whatever reads. -/
theorem op_append_u8s {K : Act → World → Prop} (w : World) (s x : Operand) (ho : o.op = .call { callee := .builtin .append, args := #[s, x], argTypes := #[22, 22] })
    (B : Nat) (A : Option Addr) (n c : Nat) (xs : List Int) (hs : a.eval s = .slice A n c) (hn : n = xs.length) (hown : OwnU w B A c xs)
    (A' : Option Addr) (m c' : Nat) (ys : List Int) (hx : a.eval x = .slice A' m c') (hm : m = ys.length) (hr : Rd w A' (u8s ys))
    (h63 : xs.length + ys.length ≤ 16777216) (hB : B ≤ w.heap.size)
    (h : ∀ A2 c2 w', OwnU w' B A2 c2 (xs ++ ys) → w.grownBy w' (blk A) → (blk A2 = blk A ∨ blk A2 = some w.heap.size) →
      K (a.put o.dst (.slice A2 (n + m) c2)) w') :
    o.wp Try.prog a w K Q := by
  subst hn hm
  obtain ⟨i0, hi, hz0, hz1, hz2⟩ := info_parts u8_info
  have key : ∃ A2 c2 w', (Builtin.append_ #[22, 22] o.type #[.slice A xs.length c, .slice A' ys.length c']).run Try.prog w = .ok (.slice A2 (xs.length + ys.length) c2) w' ∧
      OwnU w' B A2 c2 (xs ++ ys) ∧ w.grownBy w' (blk A) ∧ (blk A2 = blk A ∨ blk A2 = some w.heap.size) := by
    have hb : ((xs.length + ys.length) * 1) ≤ 140737488355328 := by omega
    have fin : ∀ v' w', w'.ownsRow B 5 1 v' (xs.length + ys.length) (u8s xs ++ u8s ys) → (v'.ownBlock = (Value.slice A xs.length c).ownBlock ∨ v'.ownBlock = some w.heap.size) → 
        (v' = .slice none 0 0 ∨ ∃ g cap, v' = .slice (some ⟨g, 0, none⟩) (xs.length + ys.length) cap) →
        ∃ A2 c2, v' = .slice A2 (xs.length + ys.length) c2 ∧ OwnU w' B A2 c2 (xs ++ ys) ∧ (blk A2 = blk A ∨ blk A2 = some w.heap.size) := by
      intro v' w' h2 h5 h6
      rcases h6 with rfl | ⟨g, cap, rfl⟩
      · have h0 : xs.length + ys.length = 0 := by
          rcases h2.2 with ⟨_, h⟩ | ⟨g, cap, cur, hv, _⟩
          · exact h
          · simp at hv
        refine ⟨none, 0, by rw [h0], ownU_of _ _ _ (xs.length + ys.length) _ _ (by simp) ?_, ?_⟩
        · rw [u8s_append, h0]; rw [h0] at h2; exact h2
        · rw [ownBlock_slice, ownBlock_slice] at h5; exact h5
      · refine ⟨_, _, rfl, ownU_of _ _ _ (xs.length + ys.length) _ _ (by simp) ?_, ?_⟩
        · rw [u8s_append]; exact h2
        · rw [ownBlock_slice, ownBlock_slice] at h5; exact h5
    have shape : ∀ v' (w' : World), w'.ownsRow B 5 1 v' (xs.length + ys.length) (u8s xs ++ u8s ys) → (v' = .slice none 0 0 ∨ ∃ g cap, v' = .slice (some ⟨g, 0, none⟩) (xs.length + ys.length) cap) := by
      intro v' w' h2
      rcases h2.2 with ⟨hv, _⟩ | ⟨g, cap, cur, hv, _⟩
      · exact .inl hv
      · exact .inr ⟨g, cap, hv⟩
    rcases A' with _ | ad
    · have hy : ys = [] := by
        cases ys with
        | nil => rfl
        | cons y l => obtain ⟨ad, h, _⟩ := hr 0 _ rfl; cases h
      subst hy
      have hrun : (Builtin.append_ #[22, 22] o.type #[.slice A xs.length c, .slice none 0 c']).run Try.prog w = .ok (.slice A xs.length c) w := by
        rcases hown.2 with ⟨hv, h0⟩ | ⟨g, cap, cur, hv, _, _, hnc, _⟩
        · rw [hv]
          simp [Builtin.append_, run_underlying Try.underlying22, sizeOf, typeInfo, hi, Builtin.lenOf, Builtin.firstCells]
        · rw [hv]
          simp [Builtin.append_, run_underlying Try.underlying22, sizeOf, typeInfo, hi, Builtin.lenOf, Builtin.firstCells, hnc, storeCells]
      exact ⟨A, c, w, hrun, by simpa using hown, World.grownBy.refl w _, .inl rfl⟩
    · have hcells : ∀ j u, (u8s ys)[j]? = some u → w.cell? (ad.add j) = some u := by
        intro j u hu
        obtain ⟨ad', h, hc⟩ := hr j u hu
        injection h with h
        subst h
        exact hc
      obtain ⟨v', w', hrun, h2, h3, _, h5⟩ := run_append_own_at (P := Try.prog) w B 22 o.type 5 i0 _ 1 1 Try.underlying22 hi hz0 hz1 hz2 rfl (by omega)
        _ xs.length (u8s xs) hown ad ys.length c' (u8s ys) (by simp [u8s]) hcells (u8s_one ys) (by unfold maxLen; omega) hb hB
      obtain ⟨A2, c2, rfl, hO, hb2⟩ := fin v' w' h2 h5 (shape v' w' h2)
      rw [ownBlock_slice] at h3
      exact ⟨A2, c2, w', hrun, hO, h3, hb2⟩
  obtain ⟨A2, c2, w', hrun, h2, h3, h4⟩ := key
  unfold Oper.wp execOp
  simp only [ho, resolve, invoke, builtin, Sem.run_bind, Sem.run_pure, Result.andThen_ok, List.map_toArray, List.map_cons, List.map_nil, hs, hx, hrun]
  exact h A2 c2 w' h2 h3 h4
theorem wp_append_u8s (w : World) (hgd : o.guard = none) (s x : Operand) (ho : o.op = .call { callee := .builtin .append, args := #[s, x], argTypes := #[22, 22] })
    (B : Nat) (A : Option Addr) (n c : Nat) (xs : List Int) (hs : a.eval s = .slice A n c) (hn : n = xs.length) (hown : OwnU w B A c xs)
    (A' : Option Addr) (m c' : Nat) (ys : List Int) (hx : a.eval x = .slice A' m c') (hm : m = ys.length) (hr : Rd w A' (u8s ys))
    (h63 : xs.length + ys.length ≤ 16777216) (hB : B ≤ w.heap.size)
    (h : ∀ A2 c2 w', OwnU w' B A2 c2 (xs ++ ys) → w.grownBy w' (blk A) → (blk A2 = blk A ∨ blk A2 = some w.heap.size) →
      wpList Try.prog ops Q rest (a.put o.dst (.slice A2 (n + m) c2)) w') :
    wpList Try.prog ops Q (o :: rest) a w :=
  wpList_plain hgd fun _ hK => op_append_u8s w s x ho B A n c xs hs hn hown A' m c' ys hx hm hr h63 hB fun A2 c2 w' h2 h3 h4 => hK _ _ (h A2 c2 w' h2 h3 h4)
end
theorem ownU_cap {w : World} {B c : Nat} {A : Option Addr} {xs : List Int} (h : OwnU w B A c xs) : xs.length ≤ c := by
  rcases h.2 with ⟨h, h0⟩ | ⟨g, cap, cur, h, _, _, hc, _⟩
  · omega
  · injection h with _ _ h
    omega
/-- Bytes. -/
def ByOk (bs : List Int) : Prop := ∀ k, 0 ≤ nth bs k ∧ nth bs k ≤ 255
theorem byOk_of {bs : List Int} (h : ∀ b ∈ bs, 0 ≤ b ∧ b ≤ 255) : ByOk bs := fun k => by
  rcases Nat.lt_or_ge k bs.length with hk | hk
  · rw [nth_eq hk]; exact h _ (List.getElem_mem hk)
  · unfold nth
    rw [List.getD_eq_getElem?_getD, List.getElem?_eq_none hk]
    decide
theorem byOk_mem {bs : List Int} (h : ByOk bs) : ∀ b ∈ bs, 0 ≤ b ∧ b ≤ 255 := fun b hb => by
  obtain ⟨k, hk, rfl⟩ := List.mem_iff_getElem.1 hb
  have := h k
  rwa [nth_eq hk] at this
theorem u8s_drop (bs : List Int) (n : Nat) : (u8s bs).drop n = u8s (bs.drop n) := by simp [u8s]
end Go.Proofs.Ytnhclpajfejnoaa
