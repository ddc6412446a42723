/- Rows of rows: owned rows of heads, append to them. -/
import Derived.Test.YtkpdldoiicfllaaMk
import Derived.Test.YtkpdldoiicfllaaLaws
import Derived.WalkSpells
namespace Go.Proofs.Ytkpdldoiicfllaa
open Go.RowKit


def lAt (L : List (List Int)) (k : Nat) : List Int := L.getD k []
theorem lAt_mem {L : List (List Int)} {k : Nat} (h : k < L.length) : lAt L k ∈ L := by
  have : lAt L k = L[k] := by simp [lAt, List.getD_eq_getElem?_getD, h]
  rw [this]
  exact List.getElem_mem h
theorem lAt_app {L M : List (List Int)} {k : Nat} (h : k < L.length) : lAt (L ++ M) k = lAt L k := by simp [lAt, List.getD_eq_getElem?_getD, List.getElem?_append_left h]
theorem lAt_last (L : List (List Int)) (s : List Int) : lAt (L ++ [s]) L.length = s := by simp [lAt, List.getD_eq_getElem?_getD]
/-- A row of heads of the call's own. -/
def OwnH (w : World) (B : Nat) (A : Option Addr) (c : Nat) (H : List Value) : Prop := w.ownsRow B 31 1 (.slice A H.length c) H.length H
section
variable {w w' : World} {B : Nat} {A : Option Addr} {c : Nat} {H : List Value}
theorem OwnH.below (h : OwnH w B A c H) (hb : Below w.heap.size w w') : OwnH w' B A c H := row_below h hb
theorem OwnH.alloc (h : OwnH w B A c H) (o : Obj) : OwnH (w.alloc o) B A c H := World.ownsRow.alloc h o
theorem OwnH.mono {B' : Nat} (h : OwnH w B A c H) (hB : B' ≤ B) : OwnH w B' A c H := World.ownsRow.mono h hB
theorem OwnH.ltk (h : OwnH w B A c H) : ∀ k, blk A = some k → B ≤ k ∧ k < w.heap.size := fun k e => World.ownsRow.lt h k (by rw [ownBlock_slice]; exact e)
theorem OwnH.ge (h : OwnH w B A c H) : ∀ k, blk A = some k → B ≤ k := fun k e => (h.ltk k e).1
theorem OwnH.grown {row : Option Nat} (h : OwnH w B A c H) (hg : w.grownBy w' row) (hr : A = none ∨ blk A ≠ row) : OwnH w' B A c H :=
  World.ownsRow.kept h hg (by rcases hr with h | h; · left; rw [ownBlock_slice, h]; rfl
                              · right; rw [ownBlock_slice]; exact h)
theorem OwnH.form (h : OwnH w B A c H) (hn : 0 < H.length) : ∃ g, A = some ⟨g, 0, none⟩ ∧ B ≤ g ∧ g < w.heap.size := by
  obtain ⟨g, cap, hv, hb, hlt⟩ := World.ownsRow.form h hn
  injection hv with hA
  exact ⟨g, hA, hb, hlt⟩
theorem OwnH.cell {g k : Nat} {u : Value} (h : OwnH w B (some ⟨g, 0, none⟩) c H) (hk : H[k]? = some u) : w.cell? ⟨g, k, none⟩ = some u := by
  have hl : k < H.length := (List.getElem?_eq_some_iff.1 hk).1
  have := World.ownsRow.cellAt h k (by omega)
  rw [this, hk]
end
theorem head_info : (Try.prog.info? 31).map (fun i => (i.zero, i.size, i.bytes)) = some (some (.slice none 0 0), 1, 24) := by kernel_rfl
theorem OwnH.lit (w : World) (H : List Value) (hx : H.length ≤ 16777216) : OwnH (w.alloc (.cells H.toArray 31)) w.heap.size (some ⟨w.heap.size, 0, none⟩) H.length H := by
  have := World.ownsRow_lit (base := w.heap.size) (e := 31) (size := 1) w H.toArray H.length (Nat.le_refl _) (by unfold maxLen; omega) (by simp)
  simpa [OwnH] using this
/-- Heads that lead to lists; no list lies in block D. -/
structure Heads (w : World) (B : Nat) (D : Option Nat) (H : List Value) (L : List (List Int)) : Prop where
  len : H.length = L.length
  at_ : ∀ k, k < L.length → ∃ a c, H[k]? = some (.slice (some a) (lAt L k).length c) ∧ Rd w (some a) (ints (lAt L k)) ∧ a.block < w.heap.size ∧ some a.block ≠ D ∧ B ≤ a.block
section
variable {w w' : World} {B : Nat} {D : Option Nat} {H : List Value} {L : List (List Int)}
theorem Heads.keep (h : Heads w B D H L) (hs : w.heap.size ≤ w'.heap.size) (hk : ∀ p : Addr, p.block < w.heap.size → some p.block ≠ D → w'.cell? p = w.cell? p) : Heads w' B D H L :=
  ⟨h.len, fun k hk' => by
    obtain ⟨a, c, h1, h2, h3, h4⟩ := h.at_ k hk'
    refine ⟨a, c, h1, h2.keep fun p hp hA => hk p hp ?_, by omega, h4⟩
    simp only [Option.map_some, Option.some.injEq] at hA
    rw [← hA]
    exact h4.1⟩
theorem Heads.below (h : Heads w B D H L) (hb : Below w.heap.size w w') : Heads w' B D H L := h.keep hb.size fun _ hp _ => hb.cell hp
theorem Heads.alloc (h : Heads w B D H L) (o : Obj) : Heads (w.alloc o) B D H L := h.below ((Below.refl _ _).alloc (Nat.le_refl _) o)
theorem Heads.grown (h : Heads w B D H L) (hg : w.grownBy w' D) : Heads w' B D H L :=
  h.keep hg.size fun p hp hne => World.cell?_of_block (hg.block p.block hp (fun e => hne e))
theorem Heads.to {D' : Option Nat} (h : Heads w B D H L) (hd : D' = D ∨ ∃ g, D' = some g ∧ w.heap.size ≤ g) : Heads w B D' H L :=
  ⟨h.len, fun k hk => by
    obtain ⟨a, c, h1, h2, h3, h4⟩ := h.at_ k hk
    refine ⟨a, c, h1, h2, h3, ?_, h4.2⟩
    rcases hd with rfl | ⟨g, rfl, hg⟩
    · exact h4.1
    · intro e
      injection e with e
      omega⟩
theorem Heads.grow {D' : Option Nat} (h : Heads w B D H L) (hg : w.grownBy w' D) (hd : D' = D ∨ ∃ g, D' = some g ∧ w.heap.size ≤ g) : Heads w' B D' H L := by
  have h1 := h.to hd
  have h2 := h.grown hg
  refine ⟨h.len, fun k hk => ?_⟩
  obtain ⟨a, c, e1, _, _, e4⟩ := h1.at_ k hk
  obtain ⟨a', c', f1, f2, f3, _⟩ := h2.at_ k hk
  rw [e1] at f1
  simp only [Option.some.injEq, Value.slice.injEq, true_and] at f1
  obtain ⟨rfl, rfl⟩ := f1
  exact ⟨a, c, e1, f2, f3, e4⟩
theorem Heads.one (h : Heads w B D H L) : ∀ u ∈ H, u.oneCell' = true := by
  intro u hu
  obtain ⟨k, hk, rfl⟩ := List.mem_iff_getElem.1 hu
  obtain ⟨a, c, h1, _⟩ := h.at_ k (by rw [← h.len]; exact hk)
  rw [List.getElem?_eq_getElem hk] at h1
  injection h1 with h1
  rw [h1]
  rfl
theorem Heads.snoc (h : Heads w B D H L) {a : Addr} {c : Nat} {s : List Int} (hr : Rd w (some a) (ints s)) (ha : a.block < w.heap.size) (hd : some a.block ≠ D) (hb : B ≤ a.block) : Heads w B D (H ++ [.slice (some a) s.length c]) (L ++ [s]) :=
  ⟨by simp [h.len], fun k hk => by
    rw [List.length_append, List.length_singleton] at hk
    rcases Nat.lt_or_ge k L.length with h' | h'
    · obtain ⟨a', c', h1, h2, h3, h4⟩ := h.at_ k h'
      rw [lAt_app h']
      exact ⟨a', c', by rw [List.getElem?_append_left (by rw [h.len]; exact h')]; exact h1, h2, h3, h4⟩
    · obtain rfl : k = L.length := by omega
      rw [lAt_last]
      exact ⟨a, c, by rw [← h.len]; simp, hr, ha, hd, hb⟩⟩
end
theorem Heads.nil (w : World) (B : Nat) (D : Option Nat) : Heads w B D [] [] := ⟨rfl, fun k hk => by simp at hk⟩
/-- Lists of lists that are read. -/
def RowsAt (w : World) (B : Nat) (A : Option Addr) (L : List (List Int)) : Prop :=
  ∀ k, k < L.length → ∃ g a c, A = some ⟨g, 0, none⟩ ∧ w.cell? ⟨g, k, none⟩ = some (.slice (some a) (lAt L k).length c) ∧ Rd w (some a) (ints (lAt L k)) ∧ B ≤ g ∧ B ≤ a.block
theorem RowsAt.keep {w w' : World} {B : Nat} {A : Option Addr} {L : List (List Int)} (h : RowsAt w B A L) (hk : ∀ p : Addr, p.block < w.heap.size → B ≤ p.block → w'.cell? p = w.cell? p) : RowsAt w' B A L := fun k hk' => by
  obtain ⟨g, a, c, rfl, h1, h2, h3, h4⟩ := h k hk'
  refine ⟨g, a, c, rfl, (hk ⟨g, k, none⟩ (cell_lt h1) h3).trans h1, h2.keep fun p hp hA => hk p hp ?_, h3, h4⟩
  simp only [Option.map_some, Option.some.injEq] at hA
  rw [← hA]
  exact h4
theorem RowsAt.below {w w' : World} {B0 : Nat} {A : Option Addr} {L : List (List Int)} (h : RowsAt w B0 A L) {B : Nat} (hb : Below B w w') (hB : w.heap.size ≤ B) : RowsAt w' B0 A L := h.keep fun _ hp _ => hb.cell (by omega)
theorem RowsAt.drewN {w : World} {B : Nat} {A : Option Addr} {L : List (List Int)} (h : RowsAt w B A L) (n : Nat) : RowsAt (w.drewN n) B A L := h
theorem RowsAt.grown {w w' : World} {B g : Nat} {A : Option Addr} {L : List (List Int)} (h : RowsAt w B A L) (hg : w.grownBy w' (some g)) (hB : g < B) : RowsAt w' B A L :=
  h.keep fun p hp hb => World.cell?_of_block (hg.block p.block hp (fun e => by injection e with e; omega))
theorem RowsAt.mono {w : World} {B B' : Nat} {A : Option Addr} {L : List (List Int)} (h : RowsAt w B A L) (hB : B' ≤ B) : RowsAt w B' A L := fun k hk' => by
  obtain ⟨g, a, c, rfl, h1, h2, h3, h4⟩ := h k hk'
  exact ⟨g, a, c, rfl, h1, h2, by omega, by omega⟩
theorem rowsAt_of {w : World} {B B0 c : Nat} {A : Option Addr} {D : Option Nat} {H : List Value} {L : List (List Int)} (ho : OwnH w B A c H) (hh : Heads w B0 D H L) (hB : B0 ≤ B) : RowsAt w B0 A L := fun k hk => by
  obtain ⟨g, rfl, hg, _⟩ := ho.form (by rw [hh.len]; omega)
  obtain ⟨a, c', h1, h2, _, _, h5⟩ := hh.at_ k hk
  exact ⟨g, a, c', rfl, ho.cell h1, h2, by omega, h5⟩
section
variable {ops : Array Oper} {rest : List Oper} {o : Oper} {a : Act} {Q : Exit → Act → World → Prop}
set_option maxRecDepth 10000 in
/-- 'append(xs, ys...)' on a row of heads of the call's own; ys is a row of cells. -/
theorem op_append_heads {K : Act → World → Prop} (w : World) (s x : Operand) (ho : o.op = .call { callee := .builtin .append, args := #[s, x], argTypes := #[48, 48] })
    (B : Nat) (A : Option Addr) (n c : Nat) (H : List Value) (hs : a.eval s = .slice A n c) (hn : n = H.length) (hown : OwnH w B A c H)
    (ad : Addr) (m c' : Nat) (G : List Value) (hx : a.eval x = .slice (some ad) m c') (hm : m = G.length) (hr : ∀ j u, G[j]? = some u → w.cell? (ad.add j) = some u) (hone : ∀ u ∈ G, u.oneCell' = true)
    (h63 : H.length + G.length ≤ 65536) (hB : B ≤ w.heap.size) (hq : 0 < G.length)
    (h : ∀ g c2 w', OwnH w' B (some ⟨g, 0, none⟩) c2 (H ++ G) → w.grownBy w' (blk A) → (some g = blk A ∨ g = w.heap.size) → K (a.put o.dst (.slice (some ⟨g, 0, none⟩) (n + m) c2)) w') :
    o.wp Try.prog a w K Q := by
  subst hn hm
  obtain ⟨i0, hi, hz0, hz1, hz2⟩ := info_parts head_info
  have hb : ((H.length + G.length) * 24) ≤ 140737488355328 := by omega
  obtain ⟨v', w', hrun, h2, h3, _, h5⟩ := run_append_own_at (P := Try.prog) w B 48 o.type 31 i0 _ 1 24 Try.underlying48 hi hz0 hz1 hz2 rfl (by omega)
    _ H.length H hown ad G.length c' G (by simp) hr hone (by unfold maxLen; omega) hb hB
  obtain ⟨g, cap, rfl, _, _⟩ := World.ownsRow.form h2 (by omega)
  rw [ownBlock_slice] at h3
  unfold Oper.wp execOp
  simp only [ho, resolve, invoke, builtin, Sem.run_bind, Sem.run_pure, Result.andThen_ok, List.map_toArray, List.map_cons, List.map_nil, hs, hx, hrun]
  refine h g cap w' ?_ h3 ?_
  · unfold OwnH
    rw [List.length_append]
    exact h2
  · simp only [ownBlock_slice] at h5
    rcases h5 with h5 | h5
    · exact .inl h5
    · right
      have h5 : some g = some w.heap.size := h5
      injection h5
theorem wp_append_heads (w : World) (hgd : o.guard = none) (s x : Operand) (ho : o.op = .call { callee := .builtin .append, args := #[s, x], argTypes := #[48, 48] })
    (B : Nat) (A : Option Addr) (n c : Nat) (H : List Value) (hs : a.eval s = .slice A n c) (hn : n = H.length) (hown : OwnH w B A c H)
    (ad : Addr) (m c' : Nat) (G : List Value) (hx : a.eval x = .slice (some ad) m c') (hm : m = G.length) (hr : ∀ j u, G[j]? = some u → w.cell? (ad.add j) = some u) (hone : ∀ u ∈ G, u.oneCell' = true)
    (h63 : H.length + G.length ≤ 65536) (hB : B ≤ w.heap.size) (hq : 0 < G.length)
    (h : ∀ g c2 w', OwnH w' B (some ⟨g, 0, none⟩) c2 (H ++ G) → w.grownBy w' (blk A) → (some g = blk A ∨ g = w.heap.size) → wpList Try.prog ops Q rest (a.put o.dst (.slice (some ⟨g, 0, none⟩) (n + m) c2)) w') :
    wpList Try.prog ops Q (o :: rest) a w :=
  wpList_plain hgd fun _ hK => op_append_heads w s x ho B A n c H hs hn hown ad m c' G hx hm hr hone h63 hB hq fun g c2 w' h2 h3 h4 => hK _ _ (h g c2 w' h2 h3 h4)
/-- 'append(xs, x)': the head x has just been laid in a box of its own. -/
theorem wp_append_head (w : World) (a0 : Addr) (n0 c0 : Nat) (t : TypeId) (hgd : o.guard = none) (s x : Operand) (ho : o.op = .call { callee := .builtin .append, args := #[s, x], argTypes := #[48, 48] })
    (B : Nat) (A : Option Addr) (n c : Nat) (H : List Value) (hs : a.eval s = .slice A n c) (hn : n = H.length) (hown : OwnH w B A c H)
    (hx : a.eval x = .slice (some ⟨w.heap.size, 0, none⟩) 1 1) (h63 : H.length + 1 ≤ 65536) (hB : B ≤ w.heap.size)
    (h : ∀ g c2 w', OwnH w' B (some ⟨g, 0, none⟩) c2 (H ++ [.slice (some a0) n0 c0]) → w.grownBy w' (blk A) → (some g = blk A ∨ w.heap.size ≤ g) → wpList Try.prog ops Q rest (a.put o.dst (.slice (some ⟨g, 0, none⟩) (n + 1) c2)) w') :
    wpList Try.prog ops Q (o :: rest) a (w.alloc (.cells #[.slice (some a0) n0 c0] t)) := by
  refine wp_append_heads _ hgd s x ho B A n c H hs hn (hown.alloc _) _ 1 1 [.slice (some a0) n0 c0] hx rfl ?_ ?_ h63 (by simp; omega) (by simp) ?_
  · intro j u hu
    have : j = 0 := by
      have := (List.getElem?_eq_some_iff.1 hu).1
      simp at this
      omega
    subst this
    simp at hu
    subst hu
    simp [Addr.add]
  · intro u hu
    obtain rfl := List.mem_singleton.1 hu
    rfl
  · intro g c2 w' h2 h3 h4
    refine h g c2 w' h2 (grown_of_alloc h3) ?_
    rcases h4 with h4 | h4
    · exact .inl h4
    · exact .inr (by simp at h4; omega)
end
end Go.Proofs.Ytkpdldoiicfllaa
