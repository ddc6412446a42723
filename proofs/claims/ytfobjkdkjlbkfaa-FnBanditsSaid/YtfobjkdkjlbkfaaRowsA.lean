/- Rows of heads, and what lies behind them. -/
import Derived.Test.YtfobjkdkjlbkfaaMk
import Derived.Test.YtfobjkdkjlbkfaaLaws
import Derived.WalkSpells
import Derived.Test.YtfobjkdkjlbkfaaSS
import Derived.Test.YtfobjkdkjlbkfaaOpB
import Derived.Test.YtfobjkdkjlbkfaaButA
namespace Go.Proofs.Ytfobjkdkjlbkfaa
open Go.RowKit


def lAt (L : List (List Int)) (k : Nat) : List Int := L.getD k []
theorem lAt_mem {L : List (List Int)} {k : Nat} (h : k < L.length) : lAt L k ∈ L := by
  have : lAt L k = L[k] := by simp [lAt, List.getD_eq_getElem?_getD, h]
  rw [this]
  exact List.getElem_mem h
theorem lAt_app {L M : List (List Int)} {k : Nat} (h : k < L.length) : lAt (L ++ M) k = lAt L k := by simp [lAt, List.getD_eq_getElem?_getD, List.getElem?_append_left h]
theorem lAt_last (L : List (List Int)) (s : List Int) : lAt (L ++ [s]) L.length = s := by simp [lAt, List.getD_eq_getElem?_getD]
/-- A row of heads of the call's own. -/
def OwnH (w : World) (B : Nat) (A : Option Addr) (c : Nat) (H : List Value) : Prop := w.ownsRow B 24 1 (.slice A H.length c) H.length H
section
variable {w w' : World} {B : Nat} {A : Option Addr} {c : Nat} {H : List Value}
theorem OwnH.below (h : OwnH w B A c H) (hb : Below w.heap.size w w') : OwnH w' B A c H := row_below h hb
theorem OwnH.alloc (h : OwnH w B A c H) (o : Obj) : OwnH (w.alloc o) B A c H := World.ownsRow.alloc h o
theorem OwnH.mono {B' : Nat} (h : OwnH w B A c H) (hB : B' ≤ B) : OwnH w B' A c H := World.ownsRow.mono h hB
theorem OwnH.ltk (h : OwnH w B A c H) : ∀ k, blk A = some k → B ≤ k ∧ k < w.heap.size := fun k e => World.ownsRow.lt h k (by rw [ownBlock_slice]; exact e)
theorem OwnH.ge (h : OwnH w B A c H) : ∀ k, blk A = some k → B ≤ k := fun k e => (h.ltk k e).1
theorem OwnH.grown {row : Option Nat} (h : OwnH w B A c H) (hg : w.grownBy w' row) (hr : A = none ∨ blk A ≠ row) : OwnH w' B A c H :=
  World.ownsRow.kept h hg (by rcases hr with h | h; · left; rw [ownBlock_slice, h]; rfl
                              · right; rw [ownBlock_slice]; exact h)
theorem OwnH.form (h : OwnH w B A c H) (hn : 0 < H.length) : ∃ g, A = some ⟨g, 0, none⟩ ∧ B ≤ g ∧ g < w.heap.size := by
  obtain ⟨g, cap, hv, hb, hlt⟩ := World.ownsRow.form h hn
  injection hv with hA
  exact ⟨g, hA, hb, hlt⟩
theorem OwnH.cell {g k : Nat} {u : Value} (h : OwnH w B (some ⟨g, 0, none⟩) c H) (hk : H[k]? = some u) : w.cell? ⟨g, k, none⟩ = some u := by
  have hl : k < H.length := (List.getElem?_eq_some_iff.1 hk).1
  have := World.ownsRow.cellAt h k (by omega)
  rw [this, hk]
end
theorem head_info : (Try.prog.info? 24).map (fun i => (i.zero, i.size, i.bytes)) = some (some (.slice none 0 0), 1, 24) := by kernel_rfl
theorem OwnH.lit (w : World) (H : List Value) (hx : H.length ≤ 16777216) : OwnH (w.alloc (.cells H.toArray 24)) w.heap.size (some ⟨w.heap.size, 0, none⟩) H.length H := by
  have := World.ownsRow_lit (base := w.heap.size) (e := 24) (size := 1) w H.toArray H.length (Nat.le_refl _) (by unfold maxLen; omega) (by simp)
  simpa [OwnH] using this
/-- Heads that lead to lists; no list lies in block D. -/
structure Heads (w : World) (B : Nat) (D : Option Nat) (H : List Value) (L : List (List Int)) : Prop where
  len : H.length = L.length
  at_ : ∀ k, k < L.length → ∃ a c, H[k]? = some (.slice (some a) (lAt L k).length c) ∧ Rd w (some a) (ints (lAt L k)) ∧ a.block < w.heap.size ∧ some a.block ≠ D ∧ B ≤ a.block
section
variable {w w' : World} {B : Nat} {D : Option Nat} {H : List Value} {L : List (List Int)}
theorem Heads.keep (h : Heads w B D H L) (hs : w.heap.size ≤ w'.heap.size) (hk : ∀ p : Addr, p.block < w.heap.size → some p.block ≠ D → w'.cell? p = w.cell? p) : Heads w' B D H L :=
  ⟨h.len, fun k hk' => by
    obtain ⟨a, c, h1, h2, h3, h4⟩ := h.at_ k hk'
    refine ⟨a, c, h1, h2.keep fun p hp hA => hk p hp ?_, by omega, h4⟩
    simp only [Option.map_some, Option.some.injEq] at hA
    rw [← hA]
    exact h4.1⟩
theorem Heads.below (h : Heads w B D H L) (hb : Below w.heap.size w w') : Heads w' B D H L := h.keep hb.size fun _ hp _ => hb.cell hp
theorem Heads.alloc (h : Heads w B D H L) (o : Obj) : Heads (w.alloc o) B D H L := h.below ((Below.refl _ _).alloc (Nat.le_refl _) o)
theorem Heads.grown (h : Heads w B D H L) (hg : w.grownBy w' D) : Heads w' B D H L :=
  h.keep hg.size fun p hp hne => World.cell?_of_block (hg.block p.block hp (fun e => hne e))
theorem Heads.to {D' : Option Nat} (h : Heads w B D H L) (hd : D' = D ∨ ∃ g, D' = some g ∧ w.heap.size ≤ g) : Heads w B D' H L :=
  ⟨h.len, fun k hk => by
    obtain ⟨a, c, h1, h2, h3, h4⟩ := h.at_ k hk
    refine ⟨a, c, h1, h2, h3, ?_, h4.2⟩
    rcases hd with rfl | ⟨g, rfl, hg⟩
    · exact h4.1
    · intro e
      injection e with e
      omega⟩
theorem Heads.grow {D' : Option Nat} (h : Heads w B D H L) (hg : w.grownBy w' D) (hd : D' = D ∨ ∃ g, D' = some g ∧ w.heap.size ≤ g) : Heads w' B D' H L := by
  have h1 := h.to hd
  have h2 := h.grown hg
  refine ⟨h.len, fun k hk => ?_⟩
  obtain ⟨a, c, e1, _, _, e4⟩ := h1.at_ k hk
  obtain ⟨a', c', f1, f2, f3, _⟩ := h2.at_ k hk
  rw [e1] at f1
  simp only [Option.some.injEq, Value.slice.injEq, true_and] at f1
  obtain ⟨rfl, rfl⟩ := f1
  exact ⟨a, c, e1, f2, f3, e4⟩
theorem Heads.one (h : Heads w B D H L) : ∀ u ∈ H, u.oneCell' = true := by
  intro u hu
  obtain ⟨k, hk, rfl⟩ := List.mem_iff_getElem.1 hu
  obtain ⟨a, c, h1, _⟩ := h.at_ k (by rw [← h.len]; exact hk)
  rw [List.getElem?_eq_getElem hk] at h1
  injection h1 with h1
  rw [h1]
  rfl
theorem Heads.snoc (h : Heads w B D H L) {a : Addr} {c : Nat} {s : List Int} (hr : Rd w (some a) (ints s)) (ha : a.block < w.heap.size) (hd : some a.block ≠ D) (hb : B ≤ a.block) : Heads w B D (H ++ [.slice (some a) s.length c]) (L ++ [s]) :=
  ⟨by simp [h.len], fun k hk => by
    rw [List.length_append, List.length_singleton] at hk
    rcases Nat.lt_or_ge k L.length with h' | h'
    · obtain ⟨a', c', h1, h2, h3, h4⟩ := h.at_ k h'
      rw [lAt_app h']
      exact ⟨a', c', by rw [List.getElem?_append_left (by rw [h.len]; exact h')]; exact h1, h2, h3, h4⟩
    · obtain rfl : k = L.length := by omega
      rw [lAt_last]
      exact ⟨a, c, by rw [← h.len]; simp, hr, ha, hd, hb⟩⟩
end
theorem Heads.nil (w : World) (B : Nat) (D : Option Nat) : Heads w B D [] [] := ⟨rfl, fun k hk => by simp at hk⟩
/-- Lists of lists that are read. -/
def RowsAt (w : World) (B : Nat) (A : Option Addr) (L : List (List Int)) : Prop :=
  ∀ k, k < L.length → ∃ g a c, A = some ⟨g, 0, none⟩ ∧ w.cell? ⟨g, k, none⟩ = some (.slice (some a) (lAt L k).length c) ∧ Rd w (some a) (ints (lAt L k)) ∧ B ≤ g ∧ B ≤ a.block
theorem RowsAt.keep {w w' : World} {B : Nat} {A : Option Addr} {L : List (List Int)} (h : RowsAt w B A L) (hk : ∀ p : Addr, p.block < w.heap.size → B ≤ p.block → w'.cell? p = w.cell? p) : RowsAt w' B A L := fun k hk' => by
  obtain ⟨g, a, c, rfl, h1, h2, h3, h4⟩ := h k hk'
  refine ⟨g, a, c, rfl, (hk ⟨g, k, none⟩ (cell_lt h1) h3).trans h1, h2.keep fun p hp hA => hk p hp ?_, h3, h4⟩
  simp only [Option.map_some, Option.some.injEq] at hA
  rw [← hA]
  exact h4
theorem RowsAt.below {w w' : World} {B0 : Nat} {A : Option Addr} {L : List (List Int)} (h : RowsAt w B0 A L) {B : Nat} (hb : Below B w w') (hB : w.heap.size ≤ B) : RowsAt w' B0 A L := h.keep fun _ hp _ => hb.cell (by omega)
theorem RowsAt.drewN {w : World} {B : Nat} {A : Option Addr} {L : List (List Int)} (h : RowsAt w B A L) (n : Nat) : RowsAt (w.drewN n) B A L := h
theorem RowsAt.grown {w w' : World} {B g : Nat} {A : Option Addr} {L : List (List Int)} (h : RowsAt w B A L) (hg : w.grownBy w' (some g)) (hB : g < B) : RowsAt w' B A L :=
  h.keep fun p hp hb => World.cell?_of_block (hg.block p.block hp (fun e => by injection e with e; omega))
theorem RowsAt.mono {w : World} {B B' : Nat} {A : Option Addr} {L : List (List Int)} (h : RowsAt w B A L) (hB : B' ≤ B) : RowsAt w B' A L := fun k hk' => by
  obtain ⟨g, a, c, rfl, h1, h2, h3, h4⟩ := h k hk'
  exact ⟨g, a, c, rfl, h1, h2, by omega, by omega⟩
theorem rowsAt_of {w : World} {B B0 c : Nat} {A : Option Addr} {D : Option Nat} {H : List Value} {L : List (List Int)} (ho : OwnH w B A c H) (hh : Heads w B0 D H L) (hB : B0 ≤ B) : RowsAt w B0 A L := fun k hk => by
  obtain ⟨g, rfl, hg, _⟩ := ho.form (by rw [hh.len]; omega)
  obtain ⟨a, c', h1, h2, _, _, h5⟩ := hh.at_ k hk
  exact ⟨g, a, c', rfl, ho.cell h1, h2, by omega, h5⟩
section
variable {ops : Array Oper} {rest : List Oper} {o : Oper} {a : Act} {Q : Exit → Act → World → Prop}
set_option maxRecDepth 10000 in
/-- 'append(xs, ys...)' on a row of heads of the call's own; ys is a row of cells. -/
theorem op_append_heads {K : Act → World → Prop} (w : World) (s x : Operand) (ho : o.op = .call { callee := .builtin .append, args := #[s, x], argTypes := #[68, 68] })
    (B : Nat) (A : Option Addr) (n c : Nat) (H : List Value) (hs : a.eval s = .slice A n c) (hn : n = H.length) (hown : OwnH w B A c H)
    (ad : Addr) (m c' : Nat) (G : List Value) (hx : a.eval x = .slice (some ad) m c') (hm : m = G.length) (hr : ∀ j u, G[j]? = some u → w.cell? (ad.add j) = some u) (hone : ∀ u ∈ G, u.oneCell' = true)
    (h63 : H.length + G.length ≤ 65536) (hB : B ≤ w.heap.size) (hq : 0 < G.length)
    (h : ∀ g c2 w', OwnH w' B (some ⟨g, 0, none⟩) c2 (H ++ G) → w.grownBy w' (blk A) → (some g = blk A ∨ g = w.heap.size) → K (a.put o.dst (.slice (some ⟨g, 0, none⟩) (n + m) c2)) w') :
    o.wp Try.prog a w K Q := by
  subst hn hm
  obtain ⟨i0, hi, hz0, hz1, hz2⟩ := info_parts head_info
  have hb : ((H.length + G.length) * 24) ≤ 140737488355328 := by omega
  obtain ⟨v', w', hrun, h2, h3, _, h5⟩ := run_append_own_at (P := Try.prog) w B 68 o.type 24 i0 _ 1 24 Try.underlying68 hi hz0 hz1 hz2 rfl (by omega)
    _ H.length H hown ad G.length c' G (by simp) hr hone (by unfold maxLen; omega) hb hB
  obtain ⟨g, cap, rfl, _, _⟩ := World.ownsRow.form h2 (by omega)
  rw [ownBlock_slice] at h3
  unfold Oper.wp execOp
  simp only [ho, resolve, invoke, builtin, Sem.run_bind, Sem.run_pure, Result.andThen_ok, List.map_toArray, List.map_cons, List.map_nil, hs, hx, hrun]
  refine h g cap w' ?_ h3 ?_
  · unfold OwnH
    rw [List.length_append]
    exact h2
  · simp only [ownBlock_slice] at h5
    rcases h5 with h5 | h5
    · exact .inl h5
    · right
      have h5 : some g = some w.heap.size := h5
      injection h5
theorem wp_append_heads (w : World) (hgd : o.guard = none) (s x : Operand) (ho : o.op = .call { callee := .builtin .append, args := #[s, x], argTypes := #[68, 68] })
    (B : Nat) (A : Option Addr) (n c : Nat) (H : List Value) (hs : a.eval s = .slice A n c) (hn : n = H.length) (hown : OwnH w B A c H)
    (ad : Addr) (m c' : Nat) (G : List Value) (hx : a.eval x = .slice (some ad) m c') (hm : m = G.length) (hr : ∀ j u, G[j]? = some u → w.cell? (ad.add j) = some u) (hone : ∀ u ∈ G, u.oneCell' = true)
    (h63 : H.length + G.length ≤ 65536) (hB : B ≤ w.heap.size) (hq : 0 < G.length)
    (h : ∀ g c2 w', OwnH w' B (some ⟨g, 0, none⟩) c2 (H ++ G) → w.grownBy w' (blk A) → (some g = blk A ∨ g = w.heap.size) → wpList Try.prog ops Q rest (a.put o.dst (.slice (some ⟨g, 0, none⟩) (n + m) c2)) w') :
    wpList Try.prog ops Q (o :: rest) a w :=
  wpList_plain hgd fun _ hK => op_append_heads w s x ho B A n c H hs hn hown ad m c' G hx hm hr hone h63 hB hq fun g c2 w' h2 h3 h4 => hK _ _ (h g c2 w' h2 h3 h4)
/-- 'append(xs, x)': the head x has just been laid in a box of its own. -/
theorem wp_append_head (w : World) (a0 : Addr) (n0 c0 : Nat) (t : TypeId) (hgd : o.guard = none) (s x : Operand) (ho : o.op = .call { callee := .builtin .append, args := #[s, x], argTypes := #[68, 68] })
    (B : Nat) (A : Option Addr) (n c : Nat) (H : List Value) (hs : a.eval s = .slice A n c) (hn : n = H.length) (hown : OwnH w B A c H)
    (hx : a.eval x = .slice (some ⟨w.heap.size, 0, none⟩) 1 1) (h63 : H.length + 1 ≤ 65536) (hB : B ≤ w.heap.size)
    (h : ∀ g c2 w', OwnH w' B (some ⟨g, 0, none⟩) c2 (H ++ [.slice (some a0) n0 c0]) → w.grownBy w' (blk A) → (some g = blk A ∨ w.heap.size ≤ g) → wpList Try.prog ops Q rest (a.put o.dst (.slice (some ⟨g, 0, none⟩) (n + 1) c2)) w') :
    wpList Try.prog ops Q (o :: rest) a (w.alloc (.cells #[.slice (some a0) n0 c0] t)) := by
  refine wp_append_heads _ hgd s x ho B A n c H hs hn (hown.alloc _) _ 1 1 [.slice (some a0) n0 c0] hx rfl ?_ ?_ h63 (by simp; omega) (by simp) ?_
  · intro j u hu
    have : j = 0 := by
      have := (List.getElem?_eq_some_iff.1 hu).1
      simp at this
      omega
    subst this
    simp at hu
    subst hu
    simp [Addr.add]
  · intro u hu
    obtain rfl := List.mem_singleton.1 hu
    rfl
  · intro g c2 w' h2 h3 h4
    refine h g c2 w' h2 (grown_of_alloc h3) ?_
    rcases h4 with h4 | h4
    · exact .inl h4
    · exact .inr (by simp at h4; omega)
end

/-- A row of the call's own of values of one cell. -/
def OwnV (t : TypeId) (w : World) (B : Nat) (A : Option Addr) (c : Nat) (H : List Value) : Prop := w.ownsRow B t 1 (.slice A H.length c) H.length H
section
variable {t : TypeId} {w w' : World} {B : Nat} {A : Option Addr} {c : Nat} {H : List Value}
theorem OwnV.below (h : OwnV t w B A c H) (hb : Below w.heap.size w w') : OwnV t w' B A c H := by
  cases hA : (Value.slice A H.length c).ownBlock with
  | none => exact World.ownsRow.kept h (grown_of_below hb none) (.inl hA)
  | some g => exact World.ownsRow.kept h (grown_of_below hb none) (.inr (by rw [hA]; simp))
theorem OwnV.alloc (h : OwnV t w B A c H) (o : Obj) : OwnV t (w.alloc o) B A c H := World.ownsRow.alloc h o
theorem OwnV.mono {B' : Nat} (h : OwnV t w B A c H) (hB : B' ≤ B) : OwnV t w B' A c H := World.ownsRow.mono h hB
theorem OwnV.ltk (h : OwnV t w B A c H) : ∀ k, blk A = some k → B ≤ k ∧ k < w.heap.size := fun k e => World.ownsRow.lt h k (by rw [ownBlock_slice]; exact e)
theorem OwnV.ge (h : OwnV t w B A c H) : ∀ k, blk A = some k → B ≤ k := fun k e => (h.ltk k e).1
theorem OwnV.grown {row : Option Nat} (h : OwnV t w B A c H) (hg : w.grownBy w' row) (hr : A = none ∨ blk A ≠ row) : OwnV t w' B A c H :=
  World.ownsRow.kept h hg (by rcases hr with h | h; · left; rw [ownBlock_slice, h]; rfl
                              · right; rw [ownBlock_slice]; exact h)
theorem OwnV.form (h : OwnV t w B A c H) (hn : 0 < H.length) : ∃ g, A = some ⟨g, 0, none⟩ ∧ B ≤ g ∧ g < w.heap.size := by
  obtain ⟨g, cap, hv, hb, hlt⟩ := World.ownsRow.form h hn
  injection hv with hA
  exact ⟨g, hA, hb, hlt⟩
theorem OwnV.cell {g k : Nat} {u : Value} (h : OwnV t w B (some ⟨g, 0, none⟩) c H) (hk : H[k]? = some u) : w.cell? ⟨g, k, none⟩ = some u := by
  have hl : k < H.length := (List.getElem?_eq_some_iff.1 hk).1
  have := World.ownsRow.cellAt h k (by omega)
  rw [this, hk]
theorem OwnV.nil (t : TypeId) (w : World) (B : Nat) : OwnV t w B none 0 [] := ⟨rfl, .inl ⟨rfl, rfl⟩⟩
theorem OwnV.lit (t : TypeId) (w : World) (H : List Value) (hx : H.length ≤ 16777216) : OwnV t (w.alloc (.cells H.toArray t)) w.heap.size (some ⟨w.heap.size, 0, none⟩) H.length H := by
  have := World.ownsRow_lit (base := w.heap.size) (e := t) (size := 1) w H.toArray H.length (Nat.le_refl _) (by unfold maxLen; omega) (by simp)
  simpa [OwnV] using this
end
section
variable {ops : Array Oper} {o : Oper} {a : Act} {Q : Exit → Act → World → Prop}
set_option maxRecDepth 10000 in
/-- 'append(xs, v)' on a row of heads of the call's own; v stands in a box of one cell. -/
theorem op_append_one {K : Act → World → Prop} (ts t : TypeId) (hu : Try.prog.underlying ts = some (.slice t)) (hinf : (Try.prog.info? t).map (fun i => (i.zero, i.size, i.bytes)) = some (some (.slice none 0 0), 1, 24))
    (w : World) (s x : Operand) (ho : o.op = .call { callee := .builtin .append, args := #[s, x], argTypes := #[ts, ts] })
    (B : Nat) (A : Option Addr) (n c : Nat) (H : List Value) (hs : a.eval s = .slice A n c) (hn : n = H.length) (hown : OwnV t w B A c H)
    (g c' : Nat) (v : Value) (hx : a.eval x = .slice (some ⟨g, 0, none⟩) 1 c') (hr : w.cell? ⟨g, 0, none⟩ = some v) (hone : v.oneCell' = true)
    (h63 : H.length + 1 ≤ 65536) (hB : B ≤ w.heap.size)
    (h : ∀ g c2 w', OwnV t w' B (some ⟨g, 0, none⟩) c2 (H ++ [v]) → w.grownBy w' (blk A) → (some g = blk A ∨ g = w.heap.size) → K (a.put o.dst (.slice (some ⟨g, 0, none⟩) (n + 1) c2)) w') :
    o.wp Try.prog a w K Q := by
  subst hn
  obtain ⟨i0, hi, hz0, hz1, hz2⟩ := info_parts hinf
  have hb : ((H.length + 1) * 24) ≤ 140737488355328 := by omega
  obtain ⟨v', w', hrun, h2, h3, _, h5⟩ := run_append_own_at (P := Try.prog) w B ts o.type t i0 _ 1 24 hu hi hz0 hz1 hz2 rfl (by omega)
    _ H.length H hown ⟨g, 0, none⟩ 1 c' [v] (by simp) (fun j u hj => by
      have : j = 0 := by
        have := (List.getElem?_eq_some_iff.1 hj).1
        simp at this
        omega
      subst this
      simp at hj
      subst hj
      simpa [Addr.add] using hr) (fun u hu => by rw [List.mem_singleton.1 hu]; exact hone) (by unfold maxLen; omega) hb hB
  obtain ⟨g, cap, rfl, _, _⟩ := World.ownsRow.form h2 (by omega)
  rw [ownBlock_slice] at h3
  unfold Oper.wp execOp
  simp only [ho, resolve, invoke, builtin, Sem.run_bind, Sem.run_pure, Result.andThen_ok, List.map_toArray, List.map_cons, List.map_nil, hs, hx, hrun]
  refine h g cap w' ?_ h3 ?_
  · unfold OwnV
    rw [List.length_append]
    exact h2
  · simp only [ownBlock_slice] at h5
    rcases h5 with h5 | h5
    · exact .inl h5
    · right
      have h5 : some g = some w.heap.size := h5
      injection h5
end

/-- What is not in a block of D is as it was. -/
structure Kept (w v : World) (D : Nat → Prop) : Prop where
  size : w.heap.size ≤ v.heap.size
  block : ∀ k, k < w.heap.size → ¬ D k → v.heap[k]? = w.heap[k]?
section
variable {w v x : World} {D D' : Nat → Prop}
theorem Kept.cell (h : Kept w v D) {p : Addr} (hp : p.block < w.heap.size) (hd : ¬ D p.block) : v.cell? p = w.cell? p := World.cell?_of_block (h.block _ hp hd)
theorem Kept.of_grown {row : Option Nat} (hg : w.grownBy v row) (hr : ∀ b, row = some b → D b) : Kept w v D :=
  ⟨hg.size, fun k hk hd => hg.block k hk fun e => hd (hr k e.symm)⟩
theorem Kept.of_below (hb : Below w.heap.size w v) : Kept w v D := ⟨hb.size, fun k hk _ => hb.block k hk⟩
theorem Kept.trans (h : Kept w v D) (h' : Kept v x D) : Kept w x D :=
  ⟨Nat.le_trans h.size h'.size, fun k hk hd => (h'.block k (Nat.lt_of_lt_of_le hk h.size) hd).trans (h.block k hk hd)⟩
theorem Kept.to (h : Kept w v D') (hd : ∀ b, b < w.heap.size → D' b → D b) : Kept w v D := ⟨h.size, fun k hk hn => h.block k hk fun e => hn (hd k hk e)⟩
theorem Kept.set (a : Addr) (u : Value) (hd : D a.block) : Kept w (w.setCell a u) D :=
  ⟨by rw [World.size_setCell]; exact Nat.le_refl _, fun k _ hn => by
    have hne : a.block ≠ k := fun e => hn (e ▸ hd)
    simp [World.setCell, Array.getElem?_modify, hne]⟩
end
/-- What lies behind a value stays as long as the blocks of D alone are written. -/
structure Stays {α : Type} (Lie : World → (Nat → Prop) → Value → α → Prop) : Prop where
  keep : ∀ {w v : World} {D : Nat → Prop} {u : Value} {x : α}, Lie w D u x → Kept w v D → Lie v D u x
  wide : ∀ {w : World} {D D' : Nat → Prop} {u : Value} {x : α}, Lie w D u x → (∀ b, b < w.heap.size → D' b → D b) → Lie w D' u x
  one : ∀ {w : World} {D : Nat → Prop} {u : Value} {x : α}, Lie w D u x → u.oneCell' = true
/-- A list of numbers. -/
def Lies0 (w : World) (D : Nat → Prop) (u : Value) (xs : List Int) : Prop :=
  ∃ a c, u = .slice a xs.length c ∧ Rd w a (ints xs) ∧ ∀ ad, a = some ad → ad.block < w.heap.size ∧ ¬ D ad.block
theorem stays0 : Stays Lies0 where
  keep := fun {w v D u x} h hk => by
    obtain ⟨a, c, rfl, hr, hd⟩ := h
    refine ⟨a, c, rfl, hr.keep fun p hp hA => ?_, fun ad e => ⟨Nat.lt_of_lt_of_le (hd ad e).1 hk.size, (hd ad e).2⟩⟩
    rcases a with _ | ad
    · simp at hA
    · simp at hA
      exact hk.cell hp (by rw [← hA]; exact (hd ad rfl).2)
  wide := fun {w D D' u x} h hd' => by
    obtain ⟨a, c, rfl, hr, hd⟩ := h
    exact ⟨a, c, rfl, hr, fun ad e => ⟨(hd ad e).1, fun h => (hd ad e).2 (hd' _ (hd ad e).1 h)⟩⟩
  one := fun {w D u x} h => by
    obtain ⟨a, c, rfl, _⟩ := h
    rfl
/-- A row of n heads: behind number k lies f k. -/
def LiesR {α : Type} (Lie : World → (Nat → Prop) → Value → α → Prop) (w : World) (D : Nat → Prop) (u : Value) (x : Nat × (Nat → α)) : Prop :=
  ∃ a c, u = .slice a x.1 c ∧ (∀ k, k < x.1 → ∃ ad v, a = some ad ∧ w.cell? (ad.add k) = some v ∧ Lie w D v (x.2 k)) ∧ ∀ ad, a = some ad → ad.block < w.heap.size ∧ ¬ D ad.block
theorem Stays.row {α : Type} {Lie : World → (Nat → Prop) → Value → α → Prop} (S : Stays Lie) : Stays (LiesR Lie) where
  keep := fun {w v D u x} h hk => by
    obtain ⟨a, c, rfl, hr, hd⟩ := h
    refine ⟨a, c, rfl, fun k hk' => ?_, fun ad e => ⟨Nat.lt_of_lt_of_le (hd ad e).1 hk.size, (hd ad e).2⟩⟩
    obtain ⟨ad, v, rfl, hc, hl⟩ := hr k hk'
    exact ⟨ad, v, rfl, (hk.cell (cell_lt hc) (by rw [block_of_add]; exact (hd ad rfl).2)).trans hc, S.keep hl hk⟩
  wide := fun {w D D' u x} h hd' => by
    obtain ⟨a, c, rfl, hr, hd⟩ := h
    refine ⟨a, c, rfl, fun k hk' => ?_, fun ad e => ⟨(hd ad e).1, fun h => (hd ad e).2 (hd' _ (hd ad e).1 h)⟩⟩
    obtain ⟨ad, v, rfl, hc, hl⟩ := hr k hk'
    exact ⟨ad, v, rfl, hc, S.wide hl hd'⟩
  one := fun {w D u x} h => by
    obtain ⟨a, c, rfl, _⟩ := h
    rfl
/-- The heads themselves. -/
structure HeadsT {α : Type} (Lie : World → (Nat → Prop) → Value → α → Prop) (w : World) (D : Nat → Prop) (H : List Value) (n : Nat) (f : Nat → α) : Prop where
  len : H.length = n
  at_ : ∀ j, j < n → ∃ v, H[j]? = some v ∧ Lie w D v (f j)
section
variable {α : Type} {Lie : World → (Nat → Prop) → Value → α → Prop} {w w' : World} {D D' : Nat → Prop} {H : List Value} {n : Nat} {f : Nat → α}
theorem HeadsT.keep (S : Stays Lie) (h : HeadsT Lie w D H n f) (hk : Kept w w' D) : HeadsT Lie w' D H n f := ⟨h.len, fun j hj => by
  obtain ⟨v, h1, h2⟩ := h.at_ j hj
  exact ⟨v, h1, S.keep h2 hk⟩⟩
theorem HeadsT.to (S : Stays Lie) (h : HeadsT Lie w D H n f) (hd : ∀ b, b < w.heap.size → D' b → D b) : HeadsT Lie w D' H n f := ⟨h.len, fun j hj => by
  obtain ⟨v, h1, h2⟩ := h.at_ j hj
  exact ⟨v, h1, S.wide h2 hd⟩⟩
theorem HeadsT.nil (w : World) (D : Nat → Prop) (f : Nat → α) : HeadsT Lie w D [] 0 f := ⟨rfl, fun j hj => by omega⟩
theorem HeadsT.snoc {v : Value} (h : HeadsT Lie w D H n f) (hl : Lie w D v (f n)) : HeadsT Lie w D (H ++ [v]) (n + 1) f := ⟨by rw [List.length_append, h.len]; rfl, fun j hj => by
  rcases Nat.lt_or_ge j n with h' | h'
  · obtain ⟨v', h1, h2⟩ := h.at_ j h'
    exact ⟨v', by rw [List.getElem?_append_left (by rw [h.len]; exact h')]; exact h1, h2⟩
  · obtain rfl : j = n := by omega
    exact ⟨v, by rw [← h.len]; simp, hl⟩⟩
theorem HeadsT.lies {t : TypeId} {B c : Nat} {A : Option Addr} (h : HeadsT Lie w D H n f) (ho : OwnV t w B A c H) (hd : ∀ k, blk A = some k → ¬ D k) : LiesR Lie w D (.slice A n c) (n, f) :=
  ⟨A, c, rfl, fun k hk => by
    obtain ⟨g, rfl, _, _⟩ := ho.form (by rw [h.len]; exact Nat.lt_of_le_of_lt (Nat.zero_le _) hk)
    obtain ⟨v, h1, h2⟩ := h.at_ k hk
    exact ⟨_, v, rfl, by rw [Addr.add_lit, Nat.zero_add]; exact ho.cell h1, h2⟩, fun ad e => by
    subst e
    exact ⟨(ho.ltk _ rfl).2, hd _ rfl⟩⟩
end
theorem Own.lies {w : World} {B c : Nat} {A : Option Addr} {xs : List Int} {D : Nat → Prop} (h : Own w B A c xs) (hd : ∀ k, blk A = some k → ¬ D k) : Lies0 w D (.slice A xs.length c) xs :=
  ⟨A, c, rfl, h.rd, fun ad e => ⟨(h.lt ad e).2, hd _ (by rw [e]; rfl)⟩⟩

/-! A part of a region that draws its order. -/
section
variable {P : Program} {ops : Array Oper} {Q : Exit → Act → World → Prop} {S : World → Prop} {z : Nat → Bool}
theorem Tamed.up {md : Region.Mode} : ∀ {n : Nat} {done : Array Bool} {a : Act} {w : World}, Tamed P md ops Q S z n done a w → Tamed P md ops Q S z (n + 1) done a w
  | 0, _, _, _, h => ⟨fun _ => h.2, fun k hk => by rw [h.1] at hk; cases hk⟩
  | _ + 1, _, _, _, h => ⟨h.1, fun k hk => wpOp_mono (fun _ _ hb => ⟨hb.1, hb.2.up⟩) (h.2 k hk)⟩
theorem Tamed.upTo {md : Region.Mode} {n m : Nat} (hnm : n ≤ m) {done : Array Bool} {a : Act} {w : World} (h : Tamed P md ops Q S z n done a w) : Tamed P md ops Q S z m done a w := by
  induction m with
  | zero => obtain rfl : n = 0 := by omega
            exact h
  | succ m ih =>
    rcases Nat.lt_or_ge m n with h' | h'
    · obtain rfl : n = m + 1 := by omega
      exact h
    · exact (ih h').up
structure FactsT (ops : Array Oper) (F : Nat → Value → World → Prop) (M : Nat → Bool) (G : Array Bool → World → Prop) (a0 : Act) (done : Array Bool) (a : Act) (w : World) : Prop where
  grow : G done w
  defs : a.defers = a0.defers
  size : a.tmps.size = a0.tmps.size
  rest : ∀ s, (∀ (k : Nat) (o : Oper), ops[k]? = some o → M k = true → o.dst ≠ some s) → a.tmps[s]? = a0.tmps[s]?
  left : ∀ k, M k = true → done.getD k false = true → Left ops F k a w
/-- What a step must show. -/
def StpT (_ops : Array Oper) (F : Nat → Value → World → Prop) (M : Nat → Bool) (G : Array Bool → World → Prop) (done : Array Bool) (k : Nat) (o : Oper) (a : Act) (w : World) : Act → World → Prop := fun b v =>
  ∃ u, b = a.put o.dst u ∧ F k (o.dst.elim undef fun _ => u) v ∧ G (done.setIfInBounds k true) v ∧ ∀ j x, j ≠ k → M j = true → done.getD j false = true → F j x w → F j x v
theorem factsT_step {F : Nat → Value → World → Prop} {M : Nat → Bool} {G : Array Bool → World → Prop} {a0 a : Act} {w : World} {done : Array Bool} {k : Nat} {o : Oper}
    (ho : onceB ops a0.tmps.size = true) (hI : FactsT ops F M G a0 done a w) (hM : M k = true) (hGS : ∀ d v, G d v → S v) (hko : ops[k]? = some o)
    (hb : o.wp P a w (StpT ops F M G done k o a w) Q) :
    wpOp P ops Q k (fun b v => (z k = false → S w → S v) ∧ FactsT ops F M G a0 (done.setIfInBounds k true) b v) a w := by
  have hg := unguarded ho hko
  have hw : Region.wanted o (yielded ops a.tmps) = true := by simp [Region.wanted, hg]
  unfold wpOp
  simp only [hko, hw, if_true]
  refine .inl (Oper.wp_mono (fun b v hbb => ?_) hb)
  obtain ⟨u, rfl, hF, hGv, hkeep⟩ := hbb
  refine ⟨fun _ _ => hGS _ _ hGv, hGv, ?_, ?_, ?_, ?_⟩
  · cases hd : o.dst <;> simp [Act.put, hI.defs]
  · cases hd : o.dst <;> simp [Act.put, hI.size]
  · intro s hs
    have hne := hs k o hko hM
    rw [← hI.rest s hs]
    cases hd : o.dst with
    | none => rfl
    | some d =>
      have : d ≠ s := fun h => hne (by rw [hd, h])
      simp [Act.put, Array.getElem?_setIfInBounds_ne this]
  · intro j hMj hj oj hoj
    rcases Decidable.em (j = k) with rfl | hne
    · rw [hko] at hoj
      cases hoj
      cases hd : o.dst with
      | none => rw [hd] at hF; exact hF
      | some d =>
        have hdl := (once_of ho hko hd).1
        rw [hd] at hF
        exact ⟨u, by simp [Act.put, hI.size, hdl], hF⟩
    · rw [getD_set_ne false (Ne.symm hne)] at hj
      have hL := hI.left j hMj hj oj hoj
      cases hd : oj.dst with
      | none =>
        rw [hd] at hL
        exact hkeep j _ hne hMj hj hL
      | some d =>
        rw [hd] at hL
        obtain ⟨x, hx, hFx⟩ := hL
        refine ⟨x, ?_, hkeep j _ hne hMj hj hFx⟩
        have hdk := (once_of ho hoj hd).2 k o hko (Ne.symm hne)
        cases hdo : o.dst with
        | none => exact hx
        | some e =>
          have : e ≠ d := fun h => hdk (by rw [hdo, h])
          simp [Act.put, Array.getElem?_setIfInBounds_ne this, hx]
/-- Every operation but those of M that has not been taken waits for all of M. -/
def waitB (ops : Array Oper) (M : List Nat) (dF : Array Bool) : Bool := (List.range ops.size).all fun k => M.contains k || dF.getD k false || M.all fun j => reach .any ops j ops.size k
theorem rem_lt {M : List Nat} {done : Array Bool} {k : Nat} (hk : k ∈ M) (hd : done.getD k false = false) (hs : k < done.size) :
    (M.filter fun j => !(done.setIfInBounds k true).getD j false).length < (M.filter fun j => !done.getD j false).length := by
  have key : ∀ (M : List Nat), (M.filter fun j => !(done.setIfInBounds k true).getD j false).length ≤ (M.filter fun j => !done.getD j false).length ∧
      (k ∈ M → (M.filter fun j => !(done.setIfInBounds k true).getD j false).length < (M.filter fun j => !done.getD j false).length) := by
    intro M
    induction M with
    | nil => exact ⟨Nat.le_refl _, fun h => by cases h⟩
    | cons j M ih =>
      rcases Decidable.em (k = j) with rfl | hne
      · have h1 : (done.setIfInBounds k true).getD k false = true := by simp [Array.getD_eq_getD_getElem?, hs]
        rw [List.filter_cons, List.filter_cons, h1, hd]
        simp only [Bool.not_true, Bool.not_false, if_true, if_false, List.length_cons, Bool.false_eq_true]
        have := ih.1
        exact ⟨by omega, fun _ => by omega⟩
      · rw [List.filter_cons, List.filter_cons, getD_set_ne false hne]
        refine ⟨?_, fun h => ?_⟩
        · have := ih.1
          split <;> (try simp only [List.length_cons]) <;> omega
        · have h2 : k ∈ M := by
            rcases List.mem_cons.1 h with h | h
            · exact absurd h hne
            · exact h
          have := ih.2 h2
          split <;> (try simp only [List.length_cons]) <;> omega
  exact (key M).2 hk
theorem tamed_facts {F : Nat → Value → World → Prop} (M : List Nat) (G : Array Bool → World → Prop) (dF : Array Bool) (n1 : Nat) {done0 : Array Bool} {n : Nat} {a0 : Act} {w0 : World} (hn : n1 + M.length ≤ n)
    (ho : onceB ops a0.tmps.size = true) (he : earlyB ops = true) (hGS : ∀ d v, G d v → S v) (hMs : (M.all fun j => decide (j < ops.size) && dF.getD j false && !done0.getD j false) = true)
    (hsz : (dF.size == ops.size && done0.size == ops.size) = true) (hd1 : ((List.range ops.size).all fun k => M.contains k || (done0.getD k false == dF.getD k false)) = true)
    (hwait : waitB ops M dF = true) (hfit : fitB .any ops done0 = true) (hG : G done0 w0)
    (hstep : ∀ k o, M.contains k = true → ops[k]? = some o → ∀ done a w, FactsT ops F M.contains G a0 done a w → k ∈ Region.ready .any ops done → o.wp P a w (StpT ops F M.contains G done k o a w) Q)
    (hend : ∀ a w, FactsT ops F M.contains G a0 dF a w → Tamed P .any ops Q S z n1 dF a w) :
    Tamed P .any ops Q S z n done0 a0 w0 := by
  rw [Bool.and_eq_true, beq_iff_eq, beq_iff_eq] at hsz
  have hMj : ∀ j ∈ M, j < ops.size ∧ dF.getD j false = true ∧ done0.getD j false = false := by
    intro j hj
    have := List.all_eq_true.1 hMs j hj
    simp only [Bool.and_eq_true, decide_eq_true_eq, Bool.not_eq_true'] at this
    exact ⟨this.1.1, this.1.2, this.2⟩
  have key : ∀ m done a w, Fit .any ops done → done.size = ops.size → (∀ k, k < ops.size → M.contains k = false → done.getD k false = dF.getD k false) → (M.filter fun j => !done.getD j false).length ≤ m →
      FactsT ops F M.contains G a0 done a w → Tamed P .any ops Q S z (n1 + m) done a w := by
    intro m
    induction m with
    | zero =>
      intro done a w _ hs hag hr hI
      have hnil : (M.filter fun j => !done.getD j false) = [] := List.length_eq_zero_iff.1 (by omega)
      have : done = dF := by
        apply Array.ext (by omega)
        intro i h1 h2
        have hb : done.getD i false = dF.getD i false := by
          cases hc : M.contains i with
          | false => exact hag i (by omega) hc
          | true =>
            have hm : i ∈ M := by simpa using hc
            have := List.filter_eq_nil_iff.1 hnil i hm
            rw [(hMj i hm).2.1]
            simpa using this
        simpa [Array.getD_eq_getD_getElem?, h1, h2] using hb
      subst this
      exact hend a w hI
    | succ m ih =>
      intro done a w hft hs hag hr hI
      rcases Decidable.em ((M.filter fun j => !done.getD j false) = []) with h0 | h0
      · exact (ih done a w hft hs hag (by rw [h0]; exact Nat.zero_le _) hI).up
      · obtain ⟨j, hj⟩ := List.exists_mem_of_ne_nil _ h0
        obtain ⟨hjM, hjd⟩ := List.mem_filter.1 hj
        have hjd : done.getD j false = false := by simpa using hjd
        refine ⟨fun hrd => ?_, fun k hk => ?_⟩
        · have := all_done he hs hrd j (hMj j hjM).1
          rw [hjd] at this
          cases this
        · obtain ⟨_, o, hko, _⟩ := mem_ready.1 hk
          have hks : k < ops.size := (Array.getElem?_eq_some_iff.1 hko).1
          have hkd := ready_new hk
          have hkM : M.contains k = true := by
            cases hc : M.contains k with
            | true => rfl
            | false =>
              have hw := List.all_eq_true.1 hwait k (List.mem_range.2 hks)
              rw [hc, ← hag k hks hc, hkd, Bool.false_or, Bool.false_or] at hw
              exact absurd hk (reach_no hft hjd _ _ (List.all_eq_true.1 hw j hjM)).1
          refine wpOp_mono (fun b v hb => ⟨hb.1, ?_⟩) (factsT_step ho hI hkM hGS hko (hstep k o hkM hko done a w hI hk))
          refine ih _ b v (hft.set hk) (by simp [hs]) (fun i hi hc => ?_) ?_ hb.2
          · rw [getD_set_ne false (fun e => by rw [e, hc] at hkM; cases hkM)]
            exact hag i hi hc
          · have := rem_lt (M := M) (by simpa using hkM) hkd (by omega)
            omega
  refine (key M.length done0 a0 w0 (fit_of hfit) hsz.2 (fun k hk hc => ?_) (List.length_filter_le _ _) ⟨hG, rfl, rfl, fun _ _ => rfl, fun k hk hd => ?_⟩).upTo hn
  · have := List.all_eq_true.1 hd1 k (List.mem_range.2 hk)
    rw [hc, Bool.false_or, beq_iff_eq] at this
    exact this
  · rw [(hMj k (by simpa using hk)).2.2] at hd
    cases hd
/-- What a forerunner left. -/
theorem FactsT.at {F : Nat → Value → World → Prop} {M : Nat → Bool} {G : Array Bool → World → Prop} {a0 a : Act} {done : Array Bool} {w : World} {k j d : Nat} {oj : Oper} (h : FactsT ops F M G a0 done a w)
    (hk : k ∈ Region.ready .any ops done) (hdep : depB .any ops k j = true) (hM : M j = true) (hj : ops[j]? = some oj) (hd : oj.dst = some d) : ∃ u, a.tmps[d]? = some u ∧ F j u w := by
  have := h.left j hM (ready_dep hk hdep) oj hj
  rw [hd] at this
  exact this
theorem FactsT.done {F : Nat → Value → World → Prop} {M : Nat → Bool} {G : Array Bool → World → Prop} {a0 a : Act} {done : Array Bool} {w : World} {j d : Nat} {oj : Oper} (h : FactsT ops F M G a0 done a w)
    (hjd : done.getD j false = true) (hM : M j = true) (hj : ops[j]? = some oj) (hd : oj.dst = some d) : ∃ u, a.tmps[d]? = some u ∧ F j u w := by
  have := h.left j hM hjd oj hj
  rw [hd] at this
  exact this
/-- A slot that no operation of M writes. -/
theorem restT_at {F : Nat → Value → World → Prop} {M : List Nat} {G : Array Bool → World → Prop} {a0 a : Act} {done : Array Bool} {w : World} {s : Nat} {x : Value} (I : FactsT ops F M.contains G a0 done a w)
    (h : (M.all fun k => match ops[k]? with | some o => o.dst != some s | none => true) = true) (h0 : a0.tmps[s]? = some x) : a.tmps[s]? = some x := by
  rw [I.rest s ?_, h0]
  intro j oj hj hM hd
  have := List.all_eq_true.1 h j (by simpa using hM)
  rw [hj] at this
  simp [hd] at this
/-- The act's slots, as they stand: those that M writes, and those of the start. -/
theorem actT_lit {F : Nat → Value → World → Prop} {M : List Nat} {G : Array Bool → World → Prop} {a0 a : Act} {done : Array Bool} {w : World} (I : FactsT ops F M.contains G a0 done a w) (ws : List Nat)
    (h : (M.all fun k => match ops[k]? with | some o => (match o.dst with | some d => ws.contains d | none => true) | none => true) = true) :
    a.tmps = ((List.range a0.tmps.size).map fun i => if ws.contains i then a.tmps.getD i undef else a0.tmps.getD i undef).toArray := by
  apply Array.ext
  · simp [I.size]
  · intro i h1 h2
    have hi : i < a0.tmps.size := by rw [← I.size]; exact h1
    simp only [List.getElem_toArray, List.getElem_map, List.getElem_range]
    split
    · simp []
    · next hc =>
      have : a.tmps[i]? = a0.tmps[i]? := I.rest i (fun j oj hj hM hd => by
        have := List.all_eq_true.1 h j (by simpa using hM)
        rw [hj] at this
        simp only [hd] at this
        exact hc this)
      rw [Array.getElem?_eq_getElem h1, Array.getElem?_eq_getElem hi] at this
      simpa [Array.getD_eq_getD_getElem?, hi] using Option.some.inj this
theorem foldl_set (b : Array Value) : ∀ (ws : List Nat) (t : Array Value), (ws.foldl (fun t d => t.setIfInBounds d (b.getD d undef)) t).size = t.size ∧
    ∀ i, i < t.size → (ws.foldl (fun t d => t.setIfInBounds d (b.getD d undef)) t)[i]? = if ws.contains i then some (b.getD i undef) else t[i]? := by
  intro ws
  induction ws with
  | nil => intro t; exact ⟨rfl, fun i _ => rfl⟩
  | cons d ws ih =>
    intro t
    rw [List.foldl_cons]
    have h := ih (t.setIfInBounds d (b.getD d undef))
    refine ⟨by rw [h.1, Array.size_setIfInBounds], fun i hi => ?_⟩
    rw [h.2 i (by rw [Array.size_setIfInBounds]; exact hi), List.contains_cons]
    rcases Decidable.em (i = d) with rfl | hne
    · cases ws.contains i <;> simp [hi]
    · have h1 : (i == d) = false := by simpa using hne
      rw [h1, Bool.false_or, Array.getElem?_setIfInBounds_ne (Ne.symm hne)]
/-- The act's slots: those of the start, with what M left put in. -/
theorem actT_put {F : Nat → Value → World → Prop} {M : List Nat} {G : Array Bool → World → Prop} {a0 a : Act} {done : Array Bool} {w : World} (I : FactsT ops F M.contains G a0 done a w) (ws : List Nat)
    (h : (M.all fun k => match ops[k]? with | some o => (match o.dst with | some d => ws.contains d | none => true) | none => true) = true) :
    a.tmps = ws.foldl (fun t d => t.setIfInBounds d (a.tmps.getD d undef)) a0.tmps := by
  have hf := foldl_set a.tmps ws a0.tmps
  apply Array.ext
  · rw [hf.1, I.size]
  · intro i h1 h2
    have hi : i < a0.tmps.size := by rw [← I.size]; exact h1
    have h3 := hf.2 i hi
    rw [Array.getElem?_eq_getElem h2] at h3
    apply Option.some.inj
    rw [h3]
    split
    · simp []
    · next hc =>
      have : a.tmps[i]? = a0.tmps[i]? := I.rest i (fun j oj hj hM hd => by
        have := List.all_eq_true.1 h j (by simpa using hM)
        rw [hj] at this
        simp only [hd] at this
        exact hc this)
      rw [← this, Array.getElem?_eq_getElem h1]
end

end Go.Proofs.Ytfobjkdkjlbkfaa
