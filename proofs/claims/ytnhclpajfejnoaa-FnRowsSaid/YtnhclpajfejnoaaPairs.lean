/- Rows of pairs of the call's own. -/
import Derived.Test.YtnhclpajfejnoaaHol
import Derived.Test.YtnhclpajfejnoaaLaws
namespace Go.Proofs.Ytnhclpajfejnoaa
open Go.RowKit

/-- Pairs as cells. -/
def pcells (ps : List (Int × Int)) : List Value := ps.flatMap fun p => [.int .i64 p.1, .int .i64 p.2]
def pT (ps : List (Int × Int)) (k : Nat) : Int := (ps.getD k (0, 0)).1
def pB (ps : List (Int × Int)) (k : Nat) : Int := (ps.getD k (0, 0)).2
theorem pcells_length (ps : List (Int × Int)) : (pcells ps).length = ps.length * 2 := by
  induction ps with
  | nil => rfl
  | cons p l ih => simp only [pcells, List.flatMap_cons, List.length_append, List.length_cons, List.length_nil] at *; omega
theorem pcells_append (ps qs : List (Int × Int)) : pcells (ps ++ qs) = pcells ps ++ pcells qs := by simp [pcells]
theorem pcells_one (p : Int × Int) : pcells [p] = [.int .i64 p.1, .int .i64 p.2] := rfl
theorem pcells_cell (ps : List (Int × Int)) : ∀ u ∈ pcells ps, u.oneCell' = true := by
  intro u hu
  simp only [pcells, List.mem_flatMap, List.mem_cons, List.not_mem_nil, or_false] at hu
  obtain ⟨p, _, rfl | rfl⟩ := hu <;> rfl
theorem pcells_get : ∀ (ps : List (Int × Int)) (k : Nat), k < ps.length → (pcells ps)[k * 2]? = some (.int .i64 (pT ps k)) ∧ (pcells ps)[k * 2 + 1]? = some (.int .i64 (pB ps k)) := by
  intro ps
  induction ps with
  | nil => intro k hk; simp at hk
  | cons p l ih =>
    intro k hk
    cases k with
    | zero => exact ⟨rfl, rfl⟩
    | succ k =>
      have := ih k (by simpa using hk)
      have e : (k + 1) * 2 = k * 2 + 1 + 1 := by omega
      have e1 : pT (p :: l) (k + 1) = pT l k := by simp [pT]
      have e2 : pB (p :: l) (k + 1) = pB l k := by simp [pB]
      rw [e, e1, e2]
      exact this
/-- One cell of the pair number k is turned. -/
def pset (ps : List (Int × Int)) (k j : Nat) (x : Int) : List (Int × Int) := ps.set k (if j = 0 then (x, pB ps k) else (pT ps k, x))
theorem pset_length (ps : List (Int × Int)) (k j : Nat) (x : Int) : (pset ps k j x).length = ps.length := by simp [pset]
theorem pcells_set : ∀ (ps : List (Int × Int)) (k j : Nat) (x : Int), k < ps.length → j < 2 → (pcells ps).set (k * 2 + j) (.int .i64 x) = pcells (pset ps k j x) := by
  intro ps
  induction ps with
  | nil => intro k j x hk; simp at hk
  | cons p l ih =>
    intro k j x hk hj
    cases k with
    | zero =>
      match j, hj with
      | 0, _ => rfl
      | 1, _ => rfl
    | succ k =>
      have := ih k j x (by simpa using hk) hj
      have e : (k + 1) * 2 + j = k * 2 + j + 1 + 1 := by omega
      have e3 : pset (p :: l) (k + 1) j x = p :: pset l k j x := by simp [pset, pT, pB]
      rw [e, e3]
      show Value.int .i64 p.1 :: Value.int .i64 p.2 :: (pcells l).set (k * 2 + j) (.int .i64 x) = _
      rw [this]
      rfl

/-- A row of pairs that is owned from block B on. -/
def OwnP (w : World) (B : Nat) (A : Option Addr) (c : Nat) (ps : List (Int × Int)) : Prop := w.ownsRow B 40 2 (.slice A ps.length c) ps.length (pcells ps)
section
variable {w w' : World} {B : Nat} {A : Option Addr} {c : Nat} {ps : List (Int × Int)}
theorem OwnP.below (h : OwnP w B A c ps) (hb : Below w.heap.size w w') : OwnP w' B A c ps := row_below h hb
theorem OwnP.drewN (h : OwnP w B A c ps) (n : Nat) : OwnP (w.drewN n) B A c ps := h
theorem OwnP.drew (h : OwnP w B A c ps) : OwnP w.drew B A c ps := h
theorem OwnP.alloc (h : OwnP w B A c ps) (o : Obj) : OwnP (w.alloc o) B A c ps := World.ownsRow.alloc h o
theorem OwnP.mono {B' : Nat} (h : OwnP w B A c ps) (hB : B' ≤ B) : OwnP w B' A c ps := World.ownsRow.mono h hB
theorem OwnP.grown {row : Option Nat} (h : OwnP w B A c ps) (hg : w.grownBy w' row) (hr : A = none ∨ blk A ≠ row) : OwnP w' B A c ps :=
  World.ownsRow.kept h hg (by rcases hr with h | h; · left; rw [ownBlock_slice, h]; rfl
                              · right; rw [ownBlock_slice]; exact h)
theorem OwnP.ge (h : OwnP w B A c ps) : ∀ k, blk A = some k → B ≤ k := fun k e => (World.ownsRow.lt h k (by rw [ownBlock_slice]; exact e)).1
theorem OwnP.ltk (h : OwnP w B A c ps) : ∀ k, blk A = some k → k < w.heap.size := fun k e => (World.ownsRow.lt h k (by rw [ownBlock_slice]; exact e)).2
theorem OwnP.form (h : OwnP w B A c ps) (hn : 0 < ps.length) : ∃ g, A = some ⟨g, 0, none⟩ ∧ B ≤ g ∧ g < w.heap.size := by
  obtain ⟨g, cap, hv, hb, hlt⟩ := World.ownsRow.form h hn
  injection hv with hA
  exact ⟨g, hA, hb, hlt⟩
theorem OwnP.cells {g : Nat} (h : OwnP w B (some ⟨g, 0, none⟩) c ps) {k : Nat} (hk : k < ps.length) :
    w.cell? ⟨g, k * 2, none⟩ = some (.int .i64 (pT ps k)) ∧ w.cell? ⟨g, k * 2 + 1, none⟩ = some (.int .i64 (pB ps k)) := by
  have h1 := World.ownsRow.cellAt h (k * 2) (by omega)
  have h2 := World.ownsRow.cellAt h (k * 2 + 1) (by omega)
  have h3 := pcells_get ps k hk
  exact ⟨h1.trans h3.1, h2.trans h3.2⟩
theorem OwnP.frozen {g : Nat} (h : OwnP w B (some ⟨g, 0, none⟩) c ps) (k : Nat) : w.frozen? ⟨g, k, none⟩ = false := World.ownsRow.frozenAt h k
theorem OwnP.nil (w : World) (B : Nat) : OwnP w B none 0 [] := ⟨rfl, .inl ⟨rfl, rfl⟩⟩
theorem OwnP.lit (w : World) (ps : List (Int × Int)) (hx : ps.length ≤ 16777216) : OwnP (w.alloc (.cells (pcells ps).toArray 40)) w.heap.size (some ⟨w.heap.size, 0, none⟩) ps.length ps := by
  have := World.ownsRow_lit (base := w.heap.size) (e := 40) (size := 2) w (pcells ps).toArray ps.length (Nat.le_refl _) (by unfold maxLen; omega) (by simp [pcells_length])
  simpa [OwnP] using this
theorem OwnP.set {g : Nat} (h : OwnP w B (some ⟨g, 0, none⟩) c ps) {k j : Nat} (x : Int) (hk : k < ps.length) (hj : j < 2) :
    OwnP (w.setCell ⟨g, k * 2 + j, none⟩ (.int .i64 x)) B (some ⟨g, 0, none⟩) c (pset ps k j x) ∧ w.grownBy (w.setCell ⟨g, k * 2 + j, none⟩ (.int .i64 x)) (some g) := by
  have := World.ownsRow.stored h (k * 2 + j) (.int .i64 x)
  refine ⟨?_, this.2⟩
  unfold OwnP
  rw [pset_length, ← pcells_set ps k j x hk hj]
  exact this.1
theorem OwnP.same (h : OwnP w B A c ps) (hs : ∀ k, blk A = some k → w'.heap[k]? = w.heap[k]?) : OwnP w' B A c ps := by
  refine ⟨h.1, ?_⟩
  rcases h.2 with h | ⟨g, cap, cur, hv, hb, hg, hx⟩
  · exact .inl h
  · refine .inr ⟨g, cap, cur, hv, hb, ?_, hx⟩
    rw [hs g (by injection hv with hA; rw [hA]; rfl)]
    exact hg
theorem OwnP.holed {lo hi : Nat} (h : OwnP w B A c ps) (hh : Holed lo hi w w') (hB : hi ≤ B) : OwnP w' B A c ps :=
  h.same fun k hk => hh.block k (h.ltk k hk) (.inr (Nat.le_trans hB (h.ge k hk)))
theorem OwnP.holedLow {lo hi : Nat} (h : OwnP w B A c ps) (hh : Holed lo hi w w') (hB : ∀ k, blk A = some k → k < lo) : OwnP w' B A c ps :=
  h.same fun k hk => hh.block k (h.ltk k hk) (.inl (hB k hk))
end
theorem rowsApart {w1 w2 : World} {B1 B2 e1 e2 s1 s2 n1 n2 c1 c2 : Nat} {A1 A2 : Option Addr} {cs ds : List Value} (h1 : w1.ownsRow B1 e1 s1 (.slice A1 n1 c1) n1 cs) (h2 : w2.ownsRow B2 e2 s2 (.slice A2 n2 c2) n2 ds) (hB : w1.heap.size ≤ B2) :
    A1 = none ∨ blk A1 ≠ blk A2 := by
  rcases A1 with _ | a1
  · exact .inl rfl
  · right
    rcases A2 with _ | a2
    · simp [blk]
    · have x1 := World.ownsRow.lt h1 a1.block (by rw [ownBlock_slice]; rfl)
      have x2 := World.ownsRow.lt h2 a2.block (by rw [ownBlock_slice]; rfl)
      simp [blk]
      omega
theorem rowsApartR {w1 w2 : World} {B1 B2 e1 e2 s1 s2 n1 n2 c1 c2 : Nat} {A1 A2 : Option Addr} {cs ds : List Value} (h1 : w1.ownsRow B1 e1 s1 (.slice A1 n1 c1) n1 cs) (h2 : w2.ownsRow B2 e2 s2 (.slice A2 n2 c2) n2 ds) (hB : w1.heap.size ≤ B2) :
    A2 = none ∨ blk A2 ≠ blk A1 := by
  rcases rowsApart h1 h2 hB with h | h
  · rcases A2 with _ | a2
    · exact .inl rfl
    · right
      subst h
      simp [blk]
  · exact .inr (Ne.symm h)
theorem OwnP.apart {w1 w2 : World} {B1 B2 c1 c2 : Nat} {A1 A2 : Option Addr} {ps qs : List (Int × Int)} (h1 : OwnP w1 B1 A1 c1 ps) (h2 : OwnP w2 B2 A2 c2 qs) (hB : w1.heap.size ≤ B2) : A1 = none ∨ blk A1 ≠ blk A2 := rowsApart h1 h2 hB
theorem OwnP.apartR {w1 w2 : World} {B1 B2 c1 c2 : Nat} {A1 A2 : Option Addr} {ps qs : List (Int × Int)} (h1 : OwnP w1 B1 A1 c1 ps) (h2 : OwnP w2 B2 A2 c2 qs) (hB : w1.heap.size ≤ B2) : A2 = none ∨ blk A2 ≠ blk A1 := rowsApartR h1 h2 hB
/-- It answers a row of pairs of its own, and ok; what was there is as it was. -/
def GivesP (w : World) (ps : List (Int × Int)) (ok : Bool) (e : Ending) (w' : World) : Prop :=
  ∃ A c, e = .returned (.tuple #[.slice A ps.length c, .bool ok]) ∧ OwnP w' w.heap.size A c ps ∧ Below w.heap.size w w'
def RowP (w : World) (ps : List (Int × Int)) (e : Ending) (w' : World) : Prop :=
  ∃ A c, e = .returned (.slice A ps.length c) ∧ OwnP w' w.heap.size A c ps ∧ Below w.heap.size w w'

theorem pair_info : (Try.prog.info? 40).map (fun i => (i.zero, i.size, i.bytes)) = some (some (.agg #[.int .i64 0, .int .i64 0]), 2, 16) := by kernel_rfl

section
variable {ops : Array Oper} {rest : List Oper} {o : Oper} {a : Act} {Q : Exit → Act → World → Prop}
set_option maxRecDepth 10000 in
/-- 'append(xs, ys...)' on a row of pairs of the call's own; ys is a row of cells. -/
theorem op_append_pairs {K : Act → World → Prop} (w : World) (s x : Operand) (ho : o.op = .call { callee := .builtin .append, args := #[s, x], argTypes := #[36, 36] })
    (B : Nat) (A : Option Addr) (n c : Nat) (ps : List (Int × Int)) (hs : a.eval s = .slice A n c) (hn : n = ps.length) (hown : OwnP w B A c ps)
    (ad : Addr) (m c' : Nat) (qs : List (Int × Int)) (hx : a.eval x = .slice (some ad) m c') (hm : m = qs.length) (hr : ∀ j u, (pcells qs)[j]? = some u → w.cell? (ad.add j) = some u)
    (h63 : ps.length + qs.length ≤ 16777216) (hB : B ≤ w.heap.size) (hq : 0 < qs.length)
    (h : ∀ g c2 w', OwnP w' B (some ⟨g, 0, none⟩) c2 (ps ++ qs) → w.grownBy w' (blk A) → (some g = blk A ∨ g = w.heap.size) → K (a.put o.dst (.slice (some ⟨g, 0, none⟩) (n + m) c2)) w') :
    o.wp Try.prog a w K Q := by
  subst hn hm
  obtain ⟨i0, hi, hz0, hz1, hz2⟩ := info_parts pair_info
  have hb : ((ps.length + qs.length) * 16) ≤ 140737488355328 := by omega
  obtain ⟨v', w', hrun, h2, h3, _, h5⟩ := run_append_own_at (P := Try.prog) w B 36 o.type 40 i0 _ 2 16 Try.underlying36 hi hz0 hz1 hz2 rfl (by omega)
    _ ps.length (pcells ps) hown ad qs.length c' (pcells qs) (pcells_length qs) hr (pcells_cell qs) (by unfold maxLen; omega) hb hB
  obtain ⟨g, cap, rfl, _, _⟩ := World.ownsRow.form h2 (by omega)
  rw [ownBlock_slice] at h3
  unfold Oper.wp execOp
  simp only [ho, resolve, invoke, builtin, Sem.run_bind, Sem.run_pure, Result.andThen_ok, List.map_toArray, List.map_cons, List.map_nil, hs, hx, hrun]
  refine h g cap w' ?_ h3 ?_
  · unfold OwnP
    rw [List.length_append, pcells_append]
    exact h2
  · simp only [ownBlock_slice] at h5
    rcases h5 with h5 | h5
    · exact .inl h5
    · right
      have h5 : some g = some w.heap.size := h5
      injection h5
theorem wp_append_pairs (w : World) (hgd : o.guard = none) (s x : Operand) (ho : o.op = .call { callee := .builtin .append, args := #[s, x], argTypes := #[36, 36] })
    (B : Nat) (A : Option Addr) (n c : Nat) (ps : List (Int × Int)) (hs : a.eval s = .slice A n c) (hn : n = ps.length) (hown : OwnP w B A c ps)
    (ad : Addr) (m c' : Nat) (qs : List (Int × Int)) (hx : a.eval x = .slice (some ad) m c') (hm : m = qs.length) (hr : ∀ j u, (pcells qs)[j]? = some u → w.cell? (ad.add j) = some u)
    (h63 : ps.length + qs.length ≤ 16777216) (hB : B ≤ w.heap.size) (hq : 0 < qs.length)
    (h : ∀ g c2 w', OwnP w' B (some ⟨g, 0, none⟩) c2 (ps ++ qs) → w.grownBy w' (blk A) → (some g = blk A ∨ g = w.heap.size) → wpList Try.prog ops Q rest (a.put o.dst (.slice (some ⟨g, 0, none⟩) (n + m) c2)) w') :
    wpList Try.prog ops Q (o :: rest) a w :=
  wpList_plain hgd fun _ hK => op_append_pairs w s x ho B A n c ps hs hn hown ad m c' qs hx hm hr h63 hB hq fun g c2 w' h2 h3 h4 => hK _ _ (h g c2 w' h2 h3 h4)
theorem OwnP.src {w : World} {B g c : Nat} {ps : List (Int × Int)} (h : OwnP w B (some ⟨g, 0, none⟩) c ps) : ∀ j u, (pcells ps)[j]? = some u → w.cell? ((⟨g, 0, none⟩ : Addr).add j) = some u := by
  intro j u hu
  have hj : j < ps.length * 2 := by have := (List.getElem?_eq_some_iff.1 hu).1; rw [pcells_length] at this; exact this
  rw [Addr.add_lit, Nat.zero_add, World.ownsRow.cellAt h j hj]
  exact hu
end
end Go.Proofs.Ytnhclpajfejnoaa
