/- Arms that are played: what newPlaying lays, part by part. -/
import Derived.Test.YthhpioohdkglkaaRowsA
import Derived.Test.YthhpioohdkglkaaPlayL
import Derived.Test.YthhpioohdkglkaaOpB
namespace Go.Proofs.Ythhpioohdkglkaa
open Go.RowKit

theorem hhead_info : (Try.prog.info? 47).map (fun i => (i.zero, i.size, i.bytes)) = some (some (.slice none 0 0), 1, 24) := by kernel_rfl
/-- The rows of the box: sums, what is left, children, of the first k arms. -/
structure Out3 (w : World) (g : Nat) (L : List Mkd) (k : Nat) (As : Option Addr) (cs : Nat) (Hs : List Value) (Al : Option Addr) (cl : Nat) (Hl : List Value) (Ak : Option Addr) (ck : Nat) (Hk : List Value) : Prop where
  os : OwnV 31 w (g + 1) As cs Hs
  ol : OwnV 31 w (g + 1) Al cl Hl
  ok : OwnV 47 w (g + 1) Ak ck Hk
  sl : As = none ∨ blk As ≠ blk Al
  sk : As = none ∨ blk As ≠ blk Ak
  lk : Al = none ∨ blk Al ≠ blk Ak
  hs : HeadsT Lies0 w (fun b => b = g ∨ blk As = some b ∨ blk Al = some b ∨ blk Ak = some b) Hs k fun j => sumRow (mAt L j)
  hl : HeadsT Lies0 w (fun b => b = g ∨ blk As = some b ∨ blk Al = some b ∨ blk Ak = some b) Hl k fun j => leftRow (mAt L j)
  hk : HeadsT (LiesR Lies0) w (fun b => b = g ∨ blk As = some b ∨ blk Al = some b ∨ blk Ak = some b) Hk k fun j => ((mAt L j).P.length, fun x => kids (mAt L j).P x)
theorem Out3.below {w w' : World} {g k : Nat} {L : List Mkd} {As : Option Addr} {cs : Nat} {Hs : List Value} {Al : Option Addr} {cl : Nat} {Hl : List Value} {Ak : Option Addr} {ck : Nat} {Hk : List Value}
    (h : Out3 w g L k As cs Hs Al cl Hl Ak ck Hk) (hb : Below w.heap.size w w') : Out3 w' g L k As cs Hs Al cl Hl Ak ck Hk :=
  ⟨h.os.below hb, h.ol.below hb, h.ok.below hb, h.sl, h.sk, h.lk, h.hs.keep stays0 (.of_below hb), h.hl.keep stays0 (.of_below hb), h.hk.keep stays0.row (.of_below hb)⟩
theorem Out3.start {w : World} {g : Nat} (_ : g < w.heap.size) (L : List Mkd) : Out3 w g L 0 none 0 [] none 0 [] none 0 [] :=
  ⟨OwnV.nil _ _ _, OwnV.nil _ _ _, OwnV.nil _ _ _, .inl rfl, .inl rfl, .inl rfl, HeadsT.nil _ _ _, HeadsT.nil _ _ _, HeadsT.nil _ _ _⟩
/-- A box of eight cells. -/
structure Bx8 (w : World) (g : Nat) (x0 x1 x2 x3 x4 x5 x6 x7 : Value) : Prop where
  c0 : w.cell? ⟨g, 0, none⟩ = some x0
  c1 : w.cell? ⟨g, 1, none⟩ = some x1
  c2 : w.cell? ⟨g, 2, none⟩ = some x2
  c3 : w.cell? ⟨g, 3, none⟩ = some x3
  c4 : w.cell? ⟨g, 4, none⟩ = some x4
  c5 : w.cell? ⟨g, 5, none⟩ = some x5
  c6 : w.cell? ⟨g, 6, none⟩ = some x6
  c7 : w.cell? ⟨g, 7, none⟩ = some x7
  z : ∀ j, w.frozen? ⟨g, j, none⟩ = false
  lt : g < w.heap.size
theorem Bx8.new (w : World) (x0 x1 x2 x3 x4 x5 x6 x7 : Value) (t : TypeId) : Bx8 (w.alloc (.cells #[x0, x1, x2, x3, x4, x5, x6, x7] t)) w.heap.size x0 x1 x2 x3 x4 x5 x6 x7 := by
  have h : (w.alloc (.cells #[x0, x1, x2, x3, x4, x5, x6, x7] t)).heap[w.heap.size]? = some (.cells #[x0, x1, x2, x3, x4, x5, x6, x7] t (0, 0)) := heap_alloc_new w _
  exact ⟨by simp, by simp, by simp, by simp, by simp, by simp, by simp, by simp, fun j => frozen_of_row _ _ j _ _ h, by simp⟩
section
variable {w w' : World} {g : Nat} {x0 x1 x2 x3 x4 x5 x6 x7 : Value}
theorem Bx8.same (h : Bx8 w g x0 x1 x2 x3 x4 x5 x6 x7) (hg : w'.heap[g]? = w.heap[g]?) (hs : w.heap.size ≤ w'.heap.size) : Bx8 w' g x0 x1 x2 x3 x4 x5 x6 x7 := by
  have hc : ∀ j, w'.cell? ⟨g, j, none⟩ = w.cell? ⟨g, j, none⟩ := fun j => World.cell?_of_block (a := ⟨g, j, none⟩) hg
  exact ⟨(hc _).trans h.c0, (hc _).trans h.c1, (hc _).trans h.c2, (hc _).trans h.c3, (hc _).trans h.c4, (hc _).trans h.c5, (hc _).trans h.c6, (hc _).trans h.c7,
    fun j => (World.frozen?_of_block (a := ⟨g, j, none⟩) hg).trans (h.z j), Nat.lt_of_lt_of_le h.lt hs⟩
theorem Bx8.below (h : Bx8 w g x0 x1 x2 x3 x4 x5 x6 x7) (hb : Below w.heap.size w w') : Bx8 w' g x0 x1 x2 x3 x4 x5 x6 x7 := h.same (hb.block g h.lt) hb.size
theorem Bx8.kept {D : Nat → Prop} (h : Bx8 w g x0 x1 x2 x3 x4 x5 x6 x7) (hk : Kept w w' D) (hd : ¬ D g) : Bx8 w' g x0 x1 x2 x3 x4 x5 x6 x7 := h.same (hk.block g h.lt hd) hk.size
theorem Bx8.set3 (h : Bx8 w g x0 x1 x2 x3 x4 x5 x6 x7) (a b c : Value) : Bx8 (((w.setCell ⟨g, 3, none⟩ a).setCell ⟨g, 4, none⟩ b).setCell ⟨g, 5, none⟩ c) g x0 x1 x2 a b c x6 x7 := by
  obtain ⟨h0, h1, h2, h3, h4, h5, h6, h7, hz, hl⟩ := h
  refine ⟨by simp [go_sem, h0], by simp [go_sem, h1], by simp [go_sem, h2], by simp [go_sem, h3], by simp [go_sem, h4], by simp [go_sem, h5], by simp [go_sem, h6], by simp [go_sem, h7], fun j => by simp [go_sem, hz], by simpa [World.size_setCell] using hl⟩
end
theorem take_len {m : Mkd} {x : Nat} (h : x < m.P.length) : x = ((leftRow m).take x).length := by rw [List.length_take, leftRow_length]; omega
theorem take_next {m : Mkd} {x : Nat} (h : x < m.P.length) : (leftRow m).take x ++ [hgt m.P - nth (dep m.P) x] = (leftRow m).take (x + 1) := by
  have h' : x < (leftRow m).length := by rw [leftRow_length]; exact h
  rw [List.take_succ_eq_append_getElem h', ← nth_eq h', leftRow_nth h]
/-- The lists of one arm, in the making: the first x numbers of what is left, the children of the first y nodes; dv is the depths' row. -/
structure In2 (w : World) (B : Nat) (m : Mkd) (x y : Nat) (A : Option Addr) (c : Nat) (Ak : Option Addr) (ck : Nat) (H : List Value) (dv : Value) : Prop where
  ol : Own w B A c ((leftRow m).take x)
  ok : OwnV 31 w B Ak ck H
  ne : A = none ∨ blk A ≠ blk Ak
  hk : HeadsT Lies0 w (fun b => b < B ∨ blk A = some b ∨ blk Ak = some b) H y fun y => kids m.P y
  dl : Lies0 w (fun b => b < B ∨ blk A = some b ∨ blk Ak = some b) dv (dep m.P)
theorem ne_symm {A B : Option Addr} (h : A = none ∨ blk A ≠ blk B) : B = none ∨ blk B ≠ blk A := by
  rcases B with _ | b
  · exact .inl rfl
  · rcases h with rfl | h
    · right
      intro h
      cases h
    · exact .inr (Ne.symm h)
theorem blk_none {A : Option Addr} (h : blk A = none) : A = none := by
  cases A with
  | none => rfl
  | some a => cases h
section
variable {w w' : World} {B x y : Nat} {m : Mkd} {A : Option Addr} {c : Nat} {Ak : Option Addr} {ck : Nat} {H : List Value} {dv : Value}
theorem own_grown' {xs : List Int} (h : Own w B A c xs) (g : w.grownBy w' (blk Ak)) (hne : A = none ∨ blk A ≠ blk Ak) : Own w' B A c xs := h.grown g hne
theorem In2.below (h : In2 w B m x y A c Ak ck H dv) (hb : Below w.heap.size w w') : In2 w' B m x y A c Ak ck H dv :=
  ⟨h.ol.below hb, h.ok.below hb, h.ne, h.hk.keep stays0 (.of_below hb), stays0.keep h.dl (.of_below hb)⟩
/-- A row has grown: what lay behind others' heads lies there still. -/
theorem push_keep {α : Type} {Lie : World → (Nat → Prop) → Value → α → Prop} (S : Stays Lie) {D D2 : Nat → Prop} {A A2 : Option Addr} {u : Value} {z : α} (h : Lie w D u z) (g : w.grownBy w' (blk A)) (hA : ∀ b, blk A = some b → D b) (t : blk A2 = blk A ∨ ∃ g, blk A2 = some g ∧ w.heap.size ≤ g)
    (hD : ∀ b, D2 b → D b ∨ blk A2 = some b) : Lie w' D2 u z := by
  have h1 : Lie w (fun b => D b ∨ blk A2 = some b) u z := S.wide h fun b hb hd => by
    rcases hd with hd | hd
    · exact hd
    · rcases t with t | ⟨g, t, hg⟩
      · exact hA b (by rw [← t]; exact hd)
      · rw [t] at hd
        injection hd with hd
        omega
  exact S.wide (S.keep h1 (.of_grown g fun b hb => .inl (hA b hb))) fun b _ hd => hD b hd
theorem HeadsT.push {α : Type} {Lie : World → (Nat → Prop) → Value → α → Prop} (S : Stays Lie) {D D2 : Nat → Prop} {A A2 : Option Addr} {G : List Value} {n : Nat} {f : Nat → α} (h : HeadsT Lie w D G n f) (g : w.grownBy w' (blk A)) (hA : ∀ b, blk A = some b → D b) (t : blk A2 = blk A ∨ ∃ g, blk A2 = some g ∧ w.heap.size ≤ g)
    (hD : ∀ b, D2 b → D b ∨ blk A2 = some b) : HeadsT Lie w' D2 G n f := ⟨h.len, fun j hj => by
  obtain ⟨v, h1, h2⟩ := h.at_ j hj
  exact ⟨v, h1, push_keep S h2 g hA t hD⟩⟩
theorem push_ne {A A2 Bk : Option Addr} (hne : A = none ∨ blk A ≠ blk Bk) (t : blk A2 = blk A ∨ ∃ g, blk A2 = some g ∧ w.heap.size ≤ g) (hB : ∀ b, blk Bk = some b → b < w.heap.size) : A2 = none ∨ blk A2 ≠ blk Bk := by
  rcases t with t | ⟨g, t, hg⟩
  · rcases hne with h0 | h0
    · left; rw [h0] at t; exact blk_none t
    · right; rw [t]; exact h0
  · right
    rw [t]
    intro e
    have := hB g e.symm
    omega
theorem In2.pushL (h : In2 w B m x y A c Ak ck H dv) (hx : x < m.P.length) {A2 : Option Addr} {c2 : Nat} (o : Own w' B A2 c2 ((leftRow m).take x ++ [hgt m.P - nth (dep m.P) x])) (g : w.grownBy w' (blk A)) (t : blk A2 = blk A ∨ ∃ g, blk A2 = some g ∧ w.heap.size ≤ g) :
    In2 w' B m (x + 1) y A2 c2 Ak ck H dv := by
  have hD : ∀ b, (b < B ∨ blk A2 = some b ∨ blk Ak = some b) → (b < B ∨ blk A = some b ∨ blk Ak = some b) ∨ blk A2 = some b := fun b h => by
    rcases h with h | h | h
    · exact .inl (.inl h)
    · exact .inr h
    · exact .inl (.inr (.inr h))
  exact ⟨by rw [← take_next hx]; exact o, h.ok.grown g (ne_symm h.ne), push_ne h.ne t fun b hb => (h.ok.ltk b hb).2, h.hk.push stays0 g (fun b hb => .inr (.inl hb)) t hD, push_keep stays0 h.dl g (fun b hb => .inr (.inl hb)) t hD⟩
theorem In2.pushK (h : In2 w B m x y A c Ak ck H dv) {v : Value} {A2 : Option Addr} {c2 : Nat} (o : OwnV 31 w' B A2 c2 (H ++ [v])) (g : w.grownBy w' (blk Ak)) (t : blk A2 = blk Ak ∨ ∃ g, blk A2 = some g ∧ w.heap.size ≤ g)
    (l : Lies0 w (fun b => b < B ∨ blk A = some b ∨ blk Ak = some b) v (kids m.P y)) : In2 w' B m x (y + 1) A c A2 c2 (H ++ [v]) dv := by
  have hD : ∀ b, (b < B ∨ blk A = some b ∨ blk A2 = some b) → (b < B ∨ blk A = some b ∨ blk Ak = some b) ∨ blk A2 = some b := fun b h => by
    rcases h with h | h | h
    · exact .inl (.inl h)
    · exact .inl (.inr (.inl h))
    · exact .inr h
  exact ⟨own_grown' h.ol g h.ne, o, ne_symm (push_ne (ne_symm h.ne) t fun b hb => h.ol.ltk b hb), (h.hk.push stays0 g (fun b hb => .inr (.inr hb)) t hD).snoc (push_keep stays0 l g (fun b hb => .inr (.inr hb)) t hD), push_keep stays0 h.dl g (fun b hb => .inr (.inr hb)) t hD⟩
/-- Before the first node: two empty rows. -/
structure In0 (w : World) (B : Nat) (A Ak : Option Addr) : Prop where
  ol : Own w B A 0 []
  ok : OwnV 31 w B Ak 0 []
  ne : A = none ∨ blk A ≠ blk Ak
theorem In0.below {A Ak : Option Addr} (h : In0 w B A Ak) (hb : Below w.heap.size w w') : In0 w' B A Ak := ⟨h.ol.below hb, h.ok.below hb, h.ne⟩
theorem In0.start {A Ak A5 : Option Addr} {c5 : Nat} (m : Mkd) (hB : B ≤ w.heap.size) (h : In0 w B A Ak) (hb : Below w.heap.size w w') (o5 : Own w' w.heap.size A5 c5 (dep m.P)) : In2 w' B m 0 0 A 0 Ak 0 [] (.slice A5 (dep m.P).length c5) := by
  have h' := h.below hb
  refine ⟨by rw [List.take_zero]; exact h'.ol, h'.ok, h.ne, HeadsT.nil _ _ _, o5.lies fun g hg hd => ?_⟩
  have h1 := o5.ge g hg
  rcases hd with hd | hd | hd
  · omega
  · have := h.ol.ltk _ hd
    omega
  · have := (h.ok.ltk _ hd).2
    omega
end
section
variable {o : Oper} {a : Act} {w : World} {K : Act → World → Prop} {Q : Exit → Act → World → Prop}
theorem op_litS (t : TypeId) {x : Operand} {A : Option Addr} {n c : Nat} {ts : TypeId} (hu : Try.prog.underlying ts = some (.slice t)) (hinf : (Try.prog.info? t).map (fun i => (i.zero, i.size, i.bytes)) = some (some (.slice none 0 0), 1, 24))
    (hop : o.op = Op.buildSlice ts 1 #[(0, x)]) (hx : a.eval x = .slice A n c) (h : K (a.put o.dst (.slice (some ⟨w.heap.size, 0, none⟩) 1 1)) (w.alloc (.cells #[.slice A n c] t))) : o.wp Try.prog a w K Q := by
  obtain ⟨i0, hi, hz0, hz1, hz2⟩ := info_parts hinf
  refine op_to ?_ h
  simp only [execOp, hop]
  simp [hx]
  go_simp
  rw [run_underlying hu]
  simp [zeroValue, typeInfo, sizeOf, hi, hz0, hz1, show Array.range 1 = #[0] from by decide]
end
/-! The appends of one round, in whatever order: what each operation leaves. -/
def f11 (V g k : Nat) (m : Mkd) (As : Option Addr) (Hs : List Value) (Al : Option Addr) (Hl : List Value) (Ak : Option Addr) (Hk : List Value) (lv kv : Value) : Nat → Value → World → Prop
  | 9 => fun u w => ∃ A c, u = .slice A m.P.length c ∧ Own w V A c (sumRow m)
  | 10 => fun u w => ∃ r A c, u = .slice (some ⟨r, 0, none⟩) 1 1 ∧ V ≤ r ∧ r < w.heap.size ∧ w.cell? ⟨r, 0, none⟩ = some (.slice A m.P.length c) ∧ Own w V A c (sumRow m)
  | 11 => fun u w => ∃ r c2 A c, u = .slice (some ⟨r, 0, none⟩) (k + 1) c2 ∧ OwnV 31 w (g + 1) (some ⟨r, 0, none⟩) c2 (Hs ++ [.slice A m.P.length c]) ∧ Own w V A c (sumRow m) ∧ (some r = blk As ∨ V ≤ r)
  | 17 => fun u w => ∃ r, u = .slice (some ⟨r, 0, none⟩) 1 1 ∧ V ≤ r ∧ r < w.heap.size ∧ w.cell? ⟨r, 0, none⟩ = some lv
  | 18 => fun u w => ∃ r c2, u = .slice (some ⟨r, 0, none⟩) (k + 1) c2 ∧ OwnV 31 w (g + 1) (some ⟨r, 0, none⟩) c2 (Hl ++ [lv]) ∧ (some r = blk Al ∨ V ≤ r)
  | 24 => fun u w => ∃ r, u = .slice (some ⟨r, 0, none⟩) 1 1 ∧ V ≤ r ∧ r < w.heap.size ∧ w.cell? ⟨r, 0, none⟩ = some kv
  | 25 => fun u w => ∃ r c2, u = .slice (some ⟨r, 0, none⟩) (k + 1) c2 ∧ OwnV 47 w (g + 1) (some ⟨r, 0, none⟩) c2 (Hk ++ [kv]) ∧ (some r = blk Ak ∨ V ≤ r)
  | _ => fun _ _ => True
def ms11 : List Nat := [9, 10, 11, 17, 18, 24, 25]
section
variable {V g k : Nat} {m : Mkd} {As : Option Addr} {cs : Nat} {Hs : List Value} {Al : Option Addr} {cl : Nat} {Hl : List Value} {Ak : Option Addr} {ck : Nat} {Hk : List Value} {lv kv : Value} {w v : World} {row : Option Nat}
theorem own_far {A : Option Addr} {c : Nat} {xs : List Int} (h : Own w V A c xs) (hg : w.grownBy v row) (hrow : ∀ b, row = some b → b < V) : Own v V A c xs := by
  refine h.grown hg ?_
  rcases A with _ | a
  · exact .inl rfl
  · right
    intro e
    have h1 := hrow a.block e.symm
    have h2 := h.ge a.block rfl
    omega
theorem cell_far {r : Nat} {x : Value} (h : w.cell? ⟨r, 0, none⟩ = some x) (hr : V ≤ r) (hl : r < w.heap.size) (hg : w.grownBy v row) (hrow : ∀ b, row = some b → b < V) : v.cell? ⟨r, 0, none⟩ = some x :=
  (World.cell?_of_block (a := ⟨r, 0, none⟩) (hg.block r hl fun e => by have := hrow r e.symm; omega)).trans h
theorem ownV_far {t : TypeId} {B r c2 : Nat} {X : Option Addr} {H : List Value} (h : OwnV t w B (some ⟨r, 0, none⟩) c2 H) (hr : some r = blk X ∨ V ≤ r) (hg : w.grownBy v row) (hrow : ∀ b, row = some b → b < V) (hX : ∀ b, row = some b → blk X ≠ some b) : OwnV t v B (some ⟨r, 0, none⟩) c2 H := by
  refine h.grown hg (.inr fun e => ?_)
  have e : some r = row := e
  rcases hr with hr | hr
  · exact hX r e.symm hr.symm
  · have := hrow r e.symm
    omega
theorem f11_keep {j : Nat} {x : Value} (hg : w.grownBy v row) (hrow : ∀ b, row = some b → b < V) (h1 : j = 11 → ∀ b, row = some b → blk As ≠ some b) (h2 : j = 18 → ∀ b, row = some b → blk Al ≠ some b) (h3 : j = 25 → ∀ b, row = some b → blk Ak ≠ some b)
    (hM : ms11.contains j = true) (h : f11 V g k m As Hs Al Hl Ak Hk lv kv j x w) : f11 V g k m As Hs Al Hl Ak Hk lv kv j x v := by
  have hx : j = 9 ∨ j = 10 ∨ j = 11 ∨ j = 17 ∨ j = 18 ∨ j = 24 ∨ j = 25 := by
    simp [ms11] at hM
    omega
  rcases hx with rfl | rfl | rfl | rfl | rfl | rfl | rfl
  · obtain ⟨A, c, rfl, o⟩ := h
    exact ⟨A, c, rfl, own_far o hg hrow⟩
  · obtain ⟨r, A, c, rfl, hr, hl, hc, o⟩ := h
    exact ⟨r, A, c, rfl, hr, Nat.lt_of_lt_of_le hl hg.size, cell_far hc hr hl hg hrow, own_far o hg hrow⟩
  · obtain ⟨r, c2, A, c, rfl, o, o2, hr⟩ := h
    exact ⟨r, c2, A, c, rfl, ownV_far o hr hg hrow (h1 rfl), own_far o2 hg hrow, hr⟩
  · obtain ⟨r, rfl, hr, hl, hc⟩ := h
    exact ⟨r, rfl, hr, Nat.lt_of_lt_of_le hl hg.size, cell_far hc hr hl hg hrow⟩
  · obtain ⟨r, c2, rfl, o, hr⟩ := h
    exact ⟨r, c2, rfl, ownV_far o hr hg hrow (h2 rfl), hr⟩
  · obtain ⟨r, rfl, hr, hl, hc⟩ := h
    exact ⟨r, rfl, hr, Nat.lt_of_lt_of_le hl hg.size, cell_far hc hr hl hg hrow⟩
  · obtain ⟨r, c2, rfl, o, hr⟩ := h
    exact ⟨r, c2, rfl, ownV_far o hr hg hrow (h3 rfl), hr⟩
/-- What holds of the world throughout: the old rows stand till their appends. -/
structure G11 (u0 : World) (g : Nat) (As : Option Addr) (cs : Nat) (Hs : List Value) (Al : Option Addr) (cl : Nat) (Hl : List Value) (Ak : Option Addr) (ck : Nat) (Hk : List Value) (done : Array Bool) (w : World) : Prop where
  bl : Below (g + 1) u0 w
  kp : Kept u0 w fun b => blk As = some b ∨ blk Al = some b ∨ blk Ak = some b
  os : done.getD 11 false = false → OwnV 31 w (g + 1) As cs Hs
  ol : done.getD 18 false = false → OwnV 31 w (g + 1) Al cl Hl
  ok : done.getD 25 false = false → OwnV 47 w (g + 1) Ak ck Hk
variable {u0 : World} {done : Array Bool} {q : Nat}
theorem og_ne {j : Nat} (hne : q ≠ j) (h : (done.setIfInBounds q true).getD j false = false) : done.getD j false = false := by rwa [getD_set_ne false hne] at h
theorem og_self {md : Region.Mode} {ops : Array Oper} (hk : q ∈ Region.ready md ops done) (h : (done.setIfInBounds q true).getD q false = false) : False := by
  have := (mem_ready.1 hk).1
  have hs : q < done.size := by
    rcases Nat.lt_or_ge q done.size with h' | h'
    · exact h'
    · rw [Array.getD_eq_getD_getElem?, Array.getElem?_eq_none h'] at this
      cases this
  simp [Array.getD_eq_getD_getElem?, hs] at h
theorem G11.quiet (h : G11 u0 g As cs Hs Al cl Hl Ak ck Hk done w) (hb : Below w.heap.size w v) (hg : g < u0.heap.size) (n1 : q ≠ 11) (n2 : q ≠ 18) (n3 : q ≠ 25) : G11 u0 g As cs Hs Al cl Hl Ak ck Hk (done.setIfInBounds q true) v :=
  ⟨bUp h.bl hb (by have := h.bl.size; omega), h.kp.trans (.of_below hb), fun e => (h.os (og_ne n1 e)).below hb, fun e => (h.ol (og_ne n2 e)).below hb, fun e => (h.ok (og_ne n3 e)).below hb⟩
theorem G11.app {md : Region.Mode} {ops : Array Oper} {X : Option Addr} (h : G11 u0 g As cs Hs Al cl Hl Ak ck Hk done w) (hk : q ∈ Region.ready md ops done) (hg : w.grownBy v (blk X)) (hgs : g < u0.heap.size) (hX : ∀ b, blk X = some b → g + 1 ≤ b)
    (hD : ∀ b, blk X = some b → blk As = some b ∨ blk Al = some b ∨ blk Ak = some b) (n1 : q = 11 ∨ (q ≠ 11 ∧ (As = none ∨ blk As ≠ blk X))) (n2 : q = 18 ∨ (q ≠ 18 ∧ (Al = none ∨ blk Al ≠ blk X))) (n3 : q = 25 ∨ (q ≠ 25 ∧ (Ak = none ∨ blk Ak ≠ blk X))) :
    G11 u0 g As cs Hs Al cl Hl Ak ck Hk (done.setIfInBounds q true) v := by
  refine ⟨h.bl.grown hg (by have := h.bl.size; omega) hX, h.kp.trans (.of_grown hg hD), fun e => ?_, fun e => ?_, fun e => ?_⟩
  · rcases n1 with rfl | ⟨n1, n1'⟩
    · exact (og_self hk e).elim
    · exact (h.os (og_ne n1 e)).grown hg n1'
  · rcases n2 with rfl | ⟨n2, n2'⟩
    · exact (og_self hk e).elim
    · exact (h.ol (og_ne n2 e)).grown hg n2'
  · rcases n3 with rfl | ⟨n3, n3'⟩
    · exact (og_self hk e).elim
    · exact (h.ok (og_ne n3 e)).grown hg n3'
end
/-- Rows of other kinds lie in other blocks. -/
theorem row_types {w : World} {B B' e e' s s' n n' r r' c c' : Nat} {H H' : List Value} (h : w.ownsRow B e s (.slice (some ⟨r, 0, none⟩) n c) n H) (h' : w.ownsRow B' e' s' (.slice (some ⟨r', 0, none⟩) n' c') n' H') (he : e ≠ e') : r ≠ r' := by
  rintro rfl
  rcases h.2 with ⟨h1, _⟩ | ⟨g, cap, cur, h1, _, hg, _⟩
  · cases h1
  rcases h'.2 with ⟨h2, _⟩ | ⟨g', cap', cur', h2, _, hg', _⟩
  · cases h2
  simp only [Value.slice.injEq, Option.some.injEq, Addr.mk.injEq, and_true, true_and] at h1 h2
  obtain ⟨rfl, _⟩ := h1
  obtain ⟨rfl, _⟩ := h2
  rw [hg] at hg'
  simp only [Option.some.injEq, Obj.cells.injEq] at hg'
  exact he hg'.2.1
theorem move_keep {α : Type} {Lie : World → (Nat → Prop) → Value → α → Prop} (S : Stays Lie) {u w1 : World} {D Dk D2 : Nat → Prop} {x : Value} {z : α} (h : Lie u D x z) (hk : Kept u w1 Dk) (h1 : ∀ b, b < u.heap.size → Dk b → D b) (h2 : ∀ b, b < u.heap.size → D2 b → D b) : Lie w1 D2 x z :=
  S.wide (S.keep (S.wide (D' := fun y => D y ∨ D2 y) h fun b hb hd => hd.elim id (h2 b hb)) (hk.to fun b hb hd => .inl (h1 b hb hd))) fun _ _ hd => .inr hd
theorem HeadsT.move {α : Type} {Lie : World → (Nat → Prop) → Value → α → Prop} (S : Stays Lie) {u w1 : World} {D Dk D2 : Nat → Prop} {H : List Value} {n : Nat} {f : Nat → α} (h : HeadsT Lie u D H n f) (hk : Kept u w1 Dk) (h1 : ∀ b, b < u.heap.size → Dk b → D b) (h2 : ∀ b, b < u.heap.size → D2 b → D b) : HeadsT Lie w1 D2 H n f := ⟨h.len, fun j hj => by
  obtain ⟨v, e1, e2⟩ := h.at_ j hj
  exact ⟨v, e1, move_keep S e2 hk h1 h2⟩⟩
theorem sumRow_len {m : Mkd} (h : TreeOk m.P m.W) : (sumRow m).length = m.P.length := by rw [sumRow, gath_length, h.len]
theorem out3_next {u w1 : World} {g k V1 : Nat} {L : List Mkd} {As : Option Addr} {cs : Nat} {Hs : List Value} {Al : Option Addr} {cl : Nat} {Hl : List Value} {Ak : Option Addr} {ck : Nat} {Hk : List Value} {B : Option Addr} {cb : Nat} {Bk : Option Addr} {cbk : Nat} {H : List Value} {dv : Value}
    (ho : Out3 u g L k As cs Hs Al cl Hl Ak ck Hk) (hi : In2 u V1 (mAt L k) (mAt L k).P.length (mAt L k).P.length B cb Bk cbk H dv) (hn : 1 ≤ (mAt L k).P.length) (ht : TreeOk (mAt L k).P (mAt L k).W)
    (hgV : g < V1) (hVu : V1 ≤ u.heap.size) (hold : ∀ b, (blk As = some b ∨ blk Al = some b ∨ blk Ak = some b) → b < V1) (kp : Kept u w1 fun b => blk As = some b ∨ blk Al = some b ∨ blk Ak = some b)
    {r1 d1 r2 d2 r3 d3 : Nat} {A : Option Addr} {c : Nat} (q1 : OwnV 31 w1 (g + 1) (some ⟨r1, 0, none⟩) d1 (Hs ++ [.slice A (mAt L k).P.length c])) (qA : Own w1 u.heap.size A c (sumRow (mAt L k))) (hr1 : some r1 = blk As ∨ u.heap.size ≤ r1)
    (q2 : OwnV 31 w1 (g + 1) (some ⟨r2, 0, none⟩) d2 (Hl ++ [.slice B (mAt L k).P.length cb])) (hr2 : some r2 = blk Al ∨ u.heap.size ≤ r2)
    (q3 : OwnV 47 w1 (g + 1) (some ⟨r3, 0, none⟩) d3 (Hk ++ [.slice Bk (mAt L k).P.length cbk])) (hr3 : some r3 = blk Ak ∨ u.heap.size ≤ r3) :
    Out3 w1 g L (k + 1) (some ⟨r1, 0, none⟩) d1 (Hs ++ [.slice A (mAt L k).P.length c]) (some ⟨r2, 0, none⟩) d2 (Hl ++ [.slice B (mAt L k).P.length cb]) (some ⟨r3, 0, none⟩) d3 (Hk ++ [.slice Bk (mAt L k).P.length cbk]) := by
  have hsl := sumRow_len ht
  have hll := leftRow_length (mAt L k)
  obtain ⟨gA, hgA, hA1, hA2⟩ := qA.form (by rw [hsl]; exact hn)
  subst hgA
  have hol := hi.ol
  rw [List.take_of_length_le (by rw [hll]; exact Nat.le_refl _)] at hol
  obtain ⟨gB, hgB, hB1, hB2⟩ := hol.form (by rw [hll]; exact hn)
  subst hgB
  have hnew : ∀ b, b < u.heap.size → (b = g ∨ blk (some (⟨r1, 0, none⟩ : Addr)) = some b ∨ blk (some (⟨r2, 0, none⟩ : Addr)) = some b ∨ blk (some (⟨r3, 0, none⟩ : Addr)) = some b) → b = g ∨ blk As = some b ∨ blk Al = some b ∨ blk Ak = some b := by
    intro b hb h
    rcases h with h | h | h | h
    · exact .inl h
    · injection h with h
      have h : r1 = b := h
      subst h
      rcases hr1 with hr1 | hr1
      · exact .inr (.inl hr1.symm)
      · omega
    · injection h with h
      have h : r2 = b := h
      subst h
      rcases hr2 with hr2 | hr2
      · exact .inr (.inr (.inl hr2.symm))
      · omega
    · injection h with h
      have h : r3 = b := h
      subst h
      rcases hr3 with hr3 | hr3
      · exact .inr (.inr (.inr hr3.symm))
      · omega
  have hnewV : ∀ b, b < u.heap.size → (b = g ∨ blk (some (⟨r1, 0, none⟩ : Addr)) = some b ∨ blk (some (⟨r2, 0, none⟩ : Addr)) = some b ∨ blk (some (⟨r3, 0, none⟩ : Addr)) = some b) → b < V1 := by
    intro b hb h
    rcases hnew b hb h with h | h
    · omega
    · exact hold b h
  have n12 : r1 ≠ r2 := by
    rintro rfl
    have e1 := q1.cell (k := k) (u := .slice (some ⟨gA, 0, none⟩) (mAt L k).P.length c) (by rw [← ho.hs.len]; simp)
    have e2 := q2.cell (k := k) (u := .slice (some ⟨gB, 0, none⟩) (mAt L k).P.length cb) (by rw [← ho.hl.len]; simp)
    rw [e1] at e2
    simp only [Option.some.injEq, Value.slice.injEq, Addr.mk.injEq] at e2
    have := e2.1.1
    omega
  have n13 := row_types q1 q3 (by decide)
  have n23 := row_types q2 q3 (by decide)
  have m1 := row_types qA q1 (by decide)
  have m2 := row_types qA q2 (by decide)
  have m3 := row_types qA q3 (by decide)
  have bne : ∀ {a b : Nat}, a ≠ b → (some (⟨a, 0, none⟩ : Addr) = none ∨ blk (some (⟨a, 0, none⟩ : Addr)) ≠ blk (some (⟨b, 0, none⟩ : Addr))) := fun h => .inr fun e => h (by simpa [blk] using e)
  refine ⟨q1, q2, q3, bne n12, bne n13, bne n23, ?_, ?_, ?_⟩
  · refine (ho.hs.move stays0 kp (fun b _ h => .inr h) hnew).snoc ?_
    rw [← hsl]
    refine qA.lies fun b hb h => ?_
    have hb : gA = b := by simpa [blk] using hb
    subst hb
    simp only [blk, Option.map_some, Option.some.injEq] at h
    omega
  · refine (ho.hl.move stays0 kp (fun b _ h => .inr h) hnew).snoc ?_
    have l1 : Lies0 u (fun b => b < V1) (.slice (some ⟨gB, 0, none⟩) (mAt L k).P.length cb) (leftRow (mAt L k)) := by
      rw [← hll]
      exact hol.lies fun b hb h => by
        have := hol.ge b hb
        omega
    exact move_keep stays0 l1 kp (fun b _ h => hold b h) hnewV
  · refine (ho.hk.move stays0.row kp (fun b _ h => .inr h) hnew).snoc ?_
    have l1 : LiesR Lies0 u (fun b => b < V1) (.slice Bk (mAt L k).P.length cbk) ((mAt L k).P.length, fun x => kids (mAt L k).P x) :=
      (hi.hk.to stays0 fun b _ h => .inl h).lies hi.ok fun b hb h => by
        have := hi.ok.ge b hb
        omega
    exact move_keep stays0.row l1 kp (fun b _ h => hold b h) hnewV
theorem Out3.set {w : World} {g k : Nat} {L : List Mkd} {As : Option Addr} {cs : Nat} {Hs : List Value} {Al : Option Addr} {cl : Nat} {Hl : List Value} {Ak : Option Addr} {ck : Nat} {Hk : List Value}
    (h : Out3 w g L k As cs Hs Al cl Hl Ak ck Hk) (j : Nat) (x : Value) : Out3 (w.setCell ⟨g, j, none⟩ x) g L k As cs Hs Al cl Hl Ak ck Hk := by
  have hg := grown_setCell w ⟨g, j, none⟩ x
  have hk : Kept w (w.setCell ⟨g, j, none⟩ x) fun b => b = g ∨ blk As = some b ∨ blk Al = some b ∨ blk Ak = some b := Kept.set _ _ (.inl rfl)
  have hne : ∀ {X : Option Addr}, (∀ b, blk X = some b → g + 1 ≤ b) → (X = none ∨ blk X ≠ some g) := fun {X} hX => .inr fun e => by
    have := hX g e
    omega
  exact ⟨h.os.grown hg (hne h.os.ge), h.ol.grown hg (hne h.ol.ge), h.ok.grown hg (hne h.ok.ge), h.sl, h.sk, h.lk, h.hs.keep stays0 hk, h.hl.keep stays0 hk, h.hk.keep stays0.row hk⟩
theorem map_set3 {w : World} {g : Nat} {o : Obj} (h : w.heap[g]? = some o) (a b c : Value) : (((w.setCell ⟨g + 1, 3, none⟩ a).setCell ⟨g + 1, 4, none⟩ b).setCell ⟨g + 1, 5, none⟩ c).heap[g]? = some o := by
  simp [World.setCell, Array.getElem?_modify, h]
end Go.Proofs.Ythhpioohdkglkaa
