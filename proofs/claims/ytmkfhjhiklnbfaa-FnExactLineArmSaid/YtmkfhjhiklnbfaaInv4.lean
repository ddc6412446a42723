/- Regions by facts: what an operation leaves is a number, rows of the call's own, or a box; the blocks of two live ones are apart. No program stands here. -/
import Derived.Test.YtmkfhjhiklnbfaaInv3
import Derived.Test.YtmkfhjhiklnbfaaOpS
namespace Go.Proofs.Ytmkfhjhiklnbfaa
open Go.RowKit

/-- The blocks that a value names. -/
def ob : Value → List Nat
  | .slice (some a) _ _ => [a.block]
  | .pointer (some a) => [a.block]
  | _ => []
def blks : Value → List Nat
  | .agg vs => vs.toList.flatMap ob
  | v => ob v
def Apart (B : Nat) (x y : Value) : Prop := ∀ b, B ≤ b → b ∈ blks x → b ∉ blks y
theorem Apart.symm {B : Nat} {x y : Value} (h : Apart B x y) : Apart B y x := fun b hb h1 h2 => h b hb h2 h1
theorem blks_slice (A : Option Addr) (n c : Nat) : blks (.slice A n c) = (blk A).toList := by cases A <;> rfl
theorem blks_two (A1 A2 : Option Addr) (n1 c1 n2 c2 : Nat) : blks (.agg #[.slice A1 n1 c1, .slice A2 n2 c2]) = (blk A1).toList ++ (blk A2).toList := by cases A1 <;> cases A2 <;> rfl
theorem blks_thr (A1 A2 A3 : Option Addr) (n1 c1 n2 c2 n3 c3 : Nat) : blks (.agg #[.slice A1 n1 c1, .slice A2 n2 c2, .slice A3 n3 c3]) = (blk A1).toList ++ ((blk A2).toList ++ (blk A3).toList) := by cases A1 <;> cases A2 <;> cases A3 <;> rfl
theorem mem_blk {A : Option Addr} {b : Nat} : b ∈ (blk A).toList ↔ blk A = some b := by cases h : blk A <;> simp [eq_comm]

/-- A fact on a value that holds as long as its own blocks are not written. -/
structure Firm (B : Nat) (p : Value → World → Prop) : Prop where
  grown : ∀ u w w' row, p u w → B ≤ w.heap.size → w.grownBy w' row → (∀ b, row = some b → b ∉ blks u) → p u w'
  lt : ∀ u w, p u w → B ≤ w.heap.size → ∀ b ∈ blks u, b < w.heap.size

def isVal (B : Nat) (v : Value) : Value → World → Prop := fun u _ => u = v ∧ ∀ b ∈ blks v, b < B
def isRow (B : Nat) (xs : List Int) : Value → World → Prop := fun u w => ∃ A c, u = .slice A xs.length c ∧ Own w B A c xs
def isTwo (B : Nat) (xs ys : List Int) : Value → World → Prop := fun u w => ∃ A c A' c', u = .agg #[.slice A xs.length c, .slice A' ys.length c'] ∧ Own w B A c xs ∧ Own w B A' c' ys ∧ (A = none ∨ blk A ≠ blk A')
def isThr (B : Nat) (xs ys zs : List Int) : Value → World → Prop := fun u w => ∃ A c A' c' A'' c'', u = .agg #[.slice A xs.length c, .slice A' ys.length c', .slice A'' zs.length c''] ∧ Own w B A c xs ∧ Own w B A' c' ys ∧ Own w B A'' c'' zs ∧
  (A = none ∨ blk A ≠ blk A') ∧ (A = none ∨ blk A ≠ blk A'') ∧ (A' = none ∨ blk A' ≠ blk A'')
/-- A box of three cells of the call's own, free to be written. -/
def Bf3 (W : World) (g : Nat) (x y z : Value) : Prop :=
  W.cell? ⟨g, 0, none⟩ = some x ∧ W.cell? ⟨g, 1, none⟩ = some y ∧ W.cell? ⟨g, 2, none⟩ = some z ∧ W.frozen? ⟨g, 0, none⟩ = false ∧ W.frozen? ⟨g, 1, none⟩ = false ∧ W.frozen? ⟨g, 2, none⟩ = false ∧ g < W.heap.size
theorem Bf3.new (w : World) (x y z : Value) (t : TypeId) : Bf3 (w.alloc (.cells #[x, y, z] t)) w.heap.size x y z := by
  have h : (w.alloc (.cells #[x, y, z] t)).heap[w.heap.size]? = some (.cells #[x, y, z] t (0, 0)) := heap_alloc_new w _
  exact ⟨by simp, by simp, by simp, frozen_of_row _ _ 0 _ _ h, frozen_of_row _ _ 1 _ _ h, frozen_of_row _ _ 2 _ _ h, by simp⟩
theorem Bf3.same {W W' : World} {g : Nat} {x y z : Value} (h : Bf3 W g x y z) (hg : W'.heap[g]? = W.heap[g]?) (hs : W.heap.size ≤ W'.heap.size) : Bf3 W' g x y z := by
  obtain ⟨h0, h1, h2, z0, z1, z2, hz⟩ := h
  exact ⟨(World.cell?_of_block (a := ⟨g, 0, none⟩) hg).trans h0, (World.cell?_of_block (a := ⟨g, 1, none⟩) hg).trans h1, (World.cell?_of_block (a := ⟨g, 2, none⟩) hg).trans h2,
    (World.frozen?_of_block (a := ⟨g, 0, none⟩) hg).trans z0, (World.frozen?_of_block (a := ⟨g, 1, none⟩) hg).trans z1, (World.frozen?_of_block (a := ⟨g, 2, none⟩) hg).trans z2, Nat.lt_of_lt_of_le hz hs⟩
theorem Bf3.grown {W W' : World} {g : Nat} {x y z : Value} {row : Option Nat} (h : Bf3 W g x y z) (hg : W.grownBy W' row) (hr : row ≠ some g) : Bf3 W' g x y z :=
  h.same (hg.block g h.2.2.2.2.2.2 (fun e => hr e.symm)) hg.size
theorem Bf3.below {W W' : World} {g : Nat} {x y z : Value} (h : Bf3 W g x y z) (hb : Below W.heap.size W W') : Bf3 W' g x y z := h.same (hb.block g h.2.2.2.2.2.2) hb.size
theorem Bf3.drewN {W : World} {g : Nat} {x y z : Value} (h : Bf3 W g x y z) (n : Nat) : Bf3 (W.drewN n) g x y z := h
def isBox3 (B : Nat) (x y z : Value) : Value → World → Prop := fun u w => ∃ g, u = .pointer (some ⟨g, 0, none⟩) ∧ B ≤ g ∧ Bf3 w g x y z

section
variable {B : Nat}
theorem Firm.val (v : Value) : Firm B (isVal B v) := ⟨fun _ _ _ _ h _ _ _ => h, fun u w h hB b hb => by
  obtain ⟨rfl, h⟩ := h
  have := h b hb
  omega⟩
theorem own_grown {w w' : World} {A : Option Addr} {c : Nat} {xs : List Int} {row : Option Nat} (h : Own w B A c xs) (hg : w.grownBy w' row) (hr : ∀ b, row = some b → blk A ≠ some b) : Own w' B A c xs := by
  refine h.grown hg ?_
  rcases A with _ | a
  · exact .inl rfl
  · right
    intro e
    exact hr a.block e.symm rfl
theorem Firm.row (xs : List Int) : Firm B (isRow B xs) := ⟨fun u w w' row h _ hg hr => by
  obtain ⟨A, c, rfl, ho⟩ := h
  exact ⟨A, c, rfl, own_grown ho hg fun b e => by have := hr b e; rwa [blks_slice, mem_blk] at this⟩, fun u w h _ b hb => by
  obtain ⟨A, c, rfl, ho⟩ := h
  rw [blks_slice, mem_blk] at hb
  exact ho.ltk b hb⟩
theorem Firm.two (xs ys : List Int) : Firm B (isTwo B xs ys) := ⟨fun u w w' row h _ hg hr => by
  obtain ⟨A, c, A', c', rfl, ho, ho', hd⟩ := h
  refine ⟨A, c, A', c', rfl, own_grown ho hg fun b e => ?_, own_grown ho' hg fun b e => ?_, hd⟩
  · have := hr b e; rw [blks_two, List.mem_append, mem_blk, mem_blk] at this; exact fun h => this (.inl h)
  · have := hr b e; rw [blks_two, List.mem_append, mem_blk, mem_blk] at this; exact fun h => this (.inr h), fun u w h _ b hb => by
  obtain ⟨A, c, A', c', rfl, ho, ho', hd⟩ := h
  rw [blks_two, List.mem_append, mem_blk, mem_blk] at hb
  rcases hb with hb | hb
  · exact ho.ltk b hb
  · exact ho'.ltk b hb⟩
theorem Firm.thr (xs ys zs : List Int) : Firm B (isThr B xs ys zs) := ⟨fun u w w' row h _ hg hr => by
  obtain ⟨A, c, A', c', A2, c2, rfl, ho, ho', ho2, hd⟩ := h
  refine ⟨A, c, A', c', A2, c2, rfl, own_grown ho hg fun b e => ?_, own_grown ho' hg fun b e => ?_, own_grown ho2 hg fun b e => ?_, hd⟩
  · have := hr b e; rw [blks_thr, List.mem_append, List.mem_append, mem_blk, mem_blk, mem_blk] at this; exact fun h => this (.inl h)
  · have := hr b e; rw [blks_thr, List.mem_append, List.mem_append, mem_blk, mem_blk, mem_blk] at this; exact fun h => this (.inr (.inl h))
  · have := hr b e; rw [blks_thr, List.mem_append, List.mem_append, mem_blk, mem_blk, mem_blk] at this; exact fun h => this (.inr (.inr h)), fun u w h _ b hb => by
  obtain ⟨A, c, A', c', A2, c2, rfl, ho, ho', ho2, hd⟩ := h
  rw [blks_thr, List.mem_append, List.mem_append, mem_blk, mem_blk, mem_blk] at hb
  rcases hb with hb | hb | hb
  · exact ho.ltk b hb
  · exact ho'.ltk b hb
  · exact ho2.ltk b hb⟩
theorem Firm.box3 (x y z : Value) : Firm B (isBox3 B x y z) := ⟨fun u w w' row h _ hg hr => by
  obtain ⟨g, rfl, hB, hb⟩ := h
  exact ⟨g, rfl, hB, hb.grown hg fun e => hr g e (by simp [blks, ob])⟩, fun u w h _ b hb => by
  obtain ⟨g, rfl, hB, hz⟩ := h
  simp only [blks, ob, List.mem_singleton] at hb
  have := hz.2.2.2.2.2.2
  omega⟩
end

section
variable {P : Program} {ops : Array Oper} {Q : Exit → Act → World → Prop} {F : Nat → Value → World → Prop} {use : Nat → Nat} {G : Array Bool → World → Prop} {a0 a : Act} {done : Array Bool} {w v : World} {k B : Nat} {o : Oper} {u : Value}
/-- A block of a value that k consumes. -/
def Eaten (ops : Array Oper) (use : Nat → Nat) (done : Array Bool) (k : Nat) (a : Act) (b : Nat) : Prop :=
  ∃ i oi d y, use i = k ∧ done.getD i false = true ∧ ops[i]? = some oi ∧ oi.dst = some d ∧ a.tmps[d]? = some y ∧ b ∈ blks y
theorem stp (I : Facts ops F (Apart B) use G a0 done a w) (hk : k ∈ Region.ready .any ops done) (hF : ∀ j oj d, ops[j]? = some oj → oj.dst = some d → Firm B (F j)) (hno : ∀ j x w, (ops[j]?.bind (·.dst)) = none → F j x w) (hB : B ≤ w.heap.size) {row : Option Nat} (hu : o.dst = none → u = undef)
    (hFk : F k u v) (hG : G (done.setIfInBounds k true) v) (hg : w.grownBy v row) (hn : ∀ b ∈ blks u, B ≤ b → w.heap.size ≤ b ∨ Eaten ops use done k a b) (hr : ∀ b, row = some b → B ≤ b ∧ Eaten ops use done k a b) :
    Stp ops F (Apart B) use G done k o a w (a.put o.dst u) v := by
  have hnew := ready_new hk
  have apart : ∀ j x, use j ≠ k → done.getD j false = true → done.getD (use j) false = false → ∀ oj d, ops[j]? = some oj → oj.dst = some d → a.tmps[d]? = some x → ∀ b, B ≤ b → Eaten ops use done k a b → b ∉ blks x := by
    intro j x hjk hj huj oj d hoj hd hx b hb he hbx
    obtain ⟨i, oi, e, y, hik, hi, hoi, hei, hy, hby⟩ := he
    have hne : j ≠ i := fun h => hjk (by rw [h, hik])
    exact I.pair j i d e oj oi x y hne hj huj hi (by rw [hik]; exact hnew) hoj hoi hd hei hx hy b hb hbx hby
  refine ⟨u, rfl, ?_, hG, ?_⟩
  · cases hd : o.dst with
    | none => rw [hu hd] at hFk; exact hFk
    | some d => exact hFk
  · intro j x hjk hj huj hFx hsl
    have noRow : ∀ oj d, ops[j]? = some oj → oj.dst = some d → ∀ b, row = some b → b ∉ blks x := fun oj d hoj hd b hb => apart j x hjk hj huj oj d hoj hd (hsl oj d hoj hd) b (hr b hb).1 (hr b hb).2
    refine ⟨?_, ?_⟩
    · cases hoj : ops[j]? with
      | none => exact hno j x v (by rw [hoj]; rfl)
      | some oj =>
        cases hd : oj.dst with
        | none => exact hno j x v (by rw [hoj]; exact hd)
        | some d => exact (hF j oj d hoj hd).grown x w v row hFx hB hg (noRow oj d hoj hd)
    · intro oj d hoj hd hx
      have : Apart B x u := by
        intro b hb hbx hbu
        rcases hn b hbu hb with h | h
        · have := (hF j oj d hoj hd).lt x w hFx hB b hbx
          omega
        · exact apart j x hjk hj huj oj d hoj hd hx b hb h hbx
      exact ⟨this, this.symm⟩
/-- A step that makes memory of its own, or none. -/
theorem stp_new (I : Facts ops F (Apart B) use G a0 done a w) (hk : k ∈ Region.ready .any ops done) (hF : ∀ j oj d, ops[j]? = some oj → oj.dst = some d → Firm B (F j)) (hno : ∀ j x w, (ops[j]?.bind (·.dst)) = none → F j x w) (hB : B ≤ w.heap.size) (hu : o.dst = none → u = undef)
    (hFk : F k u v) (hG : G (done.setIfInBounds k true) v) (hb : Below w.heap.size w v) (hn : ∀ b ∈ blks u, B ≤ b → w.heap.size ≤ b) : Stp ops F (Apart B) use G done k o a w (a.put o.dst u) v :=
  stp I hk hF hno hB (row := none) hu hFk hG (grown_of_below hb none) (fun b h1 h2 => .inl (hn b h1 h2)) (fun b h => by cases h)
/-- A step that makes no memory: its value's blocks are those of what it consumes. -/
theorem stp_mix (I : Facts ops F (Apart B) use G a0 done a w) (hk : k ∈ Region.ready .any ops done) (hF : ∀ j oj d, ops[j]? = some oj → oj.dst = some d → Firm B (F j)) (hno : ∀ j x w, (ops[j]?.bind (·.dst)) = none → F j x w) (hB : B ≤ w.heap.size) (hu : o.dst = none → u = undef)
    (hFk : F k u w) (hG : G (done.setIfInBounds k true) w) (hn : ∀ b ∈ blks u, B ≤ b → Eaten ops use done k a b) : Stp ops F (Apart B) use G done k o a w (a.put o.dst u) w :=
  stp I hk hF hno hB (row := none) hu hFk hG (grown_of_below (Below.refl _ _) none) (fun b h1 h2 => .inr (hn b h1 h2)) (fun b h => by cases h)
theorem eaten {i d b : Nat} {oi : Oper} {y : Value} (hk : k ∈ Region.ready .any ops done) (hdep : depB .any ops k i = true) (hu : use i = k) (hi : ops[i]? = some oi) (hd : oi.dst = some d) (hy : a.tmps[d]? = some y) (hb : b ∈ blks y) : Eaten ops use done k a b :=
  ⟨i, oi, d, y, hu, ready_dep hk hdep, hi, hd, hy, hb⟩
/-- A slot that no operation of the region writes. -/
theorem rest_at {A : Value → Value → Prop} {s : Nat} {x : Value} (I : Facts ops F A use G a0 done a w) (h : (ops.all fun o => o.dst != some s) = true) (h0 : a0.tmps[s]? = some x) : a.tmps[s]? = some x := by
  rw [I.rest s ?_, h0]
  intro j oj hj hd
  have := Array.all_eq_true'.1 h oj (Array.mem_of_getElem? hj)
  rw [hd] at this
  simp at this
theorem firm_of (n : Nat) (h : ((List.range ops.size).all fun j => decide (j < n) || (ops[j]?.bind (·.dst)).isNone) = true) (hf : ∀ j, j < n → Firm B (F j)) : ∀ j oj d, ops[j]? = some oj → oj.dst = some d → Firm B (F j) := by
  intro j oj d hj hd
  have := List.all_eq_true.1 h j (List.mem_range.2 (Array.getElem?_eq_some_iff.1 hj).1)
  rw [hj] at this
  simp [hd] at this
  exact hf j this
theorem none_of (n : Nat) (h : ((List.range n).all fun j => (ops[j]?.bind (·.dst)).isSome) = true) (hf : ∀ j, n ≤ j → ∀ x w, F j x w) : ∀ j x w, (ops[j]?.bind (·.dst)) = none → F j x w := by
  intro j x w hj
  rcases Nat.lt_or_ge j n with hlt | hge
  · have := List.all_eq_true.1 h j (List.mem_range.2 hlt)
    rw [hj] at this
    cases this
  · exact hf j hge x w
theorem Facts.pair2 {A : Value → Value → Prop} {j i d e : Nat} {oj oi : Oper} {x y : Value} (I : Facts ops F A use G a0 done a w) (hk : k ∈ Region.ready .any ops done) (hne : j ≠ i) (dj : depB .any ops k j = true) (di : depB .any ops k i = true) (uj : use j = k) (ui : use i = k)
    (hj : ops[j]? = some oj) (hi : ops[i]? = some oi) (hd : oj.dst = some d) (he : oi.dst = some e) (hx : a.tmps[d]? = some x) (hy : a.tmps[e]? = some y) : A x y :=
  I.pair j i d e oj oi x y hne (ready_dep hk dj) (by rw [uj]; exact ready_new hk) (ready_dep hk di) (by rw [ui]; exact ready_new hk) hj hi hd he hx hy
theorem apart_ne {A1 A2 : Option Addr} {n1 c1 n2 c2 c' : Nat} {xs : List Int} (h : Apart B (.slice A1 n1 c1) (.slice A2 n2 c2)) (o : Own w B A1 c' xs) : A1 = none ∨ blk A1 ≠ blk A2 := by
  rcases A1 with _ | a
  · exact .inl rfl
  · right
    intro e
    exact h a.block (o.lt a rfl).1 (by simp [blks, ob]) (by rw [blks_slice, mem_blk, ← e]; rfl)
theorem apart_box {A1 : Option Addr} {g n1 c1 c' : Nat} {xs : List Int} (h : Apart B (.slice A1 n1 c1) (.pointer (some ⟨g, 0, none⟩))) (o : Own w B A1 c' xs) : blk A1 ≠ some g := by
  intro e
  exact h g (o.ge g e) (by rw [blks_slice, mem_blk]; exact e) (by simp [blks, ob])
theorem Apart.sub {x x' y y' : Value} (h : Apart B x y) (h1 : ∀ b ∈ blks x', b ∈ blks x) (h2 : ∀ b ∈ blks y', b ∈ blks y) : Apart B x' y' := fun b hb hx hy => h b hb (h1 b hx) (h2 b hy)
theorem Bf3.fill {g : Nat} {x y z : Value} (h : Bf3 w g x y z) (x' y' z' : Value) : Bf3 (((w.setCell ⟨g, 0, none⟩ x').setCell ⟨g, 1, none⟩ y').setCell ⟨g, 2, none⟩ z') g x' y' z' := by
  obtain ⟨h0, h1, h2, z0, z1, z2, hz⟩ := h
  refine ⟨by simp [go_sem, h0], by simp [go_sem, h1], by simp [go_sem, h2], by simp [go_sem, z0], by simp [go_sem, z1], by simp [go_sem, z2], by simpa [World.size_setCell] using hz⟩
theorem Own.fill {g : Nat} {x y z : Value} {A : Option Addr} {c : Nat} {xs : List Int} (h : Own w B A c xs) (hn : blk A ≠ some g) : Own (((w.setCell ⟨g, 0, none⟩ x).setCell ⟨g, 1, none⟩ y).setCell ⟨g, 2, none⟩ z) B A c xs :=
  ((h.setOther _ _ (.inr hn)).setOther _ _ (.inr hn)).setOther _ _ (.inr hn)
theorem wp_region_rows {id : Nat} {w0 : World} (last n B : Nat) (hm : P.follows .mixedOrders = true) (F : Nat → Value → World → Prop) (use : Nat → Nat) (G : Array Bool → World → Prop)
    (ho : onceB ops a0.tmps.size = true) (he : earlyB ops = true) (hl : lastB ops last = true) (hls : last < ops.size) (hG : G (Array.replicate ops.size false) w0.drew)
    (hb1 : ((List.range ops.size).all fun j => decide (j < n) || (ops[j]?.bind (·.dst)).isNone) = true) (hf : ∀ j, j < n → Firm B (F j)) (hb2 : ((List.range n).all fun j => (ops[j]?.bind (·.dst)).isSome) = true) (ht : ∀ j, n ≤ j → ∀ x w, F j x w)
    (hop : (∀ j oj d, ops[j]? = some oj → oj.dst = some d → Firm B (F j)) → (∀ j x w, (ops[j]?.bind (·.dst)) = none → F j x w) → ∀ k o, k ≠ last → ops[k]? = some o → ∀ done a w, Facts ops F (Apart B) use G a0 done a w → k ∈ Region.ready .any ops done →
      o.wp P a w (Stp ops F (Apart B) use G done k o a w) Q)
    (hlast : ∀ o, ops[last]? = some o → ∀ done a w, Facts ops F (Apart B) use G a0 done a w → last ∈ Region.ready .any ops done → o.wp P a w (fun b v => Q .normal b v) Q) : (Code.region id ops true).wp P Q a0 w0 :=
  wp_region_last last hm F (Apart B) use G ho he hl hls hG (hop (firm_of n hb1 hf) (none_of n hb2 ht)) hlast
/-- The act's slots, as they stand: those that the region writes, and those of the start. -/
theorem act_lit2 {A : Value → Value → Prop} (I : Facts ops F A use G a0 done a w) (ws : List Nat) (h : (ops.all fun o => match o.dst with | some d => ws.contains d | none => true) = true) :
    a.tmps = ((List.range a0.tmps.size).map fun i => if ws.contains i then a.tmps.getD i undef else a0.tmps.getD i undef).toArray := by
  apply Array.ext
  · simp [I.size]
  · intro i h1 h2
    have hi : i < a0.tmps.size := by rw [← I.size]; exact h1
    simp only [List.getElem_toArray, List.getElem_map, List.getElem_range]
    split
    · simp []
    · next hc =>
      have : a.tmps[i]? = a0.tmps[i]? := I.rest i (fun j oj hj hd => by
        have := Array.all_eq_true'.1 h oj (Array.mem_of_getElem? hj)
        rw [hd] at this
        exact hc this)
      rw [Array.getElem?_eq_getElem h1, Array.getElem?_eq_getElem hi] at this
      simpa [Array.getD_eq_getD_getElem?, hi] using Option.some.inj this
end
end Go.Proofs.Ytmkfhjhiklnbfaa
