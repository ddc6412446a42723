/- Line arms: regions of many rows by facts on each operation, the plain law, both walks (merged of Inv4 LaL LaR LaS LaT). -/
import Derived.Test.YtfobjkdkjlbkfaaOpB
import Derived.Test.YtfobjkdkjlbkfaaTreA
import Derived.Test.YtfobjkdkjlbkfaaCopy
import Derived.Test.YtfobjkdkjlbkfaaArA
import Derived.Test.YtfobjkdkjlbkfaaButA
namespace Go.Proofs.Ytfobjkdkjlbkfaa
open Go.RowKit

/-- The blocks that a value names. -/
def ob : Value → List Nat
  | .slice (some a) _ _ => [a.block]
  | .pointer (some a) => [a.block]
  | _ => []
def blks : Value → List Nat
  | .agg vs => vs.toList.flatMap ob
  | v => ob v
def Apart (B : Nat) (x y : Value) : Prop := ∀ b, B ≤ b → b ∈ blks x → b ∉ blks y
theorem Apart.symm {B : Nat} {x y : Value} (h : Apart B x y) : Apart B y x := fun b hb h1 h2 => h b hb h2 h1
theorem blks_slice (A : Option Addr) (n c : Nat) : blks (.slice A n c) = (blk A).toList := by cases A <;> rfl
theorem blks_two (A1 A2 : Option Addr) (n1 c1 n2 c2 : Nat) : blks (.agg #[.slice A1 n1 c1, .slice A2 n2 c2]) = (blk A1).toList ++ (blk A2).toList := by cases A1 <;> cases A2 <;> rfl
theorem blks_thr (A1 A2 A3 : Option Addr) (n1 c1 n2 c2 n3 c3 : Nat) : blks (.agg #[.slice A1 n1 c1, .slice A2 n2 c2, .slice A3 n3 c3]) = (blk A1).toList ++ ((blk A2).toList ++ (blk A3).toList) := by cases A1 <;> cases A2 <;> cases A3 <;> rfl
theorem mem_blk {A : Option Addr} {b : Nat} : b ∈ (blk A).toList ↔ blk A = some b := by cases h : blk A <;> simp [eq_comm]

/-- A fact on a value that holds as long as its own blocks are not written. -/
structure Firm (B : Nat) (p : Value → World → Prop) : Prop where
  grown : ∀ u w w' row, p u w → B ≤ w.heap.size → w.grownBy w' row → (∀ b, row = some b → b ∉ blks u) → p u w'
  lt : ∀ u w, p u w → B ≤ w.heap.size → ∀ b ∈ blks u, b < w.heap.size

def isVal (B : Nat) (v : Value) : Value → World → Prop := fun u _ => u = v ∧ ∀ b ∈ blks v, b < B
def isRow (B : Nat) (xs : List Int) : Value → World → Prop := fun u w => ∃ A c, u = .slice A xs.length c ∧ Own w B A c xs
def isTwo (B : Nat) (xs ys : List Int) : Value → World → Prop := fun u w => ∃ A c A' c', u = .agg #[.slice A xs.length c, .slice A' ys.length c'] ∧ Own w B A c xs ∧ Own w B A' c' ys ∧ (A = none ∨ blk A ≠ blk A')
def isThr (B : Nat) (xs ys zs : List Int) : Value → World → Prop := fun u w => ∃ A c A' c' A'' c'', u = .agg #[.slice A xs.length c, .slice A' ys.length c', .slice A'' zs.length c''] ∧ Own w B A c xs ∧ Own w B A' c' ys ∧ Own w B A'' c'' zs ∧
  (A = none ∨ blk A ≠ blk A') ∧ (A = none ∨ blk A ≠ blk A'') ∧ (A' = none ∨ blk A' ≠ blk A'')
/-- A box of three cells of the call's own, free to be written. -/
def Bf3 (W : World) (g : Nat) (x y z : Value) : Prop :=
  W.cell? ⟨g, 0, none⟩ = some x ∧ W.cell? ⟨g, 1, none⟩ = some y ∧ W.cell? ⟨g, 2, none⟩ = some z ∧ W.frozen? ⟨g, 0, none⟩ = false ∧ W.frozen? ⟨g, 1, none⟩ = false ∧ W.frozen? ⟨g, 2, none⟩ = false ∧ g < W.heap.size
theorem Bf3.new (w : World) (x y z : Value) (t : TypeId) : Bf3 (w.alloc (.cells #[x, y, z] t)) w.heap.size x y z := by
  have h : (w.alloc (.cells #[x, y, z] t)).heap[w.heap.size]? = some (.cells #[x, y, z] t (0, 0)) := heap_alloc_new w _
  exact ⟨by simp, by simp, by simp, frozen_of_row _ _ 0 _ _ h, frozen_of_row _ _ 1 _ _ h, frozen_of_row _ _ 2 _ _ h, by simp⟩
theorem Bf3.same {W W' : World} {g : Nat} {x y z : Value} (h : Bf3 W g x y z) (hg : W'.heap[g]? = W.heap[g]?) (hs : W.heap.size ≤ W'.heap.size) : Bf3 W' g x y z := by
  obtain ⟨h0, h1, h2, z0, z1, z2, hz⟩ := h
  exact ⟨(World.cell?_of_block (a := ⟨g, 0, none⟩) hg).trans h0, (World.cell?_of_block (a := ⟨g, 1, none⟩) hg).trans h1, (World.cell?_of_block (a := ⟨g, 2, none⟩) hg).trans h2,
    (World.frozen?_of_block (a := ⟨g, 0, none⟩) hg).trans z0, (World.frozen?_of_block (a := ⟨g, 1, none⟩) hg).trans z1, (World.frozen?_of_block (a := ⟨g, 2, none⟩) hg).trans z2, Nat.lt_of_lt_of_le hz hs⟩
theorem Bf3.grown {W W' : World} {g : Nat} {x y z : Value} {row : Option Nat} (h : Bf3 W g x y z) (hg : W.grownBy W' row) (hr : row ≠ some g) : Bf3 W' g x y z :=
  h.same (hg.block g h.2.2.2.2.2.2 (fun e => hr e.symm)) hg.size
theorem Bf3.below {W W' : World} {g : Nat} {x y z : Value} (h : Bf3 W g x y z) (hb : Below W.heap.size W W') : Bf3 W' g x y z := h.same (hb.block g h.2.2.2.2.2.2) hb.size
theorem Bf3.drewN {W : World} {g : Nat} {x y z : Value} (h : Bf3 W g x y z) (n : Nat) : Bf3 (W.drewN n) g x y z := h
def isBox3 (B : Nat) (x y z : Value) : Value → World → Prop := fun u w => ∃ g, u = .pointer (some ⟨g, 0, none⟩) ∧ B ≤ g ∧ Bf3 w g x y z

section
variable {B : Nat}
theorem Firm.val (v : Value) : Firm B (isVal B v) := ⟨fun _ _ _ _ h _ _ _ => h, fun u w h hB b hb => by
  obtain ⟨rfl, h⟩ := h
  have := h b hb
  omega⟩
theorem own_grown {w w' : World} {A : Option Addr} {c : Nat} {xs : List Int} {row : Option Nat} (h : Own w B A c xs) (hg : w.grownBy w' row) (hr : ∀ b, row = some b → blk A ≠ some b) : Own w' B A c xs := by
  refine h.grown hg ?_
  rcases A with _ | a
  · exact .inl rfl
  · right
    intro e
    exact hr a.block e.symm rfl
theorem Firm.row (xs : List Int) : Firm B (isRow B xs) := ⟨fun u w w' row h _ hg hr => by
  obtain ⟨A, c, rfl, ho⟩ := h
  exact ⟨A, c, rfl, own_grown ho hg fun b e => by have := hr b e; rwa [blks_slice, mem_blk] at this⟩, fun u w h _ b hb => by
  obtain ⟨A, c, rfl, ho⟩ := h
  rw [blks_slice, mem_blk] at hb
  exact ho.ltk b hb⟩
theorem Firm.two (xs ys : List Int) : Firm B (isTwo B xs ys) := ⟨fun u w w' row h _ hg hr => by
  obtain ⟨A, c, A', c', rfl, ho, ho', hd⟩ := h
  refine ⟨A, c, A', c', rfl, own_grown ho hg fun b e => ?_, own_grown ho' hg fun b e => ?_, hd⟩
  · have := hr b e; rw [blks_two, List.mem_append, mem_blk, mem_blk] at this; exact fun h => this (.inl h)
  · have := hr b e; rw [blks_two, List.mem_append, mem_blk, mem_blk] at this; exact fun h => this (.inr h), fun u w h _ b hb => by
  obtain ⟨A, c, A', c', rfl, ho, ho', hd⟩ := h
  rw [blks_two, List.mem_append, mem_blk, mem_blk] at hb
  rcases hb with hb | hb
  · exact ho.ltk b hb
  · exact ho'.ltk b hb⟩
theorem Firm.thr (xs ys zs : List Int) : Firm B (isThr B xs ys zs) := ⟨fun u w w' row h _ hg hr => by
  obtain ⟨A, c, A', c', A2, c2, rfl, ho, ho', ho2, hd⟩ := h
  refine ⟨A, c, A', c', A2, c2, rfl, own_grown ho hg fun b e => ?_, own_grown ho' hg fun b e => ?_, own_grown ho2 hg fun b e => ?_, hd⟩
  · have := hr b e; rw [blks_thr, List.mem_append, List.mem_append, mem_blk, mem_blk, mem_blk] at this; exact fun h => this (.inl h)
  · have := hr b e; rw [blks_thr, List.mem_append, List.mem_append, mem_blk, mem_blk, mem_blk] at this; exact fun h => this (.inr (.inl h))
  · have := hr b e; rw [blks_thr, List.mem_append, List.mem_append, mem_blk, mem_blk, mem_blk] at this; exact fun h => this (.inr (.inr h)), fun u w h _ b hb => by
  obtain ⟨A, c, A', c', A2, c2, rfl, ho, ho', ho2, hd⟩ := h
  rw [blks_thr, List.mem_append, List.mem_append, mem_blk, mem_blk, mem_blk] at hb
  rcases hb with hb | hb | hb
  · exact ho.ltk b hb
  · exact ho'.ltk b hb
  · exact ho2.ltk b hb⟩
theorem Firm.box3 (x y z : Value) : Firm B (isBox3 B x y z) := ⟨fun u w w' row h _ hg hr => by
  obtain ⟨g, rfl, hB, hb⟩ := h
  exact ⟨g, rfl, hB, hb.grown hg fun e => hr g e (by simp [blks, ob])⟩, fun u w h _ b hb => by
  obtain ⟨g, rfl, hB, hz⟩ := h
  simp only [blks, ob, List.mem_singleton] at hb
  have := hz.2.2.2.2.2.2
  omega⟩
end

section
variable {P : Program} {ops : Array Oper} {Q : Exit → Act → World → Prop} {F : Nat → Value → World → Prop} {use : Nat → Nat} {G : Array Bool → World → Prop} {a0 a : Act} {done : Array Bool} {w v : World} {k B : Nat} {o : Oper} {u : Value}
/-- A block of a value that k consumes. -/
def Eaten (ops : Array Oper) (use : Nat → Nat) (done : Array Bool) (k : Nat) (a : Act) (b : Nat) : Prop :=
  ∃ i oi d y, use i = k ∧ done.getD i false = true ∧ ops[i]? = some oi ∧ oi.dst = some d ∧ a.tmps[d]? = some y ∧ b ∈ blks y
theorem stp (I : Facts ops F (Apart B) use G a0 done a w) (hk : k ∈ Region.ready .any ops done) (hF : ∀ j oj d, ops[j]? = some oj → oj.dst = some d → Firm B (F j)) (hno : ∀ j x w, (ops[j]?.bind (·.dst)) = none → F j x w) (hB : B ≤ w.heap.size) {row : Option Nat} (hu : o.dst = none → u = undef)
    (hFk : F k u v) (hG : G (done.setIfInBounds k true) v) (hg : w.grownBy v row) (hn : ∀ b ∈ blks u, B ≤ b → w.heap.size ≤ b ∨ Eaten ops use done k a b) (hr : ∀ b, row = some b → B ≤ b ∧ Eaten ops use done k a b) :
    Stp ops F (Apart B) use G done k o a w (a.put o.dst u) v := by
  have hnew := ready_new hk
  have apart : ∀ j x, use j ≠ k → done.getD j false = true → done.getD (use j) false = false → ∀ oj d, ops[j]? = some oj → oj.dst = some d → a.tmps[d]? = some x → ∀ b, B ≤ b → Eaten ops use done k a b → b ∉ blks x := by
    intro j x hjk hj huj oj d hoj hd hx b hb he hbx
    obtain ⟨i, oi, e, y, hik, hi, hoi, hei, hy, hby⟩ := he
    have hne : j ≠ i := fun h => hjk (by rw [h, hik])
    exact I.pair j i d e oj oi x y hne hj huj hi (by rw [hik]; exact hnew) hoj hoi hd hei hx hy b hb hbx hby
  refine ⟨u, rfl, ?_, hG, ?_⟩
  · cases hd : o.dst with
    | none => rw [hu hd] at hFk; exact hFk
    | some d => exact hFk
  · intro j x hjk hj huj hFx hsl
    have noRow : ∀ oj d, ops[j]? = some oj → oj.dst = some d → ∀ b, row = some b → b ∉ blks x := fun oj d hoj hd b hb => apart j x hjk hj huj oj d hoj hd (hsl oj d hoj hd) b (hr b hb).1 (hr b hb).2
    refine ⟨?_, ?_⟩
    · cases hoj : ops[j]? with
      | none => exact hno j x v (by rw [hoj]; rfl)
      | some oj =>
        cases hd : oj.dst with
        | none => exact hno j x v (by rw [hoj]; exact hd)
        | some d => exact (hF j oj d hoj hd).grown x w v row hFx hB hg (noRow oj d hoj hd)
    · intro oj d hoj hd hx
      have : Apart B x u := by
        intro b hb hbx hbu
        rcases hn b hbu hb with h | h
        · have := (hF j oj d hoj hd).lt x w hFx hB b hbx
          omega
        · exact apart j x hjk hj huj oj d hoj hd hx b hb h hbx
      exact ⟨this, this.symm⟩
/-- A step that makes memory of its own, or none. -/
theorem stp_new (I : Facts ops F (Apart B) use G a0 done a w) (hk : k ∈ Region.ready .any ops done) (hF : ∀ j oj d, ops[j]? = some oj → oj.dst = some d → Firm B (F j)) (hno : ∀ j x w, (ops[j]?.bind (·.dst)) = none → F j x w) (hB : B ≤ w.heap.size) (hu : o.dst = none → u = undef)
    (hFk : F k u v) (hG : G (done.setIfInBounds k true) v) (hb : Below w.heap.size w v) (hn : ∀ b ∈ blks u, B ≤ b → w.heap.size ≤ b) : Stp ops F (Apart B) use G done k o a w (a.put o.dst u) v :=
  stp I hk hF hno hB (row := none) hu hFk hG (grown_of_below hb none) (fun b h1 h2 => .inl (hn b h1 h2)) (fun b h => by cases h)
/-- A step that makes no memory: its value's blocks are those of what it consumes. -/
theorem stp_mix (I : Facts ops F (Apart B) use G a0 done a w) (hk : k ∈ Region.ready .any ops done) (hF : ∀ j oj d, ops[j]? = some oj → oj.dst = some d → Firm B (F j)) (hno : ∀ j x w, (ops[j]?.bind (·.dst)) = none → F j x w) (hB : B ≤ w.heap.size) (hu : o.dst = none → u = undef)
    (hFk : F k u w) (hG : G (done.setIfInBounds k true) w) (hn : ∀ b ∈ blks u, B ≤ b → Eaten ops use done k a b) : Stp ops F (Apart B) use G done k o a w (a.put o.dst u) w :=
  stp I hk hF hno hB (row := none) hu hFk hG (grown_of_below (Below.refl _ _) none) (fun b h1 h2 => .inr (hn b h1 h2)) (fun b h => by cases h)
theorem eaten {i d b : Nat} {oi : Oper} {y : Value} (hk : k ∈ Region.ready .any ops done) (hdep : depB .any ops k i = true) (hu : use i = k) (hi : ops[i]? = some oi) (hd : oi.dst = some d) (hy : a.tmps[d]? = some y) (hb : b ∈ blks y) : Eaten ops use done k a b :=
  ⟨i, oi, d, y, hu, ready_dep hk hdep, hi, hd, hy, hb⟩
/-- A slot that no operation of the region writes. -/
theorem rest_at {A : Value → Value → Prop} {s : Nat} {x : Value} (I : Facts ops F A use G a0 done a w) (h : (ops.all fun o => o.dst != some s) = true) (h0 : a0.tmps[s]? = some x) : a.tmps[s]? = some x := by
  rw [I.rest s ?_, h0]
  intro j oj hj hd
  have := Array.all_eq_true'.1 h oj (Array.mem_of_getElem? hj)
  rw [hd] at this
  simp at this
theorem firm_of (n : Nat) (h : ((List.range ops.size).all fun j => decide (j < n) || (ops[j]?.bind (·.dst)).isNone) = true) (hf : ∀ j, j < n → Firm B (F j)) : ∀ j oj d, ops[j]? = some oj → oj.dst = some d → Firm B (F j) := by
  intro j oj d hj hd
  have := List.all_eq_true.1 h j (List.mem_range.2 (Array.getElem?_eq_some_iff.1 hj).1)
  rw [hj] at this
  simp [hd] at this
  exact hf j this
theorem none_of (n : Nat) (h : ((List.range n).all fun j => (ops[j]?.bind (·.dst)).isSome) = true) (hf : ∀ j, n ≤ j → ∀ x w, F j x w) : ∀ j x w, (ops[j]?.bind (·.dst)) = none → F j x w := by
  intro j x w hj
  rcases Nat.lt_or_ge j n with hlt | hge
  · have := List.all_eq_true.1 h j (List.mem_range.2 hlt)
    rw [hj] at this
    cases this
  · exact hf j hge x w
theorem Facts.pair2 {A : Value → Value → Prop} {j i d e : Nat} {oj oi : Oper} {x y : Value} (I : Facts ops F A use G a0 done a w) (hk : k ∈ Region.ready .any ops done) (hne : j ≠ i) (dj : depB .any ops k j = true) (di : depB .any ops k i = true) (uj : use j = k) (ui : use i = k)
    (hj : ops[j]? = some oj) (hi : ops[i]? = some oi) (hd : oj.dst = some d) (he : oi.dst = some e) (hx : a.tmps[d]? = some x) (hy : a.tmps[e]? = some y) : A x y :=
  I.pair j i d e oj oi x y hne (ready_dep hk dj) (by rw [uj]; exact ready_new hk) (ready_dep hk di) (by rw [ui]; exact ready_new hk) hj hi hd he hx hy
theorem apart_ne {A1 A2 : Option Addr} {n1 c1 n2 c2 c' : Nat} {xs : List Int} (h : Apart B (.slice A1 n1 c1) (.slice A2 n2 c2)) (o : Own w B A1 c' xs) : A1 = none ∨ blk A1 ≠ blk A2 := by
  rcases A1 with _ | a
  · exact .inl rfl
  · right
    intro e
    exact h a.block (o.lt a rfl).1 (by simp [blks, ob]) (by rw [blks_slice, mem_blk, ← e]; rfl)
theorem apart_box {A1 : Option Addr} {g n1 c1 c' : Nat} {xs : List Int} (h : Apart B (.slice A1 n1 c1) (.pointer (some ⟨g, 0, none⟩))) (o : Own w B A1 c' xs) : blk A1 ≠ some g := by
  intro e
  exact h g (o.ge g e) (by rw [blks_slice, mem_blk]; exact e) (by simp [blks, ob])
theorem Apart.sub {x x' y y' : Value} (h : Apart B x y) (h1 : ∀ b ∈ blks x', b ∈ blks x) (h2 : ∀ b ∈ blks y', b ∈ blks y) : Apart B x' y' := fun b hb hx hy => h b hb (h1 b hx) (h2 b hy)
theorem Bf3.fill {g : Nat} {x y z : Value} (h : Bf3 w g x y z) (x' y' z' : Value) : Bf3 (((w.setCell ⟨g, 0, none⟩ x').setCell ⟨g, 1, none⟩ y').setCell ⟨g, 2, none⟩ z') g x' y' z' := by
  obtain ⟨h0, h1, h2, z0, z1, z2, hz⟩ := h
  refine ⟨by simp [go_sem, h0], by simp [go_sem, h1], by simp [go_sem, h2], by simp [go_sem, z0], by simp [go_sem, z1], by simp [go_sem, z2], by simpa [World.size_setCell] using hz⟩
theorem Own.fill {g : Nat} {x y z : Value} {A : Option Addr} {c : Nat} {xs : List Int} (h : Own w B A c xs) (hn : blk A ≠ some g) : Own (((w.setCell ⟨g, 0, none⟩ x).setCell ⟨g, 1, none⟩ y).setCell ⟨g, 2, none⟩ z) B A c xs :=
  ((h.setOther _ _ (.inr hn)).setOther _ _ (.inr hn)).setOther _ _ (.inr hn)
theorem wp_region_rows {id : Nat} {w0 : World} (last n B : Nat) (hm : P.follows .mixedOrders = true) (F : Nat → Value → World → Prop) (use : Nat → Nat) (G : Array Bool → World → Prop)
    (ho : onceB ops a0.tmps.size = true) (he : earlyB ops = true) (hl : lastB ops last = true) (hls : last < ops.size) (hG : G (Array.replicate ops.size false) w0.drew)
    (hb1 : ((List.range ops.size).all fun j => decide (j < n) || (ops[j]?.bind (·.dst)).isNone) = true) (hf : ∀ j, j < n → Firm B (F j)) (hb2 : ((List.range n).all fun j => (ops[j]?.bind (·.dst)).isSome) = true) (ht : ∀ j, n ≤ j → ∀ x w, F j x w)
    (hop : (∀ j oj d, ops[j]? = some oj → oj.dst = some d → Firm B (F j)) → (∀ j x w, (ops[j]?.bind (·.dst)) = none → F j x w) → ∀ k o, k ≠ last → ops[k]? = some o → ∀ done a w, Facts ops F (Apart B) use G a0 done a w → k ∈ Region.ready .any ops done →
      o.wp P a w (Stp ops F (Apart B) use G done k o a w) Q)
    (hlast : ∀ o, ops[last]? = some o → ∀ done a w, Facts ops F (Apart B) use G a0 done a w → last ∈ Region.ready .any ops done → o.wp P a w (fun b v => Q .normal b v) Q) : (Code.region id ops true).wp P Q a0 w0 :=
  wp_region_last last hm F (Apart B) use G ho he hl hls hG (hop (firm_of n hb1 hf) (none_of n hb2 ht)) hlast
/-- The act's slots, as they stand: those that the region writes, and those of the start. -/
theorem act_lit2 {A : Value → Value → Prop} (I : Facts ops F A use G a0 done a w) (ws : List Nat) (h : (ops.all fun o => match o.dst with | some d => ws.contains d | none => true) = true) :
    a.tmps = ((List.range a0.tmps.size).map fun i => if ws.contains i then a.tmps.getD i undef else a0.tmps.getD i undef).toArray := by
  apply Array.ext
  · simp [I.size]
  · intro i h1 h2
    have hi : i < a0.tmps.size := by rw [← I.size]; exact h1
    simp only [List.getElem_toArray, List.getElem_map, List.getElem_range]
    split
    · simp []
    · next hc =>
      have : a.tmps[i]? = a0.tmps[i]? := I.rest i (fun j oj hj hd => by
        have := Array.all_eq_true'.1 h oj (Array.mem_of_getElem? hj)
        rw [hd] at this
        exact hc this)
      rw [Array.getElem?_eq_getElem h1, Array.getElem?_eq_getElem hi] at this
      simpa [Array.getD_eq_getD_getElem?, hi] using Option.some.inj this
end

/-- The line's parents, with k nodes: -1, 0, 1, .. -/
def lnP (k : Nat) : List Int := (List.range k).map fun (i : Nat) => (i : Int) - 1
def lnW (n : Nat) : List Int := (List.replicate (n + 1) 0).set n 1
theorem lnP_length (k : Nat) : (lnP k).length = k := by simp [lnP]
theorem lnP_succ (k : Nat) : lnP (k + 1) = lnP k ++ [(k : Int) - 1] := by simp [lnP, List.range_succ]
theorem lnW_length (n : Nat) : (lnW n).length = n + 1 := by simp [lnW]
theorem ln_all : ((List.range 5).all fun n => treeB (lnP (n + 1)) (lnW n) && decide (hgt (lnP (n + 1)) ≤ 4) && (List.range (n + 1)).all fun x => endB (lnP (n + 1)) x == decide (x = n)) = true := by kernel_rfl
theorem ln_one {n : Nat} (h : n < 5) : treeB (lnP (n + 1)) (lnW n) = true ∧ decide (hgt (lnP (n + 1)) ≤ 4) = true ∧ ∀ x : Nat, x < n + 1 → endB (lnP (n + 1)) x = decide (x = n) := by
  have := List.all_eq_true.1 ln_all n (List.mem_range.2 h)
  rw [Bool.and_eq_true, Bool.and_eq_true] at this
  refine ⟨this.1.1, this.1.2, fun x hx => ?_⟩
  have := List.all_eq_true.1 this.2 x (List.mem_range.2 hx)
  exact beq_iff_eq.1 this
theorem ln_z {c : List Int} (h : c.length ≤ 4) : zB (lnP (c.length + 1)) (c ++ [0]) = true := by
  unfold zB
  rw [List.all_eq_true]
  intro x hx
  rw [List.mem_range, lnP_length] at hx
  rw [(ln_one (n := c.length) (by omega)).2.2 x hx]
  rcases Decidable.em (x = c.length) with rfl | hne
  · simp [nth]
  · simp [hne]
theorem line_arm {c : List Int} (h : c.length ≤ 4) : armB (lnP (c.length + 1)) (lnW c.length) (c ++ [0]) = allB c (-99) 99 := by
  have h9 : (lnP (c.length + 1)).length ≤ 9 := by rw [lnP_length]; omega
  have hl : (c ++ [0]).length = (lnP (c.length + 1)).length := by simp [lnP_length]
  have ha : allB (c ++ [0]) (-99) 99 = allB c (-99) 99 := by simp [allB, inB]
  rw [armB, (ln_one (n := c.length) (by omega)).1, (ln_one (n := c.length) (by omega)).2.1, ln_z h, decide_eq_true h9, decide_eq_true hl, ha]
  simp

/-- A line's rows, apart, in a box. -/
structure LaB (w : World) (B g k n m : Nat) (A1 : Option Addr) (c1 : Nat) (A2 : Option Addr) (c2 : Nat) (A3 : Option Addr) (c3 : Nat) (P W F : List Int) : Prop where
  bx : Bf3 w g (.slice A1 k c1) (.slice A2 n c2) (.slice A3 m c3)
  o1 : Own w B A1 c1 P
  o2 : Own w B A2 c2 W
  o3 : Own w B A3 c3 F
  d12 : A1 = none ∨ blk A1 ≠ blk A2
  d13 : A1 = none ∨ blk A1 ≠ blk A3
  d23 : A2 = none ∨ blk A2 ≠ blk A3
  g1 : blk A1 ≠ some g
  g2 : blk A2 ≠ some g
  g3 : blk A3 ≠ some g
  hg : B ≤ g
section
variable {w w' : World} {B g k n m c1 c2 c3 c4 : Nat} {A1 A2 A3 A4 : Option Addr} {P W F X : List Int}
theorem blk_none {A : Option Addr} (h : blk A = none) : A = none := by
  cases A with
  | none => rfl
  | some a => cases h
theorem ne_grown (hn : blk A4 = blk A1 ∨ ∃ r, blk A4 = some r ∧ w.heap.size ≤ r) (hd : A1 = none ∨ blk A1 ≠ blk A2) (o : Own w B A2 c2 W) : A4 = none ∨ blk A4 ≠ blk A2 := by
  rcases hn with h | ⟨r, h, hr⟩
  · rcases hd with rfl | hd
    · exact .inl (blk_none h)
    · exact .inr (by rw [h]; exact hd)
  · right
    rw [h]
    intro e
    have := o.ltk r e.symm
    omega
theorem LaB.below (L : LaB w B g k n m A1 c1 A2 c2 A3 c3 P W F) (hb : Below w.heap.size w w') : LaB w' B g k n m A1 c1 A2 c2 A3 c3 P W F :=
  ⟨L.bx.below hb, L.o1.below hb, L.o2.below hb, L.o3.below hb, L.d12, L.d13, L.d23, L.g1, L.g2, L.g3, L.hg⟩
theorem Bf3.below' {g B : Nat} {x y z : Value} (h : Bf3 w g x y z) (hb : Below B w w') (hg : g < B) : Bf3 w' g x y z := h.same (hb.block g hg) hb.size
/-- Another box, below, has been filled. -/
theorem LaB.other (L : LaB w B g k n m A1 c1 A2 c2 A3 c3 P W F) (d : Nat) (hd : d < B) (x y z : Value) : LaB (((w.setCell ⟨d, 0, none⟩ x).setCell ⟨d, 1, none⟩ y).setCell ⟨d, 2, none⟩ z) B g k n m A1 c1 A2 c2 A3 c3 P W F := by
  have hb : ∀ j, j ≠ d → (((w.setCell ⟨d, 0, none⟩ x).setCell ⟨d, 1, none⟩ y).setCell ⟨d, 2, none⟩ z).heap[j]? = w.heap[j]? := fun j hj => by
    rw [Below.heap_setCell _ _ _ _ hj, Below.heap_setCell _ _ _ _ hj, Below.heap_setCell _ _ _ _ hj]
  have hs : w.heap.size ≤ (((w.setCell ⟨d, 0, none⟩ x).setCell ⟨d, 1, none⟩ y).setCell ⟨d, 2, none⟩ z).heap.size := by simp [World.size_setCell]
  have hg := L.hg
  exact ⟨L.bx.same (hb g (by omega)) hs, L.o1.fill (row_ne L.o1 hd), L.o2.fill (row_ne L.o2 hd), L.o3.fill (row_ne L.o3 hd), L.d12, L.d13, L.d23, L.g1, L.g2, L.g3, L.hg⟩
/-- The first row has grown, and its new place has been stored. -/
theorem LaB.push (L : LaB w B g k n m A1 c1 A2 c2 A3 c3 P W F) (o : Own w' B A4 c4 X) (hg : w.grownBy w' (blk A1)) (hn : blk A4 = blk A1 ∨ ∃ r, blk A4 = some r ∧ w.heap.size ≤ r) (l : Nat) :
    LaB (w'.setCell ⟨g, 0, none⟩ (.slice A4 l c4)) B g l n m A4 c4 A2 c2 A3 c3 X W F ∧ Bf3 w' g (.slice A1 k c1) (.slice A2 n c2) (.slice A3 m c3) := by
  have b' := L.bx.grown hg L.g1
  have n1 : blk A4 ≠ some g := by
    rcases hn with h | ⟨r, h, hr⟩
    · rw [h]; exact L.g1
    · rw [h]
      have := L.bx.2.2.2.2.2.2
      simp
      omega
  have k2 : A2 = none ∨ blk A2 ≠ blk A1 := by
    rcases L.d12 with rfl | h
    · cases A2 with
      | none => exact .inl rfl
      | some a => exact .inr (by simp [blk])
    · exact .inr (Ne.symm h)
  have k3 : A3 = none ∨ blk A3 ≠ blk A1 := by
    rcases L.d13 with rfl | h
    · cases A3 with
      | none => exact .inl rfl
      | some a => exact .inr (by simp [blk])
    · exact .inr (Ne.symm h)
  refine ⟨⟨?_, o.setOther _ _ (.inr n1), (L.o2.grown hg k2).setOther _ _ (.inr L.g2), (L.o3.grown hg k3).setOther _ _ (.inr L.g3), ne_grown hn L.d12 L.o2, ne_grown hn L.d13 L.o3, L.d23, n1, L.g2, L.g3, L.hg⟩, b'⟩
  obtain ⟨h0, h1, h2, z0, z1, z2, hz⟩ := b'
  exact ⟨by simp [go_sem, h0], by simp [go_sem, h1], by simp [go_sem, h2], by simp [go_sem, z0], by simp [go_sem, z1], by simp [go_sem, z2], by simpa [World.size_setCell] using hz⟩
/-- A number of the second row has been set. -/
theorem LaB.mark {r : Nat} (L : LaB w B g k n m A1 c1 (some ⟨r, 0, none⟩) c2 A3 c3 P W F) (j : Nat) (x : Int) :
    LaB (w.setCell ⟨r, j, none⟩ (.int .i64 x)) B g k n m A1 c1 (some ⟨r, 0, none⟩) c2 A3 c3 P (W.set j x) F := by
  have hs := L.o2.set j x
  have k3 : A3 = none ∨ blk A3 ≠ some r := by
    rcases L.d23 with h | h
    · cases h
    · exact .inr (Ne.symm h)
  exact ⟨L.bx.grown hs.2 (fun e => L.g2 e), L.o1.grown hs.2 L.d12, hs.1, L.o3.grown hs.2 k3, L.d12, L.d13, L.d23, L.g1, L.g2, L.g3, L.hg⟩
end
/-- It answers an arm of rows of its own, apart, and ok. -/
def GivesArm (w : World) (P W F : List Int) (ok : Bool) (e : Ending) (w' : World) : Prop :=
  ∃ A1 c1 A2 c2 A3 c3, e = .returned (.tuple #[mkV A1 P.length c1 A2 W.length c2 A3 F.length c3, .bool ok]) ∧ Own w' w.heap.size A1 c1 P ∧ Own w' w.heap.size A2 c2 W ∧ Own w' w.heap.size A3 c3 F ∧
    (A1 = none ∨ blk A1 ≠ blk A2) ∧ (A1 = none ∨ blk A1 ≠ blk A3) ∧ (A2 = none ∨ blk A2 ≠ blk A3) ∧ Below w.heap.size w w'
def lineB (c : List Int) : Bool := decide (c.length ≤ 4) && allB c (-99) 99
def laP (c : List Int) : List Int := if lineB c then lnP (c.length + 1) else []
def laW (c : List Int) : List Int := if lineB c then lnW c.length else []
def laN (c : List Int) : List Int := if lineB c then c ++ [0] else []
theorem lineB_len {c : List Int} (h : ¬ c.length ≤ 4) : lineB c = false := by simp [lineB, h]
theorem lineB_all {c : List Int} (h : allB c (-99) 99 = false) : lineB c = false := by simp [lineB, h]
theorem lineB_yes {c : List Int} (h : c.length ≤ 4) (h' : allB c (-99) 99 = true) : lineB c = true := by simp [lineB, h, h']
theorem gives_no {c : List Int} {w w' : World} {e : Ending} (h : lineB c = false) (he : e = .returned (.tuple #[mkV none 0 0 none 0 0 none 0 0, .bool false])) (hb : Below w.heap.size w w') : GivesArm w (laP c) (laW c) (laN c) (lineB c) e w' := by
  simp only [laP, laW, laN, h]
  exact ⟨none, 0, none, 0, none, 0, he, Own.nil _ _, Own.nil _ _, Own.nil _ _, .inl rfl, .inl rfl, .inl rfl, hb⟩
theorem gives_yes {c : List Int} {w w' : World} {e : Ending} {B g c1 c2 c3 : Nat} {A1 A2 A3 : Option Addr} (h : lineB c = true) (L : LaB w' B g (c.length + 1) (c.length + 1) (c.length + 1) A1 c1 A2 c2 A3 c3 (lnP (c.length + 1)) (lnW c.length) (c ++ [0])) (hB : w.heap.size ≤ B)
    (he : e = .returned (.tuple #[mkV A1 (c.length + 1) c1 A2 (c.length + 1) c2 A3 (c.length + 1) c3, .bool true])) (hb : Below w.heap.size w w') : GivesArm w (laP c) (laW c) (laN c) (lineB c) e w' := by
  simp only [laP, laW, laN, h, if_true]
  refine ⟨A1, c1, A2, c2, A3, c3, ?_, L.o1.mono hB, L.o2.mono hB, L.o3.mono hB, L.d12, L.d13, L.d23, hb⟩
  rw [he, lnP_length, lnW_length, List.length_append]
  rfl

def laF (B : Nat) (c : List Int) (v : Value) : Nat → Value → World → Prop
  | 0 => isRow B []
  | 1 => isVal B (.int .i64 c.length)
  | 2 => isVal B (.int .i64 (c.length + 1))
  | 3 => isRow B (List.replicate (c.length + 1) 0)
  | 4 => isTwo B [] (List.replicate (c.length + 1) 0)
  | 5 => isVal B v
  | 6 => isRow B c
  | 7 => isRow B [0]
  | 8 => isRow B (c ++ [0])
  | 9 => isThr B [] (List.replicate (c.length + 1) 0) (c ++ [0])
  | 10 => isBox3 B (.slice none 0 0) (.slice none 0 0) (.slice none 0 0)
  | _ => fun _ _ => True
def laU : Nat → Nat
  | 0 => 4 | 1 => 2 | 2 => 3 | 3 => 4 | 4 => 9 | 5 => 6 | 6 => 8 | 7 => 8 | 8 => 9 | 9 => 11 | 10 => 11 | _ => 99
theorem laF_firm (B : Nat) (c : List Int) (v : Value) : ∀ j, j < 11 → Firm B (laF B c v j) := by
  intro j hj
  have hx : j = 0 ∨ j = 1 ∨ j = 2 ∨ j = 3 ∨ j = 4 ∨ j = 5 ∨ j = 6 ∨ j = 7 ∨ j = 8 ∨ j = 9 ∨ j = 10 := by omega
  rcases hx with rfl | rfl | rfl | rfl | rfl | rfl | rfl | rfl | rfl | rfl | rfl
  all_goals first | exact Firm.val _ | exact Firm.row _ | exact Firm.two _ _ | exact Firm.thr _ _ _ | exact Firm.box3 _ _ _
theorem laF_none (B : Nat) (c : List Int) (v : Value) : ∀ j, 11 ≤ j → ∀ x w, laF B c v j x w := by
  intro j hj x w
  match j, hj with
  | j + 11, _ => exact trivial
set_option maxRecDepth 20000 in
set_option maxHeartbeats 1000000 in
theorem specLine_c (A : Option Addr) (c : List Int) (cc : Nat) (w : World) (h : Rd w A (ints c)) (hA : ∀ ad, A = some ad → ad.block < w.heap.size) (hl : c.length ≤ 16777216) :
    Calls Try.prog 36 #[.slice A c.length cc] w (GivesArm w (laP c) (laW c) (laN c) (lineB c)) := by
  by_cases h4 : c.length ≤ 4
  · go_enter Try.func36, Try.ntmps36
    go_wp2_with fail
    go_upto_region 4 with fail
    have h1 : Below w.heap.size w (w.alloc (.cells #[.slice none 0 0, .slice none 0 0, .slice none 0 0] 28)) := (Below.refl _ _).alloc (Nat.le_refl _) _
    have hr := h.below h1 (Nat.le_refl _)
    have hz : (w.alloc (.cells #[.slice none 0 0, .slice none 0 0, .slice none 0 0] 28)).heap.size = w.heap.size + 1 := by simp
    have b0 := Bf3.new w (.slice none 0 0) (.slice none 0 0) (.slice none 0 0) 28
    generalize w.alloc (.cells #[.slice none 0 0, .slice none 0 0, .slice none 0 0] 28) = wa at *
    go_cut [5] (fun s5 wx => ∃ g A1 c1 A2 c2 A3 c3, s5 = .pointer (some ⟨g, 0, none⟩) ∧ LaB wx (w.heap.size + 1) g 0 (c.length + 1) (c.length + 1) A1 c1 A2 c2 A3 c3 [] (List.replicate (c.length + 1) 0) (c ++ [0]) ∧ Below (w.heap.size + 1) wa wx)
    case first =>
      rename_i _ _ _ hJ hK'
      refine wp_region_rows 11 11 (w.heap.size + 1) (by rfl) (laF (w.heap.size + 1) c (.slice A c.length cc)) laU (fun _ v => Below (w.heap.size + 1) wa v) (by kernel_rfl) (by kernel_rfl) (by kernel_rfl) (by decide) (Below.drew (Below.refl _ _)) (by kernel_rfl) (laF_firm _ _ _) (by kernel_rfl) (laF_none _ _ _) ?_ ?_
      · intro hF hno k o hne hko done a w1 I hk
        have hks : k < 12 := (Array.getElem?_eq_some_iff.1 hko).1
        have hx : k = 0 ∨ k = 1 ∨ k = 2 ∨ k = 3 ∨ k = 4 ∨ k = 5 ∨ k = 6 ∨ k = 7 ∨ k = 8 ∨ k = 9 ∨ k = 10 ∨ k = 11 := by omega
        have HB := I.grow
        have hB : w.heap.size + 1 ≤ w1.heap.size := by rw [← hz]; exact HB.size
        rcases hx with rfl | rfl | rfl | rfl | rfl | rfl | rfl | rfl | rfl | rfl | rfl | rfl
        · have := Option.some.inj hko
          subst this
          refine op_lit0 rfl (stp_new I hk hF hno hB (fun h => by cases h) ⟨_, _, rfl, (Own.lit w1 [] (by simp)).mono hB⟩ (HB.alloc hB _) ((Below.refl _ _).alloc (Nat.le_refl _) _) (fun b hb _ => ?_))
          simp [blks, ob] at hb
          omega
        · have := Option.some.inj hko
          subst this
          have e4 := rest_at I (s := 4) (x := .int .i64 (c.length : Int)) (by kernel_rfl) rfl
          exact op_move rfl (eval_tmp e4) (stp_mix I hk hF hno hB (fun h => by cases h) ⟨rfl, by simp [blks, ob]⟩ HB (by simp [blks, ob]))
        · have := Option.some.inj hko
          subst this
          obtain ⟨u, hu, rfl, _⟩ := I.at hk (j := 1) (d := 13) (by kernel_rfl) rfl rfl rfl
          exact op_add rfl (eval_tmp hu) rfl (IntWalk.i64_in _ (by omega)) (stp_mix I hk hF hno hB (fun h => by cases h) ⟨rfl, by simp [blks, ob]⟩ HB (by simp [blks, ob]))
        · have := Option.some.inj hko
          subst this
          obtain ⟨u, hu, rfl, _⟩ := I.at hk (j := 2) (d := 14) (by kernel_rfl) rfl rfl rfl
          refine op_makes w1 (.tmp 14) (.tmp 14) rfl .i64 .i64 _ _ (c.length + 1) (eval_tmp hu) (eval_tmp hu) (by omega) (by omega) (by omega) ?_
          intro w' o' b'
          exact stp_new I hk hF hno hB (fun h => by cases h) ⟨_, _, by rw [List.length_replicate], o'.mono hB⟩ (bUp HB b' hB) b' (fun b hb _ => by simp [blks, ob] at hb; omega)
        · have := Option.some.inj hko
          subst this
          obtain ⟨u, hu, Au, cu, rfl, ou⟩ := I.at hk (j := 0) (d := 12) (by kernel_rfl) rfl rfl rfl
          obtain ⟨v, hv, Av, cv, rfl, ov⟩ := I.at hk (j := 3) (d := 15) (by kernel_rfl) rfl rfl rfl
          have hp := I.pair2 hk (j := 0) (i := 3) (by decide) (by kernel_rfl) (by kernel_rfl) rfl rfl rfl rfl rfl rfl hu hv
          refine op_build2 rfl (eval_tmp hu) (eval_tmp hv) (stp_mix I hk hF hno hB (fun h => by cases h) ⟨_, _, _, _, rfl, ou, ov, apart_ne hp ou⟩ HB (fun b hb _ => ?_))
          rw [blks_two, List.mem_append, mem_blk, mem_blk] at hb
          rcases hb with hb | hb
          · exact eaten hk (i := 0) (by kernel_rfl) rfl rfl rfl hu (by rw [blks_slice, mem_blk]; exact hb)
          · exact eaten hk (i := 3) (by kernel_rfl) rfl rfl rfl hv (by rw [blks_slice, mem_blk]; exact hb)
        · have := Option.some.inj hko
          subst this
          have e4 := rest_at I (s := 0) (x := .slice A c.length cc) (by kernel_rfl) rfl
          have hb : ∀ b ∈ blks (.slice A c.length cc), b < w.heap.size + 1 := by
            intro b hb
            rw [blks_slice, mem_blk] at hb
            rcases A with _ | ad
            · cases hb
            · have := hA ad rfl
              have hb : ad.block = b := by simpa [blk] using hb
              omega
          exact op_move rfl (eval_tmp e4) (stp_mix I hk hF hno hB (fun h => by cases h) ⟨rfl, hb⟩ HB (fun b hb' hb'' => by have := hb b hb'; omega))
        · have := Option.some.inj hko
          subst this
          obtain ⟨u, hu, rfl, _⟩ := I.at hk (j := 5) (d := 17) (by kernel_rfl) rfl rfl rfl
          refine op_call1 rfl hu (by go_simp) (l1Own_c A c cc w1 (hr.below HB (by omega)) hl) ?_
          rintro e w' ⟨A2, c2, rfl, o2, b2⟩
          refine ⟨_, rfl, stp_new I hk hF hno hB (fun h => by cases h) ⟨_, _, rfl, o2.mono hB⟩ (bUp HB b2 hB) b2 (fun b hb _ => ?_)⟩
          rw [blks_slice, mem_blk] at hb
          exact o2.ge b hb
        · have := Option.some.inj hko
          subst this
          refine op_lit1 rfl rfl (stp_new I hk hF hno hB (fun h => by cases h) ⟨_, _, rfl, (Own.lit w1 [0] (by simp)).mono hB⟩ (HB.alloc hB _) ((Below.refl _ _).alloc (Nat.le_refl _) _) (fun b hb _ => ?_))
          simp [blks, ob] at hb
          omega
        · have := Option.some.inj hko
          subst this
          obtain ⟨u, hu, Au, cu, rfl, ou⟩ := I.at hk (j := 6) (d := 18) (by kernel_rfl) rfl rfl rfl
          obtain ⟨v, hv, Av, cv, rfl, ov⟩ := I.at hk (j := 7) (d := 19) (by kernel_rfl) rfl rfl rfl
          refine op_append_ints w1 (.tmp 18) (.tmp 19) rfl (w.heap.size + 1) Au c.length cu c (eval_tmp hu) rfl ou Av 1 cv [0] (eval_tmp hv) rfl ov.rd (by simp; omega) hB ?_
          intro A2 c2 w' h2 h3 h5
          have eat : ∀ b, blk Au = some b → Eaten _ laU done 8 a b := fun b hb => eaten hk (i := 6) (by kernel_rfl) rfl rfl rfl hu (by rw [blks_slice, mem_blk]; exact hb)
          refine stp I hk hF hno hB (row := blk Au) (fun h => by cases h) ⟨_, _, by rw [List.length_append]; rfl, h2⟩ (HB.grown h3 hB ou.ge) h3 (fun b hb _ => ?_) (fun b hb => ⟨ou.ge b hb, eat b hb⟩)
          rw [blks_slice, mem_blk] at hb
          rcases h5 with h5 | h5
          · exact .inr (eat b (by rw [← h5]; exact hb))
          · rw [h5] at hb
            injection hb with hb
            exact .inl (by omega)
        · have := Option.some.inj hko
          subst this
          obtain ⟨u, hu, A1, c1, A2, c2, rfl, o1, o2, d12⟩ := I.at hk (j := 4) (d := 16) (by kernel_rfl) rfl rfl rfl
          obtain ⟨v, hv, A3, c3, rfl, o3⟩ := I.at hk (j := 8) (d := 20) (by kernel_rfl) rfl rfl rfl
          have hp := I.pair2 hk (j := 4) (i := 8) (by decide) (by kernel_rfl) (by kernel_rfl) rfl rfl rfl rfl rfl rfl hu hv
          have hp1 : Apart (w.heap.size + 1) (.slice A1 0 c1) (.slice A3 0 c3) := hp.sub (fun b hb => by rw [blks_two, List.mem_append]; rw [blks_slice] at hb; exact .inl hb) (fun b hb => by rw [blks_slice] at hb ⊢; exact hb)
          have hp2 : Apart (w.heap.size + 1) (.slice A2 0 c2) (.slice A3 0 c3) := hp.sub (fun b hb => by rw [blks_two, List.mem_append]; rw [blks_slice] at hb; exact .inr hb) (fun b hb => by rw [blks_slice] at hb ⊢; exact hb)
          refine op_build3 rfl (eval_tmp hu) (eval_tmp hv) (stp_mix I hk hF hno hB (fun h => by cases h) ⟨_, _, _, _, _, _, rfl, o1, o2, o3, d12, apart_ne hp1 o1, apart_ne hp2 o2⟩ HB (fun b hb _ => ?_))
          rw [blks_thr, ← List.append_assoc, List.mem_append] at hb
          rcases hb with hb | hb
          · exact eaten hk (i := 4) (by kernel_rfl) rfl rfl rfl hu (by rw [blks_two]; exact hb)
          · exact eaten hk (i := 8) (by kernel_rfl) rfl rfl rfl hv (by rw [blks_slice]; exact hb)
        · have := Option.some.inj hko
          subst this
          refine op_box rfl (stp_new I hk hF hno hB (fun h => by cases h) ⟨_, rfl, hB, Bf3.new _ _ _ _ _⟩ (HB.alloc hB _) ((Below.refl _ _).alloc (Nat.le_refl _) _) (fun b hb _ => ?_))
          simp [blks, ob] at hb
          omega
        · exact (hne rfl).elim
      · intro o hko done a w1 I hk
        have := Option.some.inj hko
        subst this
        have HB := I.grow
        have hB : w.heap.size + 1 ≤ w1.heap.size := by rw [← hz]; exact HB.size
        obtain ⟨u, hu, g, rfl, hg, bg⟩ := I.at hk (j := 10) (d := 5) (by kernel_rfl) rfl rfl rfl
        obtain ⟨v, hv, A1, c1, A2, c2, A3, c3, rfl, o1, o2, o3, d12, d13, d23⟩ := I.at hk (j := 9) (d := 21) (by kernel_rfl) rfl rfl rfl
        have hp := I.pair2 hk (j := 9) (i := 10) (by decide) (by kernel_rfl) (by kernel_rfl) rfl rfl rfl rfl rfl rfl hv hu
        have n1 : blk A1 ≠ some g := apart_box (hp.sub (x' := .slice A1 0 c1) (fun b hb => by rw [blks_thr, List.mem_append]; rw [blks_slice] at hb; exact .inl hb) (fun _ h => h)) o1
        have n2 : blk A2 ≠ some g := apart_box (hp.sub (x' := .slice A2 0 c2) (fun b hb => by rw [blks_thr, List.mem_append, List.mem_append]; rw [blks_slice] at hb; exact .inr (.inl hb)) (fun _ h => h)) o2
        have n3 : blk A3 ≠ some g := apart_box (hp.sub (x' := .slice A3 0 c3) (fun b hb => by rw [blks_thr, List.mem_append, List.mem_append]; rw [blks_slice] at hb; exact .inr (.inr hb)) (fun _ h => h)) o3
        have E := act_lit2 I [5, 12, 13, 14, 15, 16, 17, 18, 19, 20, 21] (by kernel_rfl)
        have D := I.defs
        obtain ⟨b0, b1, b2, z0, z1, z2, _⟩ := id bg
        refine op_fill rfl (eval_tmp hu) (eval_tmp hv) rfl b0 b1 b2 z0 z1 z2 ?_
        have H1 : Below (w.heap.size + 1) wa (((w1.setCell ⟨g, 0, none⟩ (.slice A1 ([] : List Int).length c1)).setCell ⟨g, 1, none⟩ (.slice A2 (List.replicate (c.length + 1) (0 : Int)).length c2)).setCell ⟨g, 2, none⟩ (.slice A3 (c ++ [0]).length c3)) := ((HB.setCell hg _).setCell hg _).setCell hg _
        have LB : LaB (((w1.setCell ⟨g, 0, none⟩ (.slice A1 ([] : List Int).length c1)).setCell ⟨g, 1, none⟩ (.slice A2 (List.replicate (c.length + 1) (0 : Int)).length c2)).setCell ⟨g, 2, none⟩ (.slice A3 (c ++ [0]).length c3)) (w.heap.size + 1) g 0 (c.length + 1) (c.length + 1) A1 c1 A2 c2 A3 c3 [] (List.replicate (c.length + 1) 0) (c ++ [0]) := by
          refine ⟨?_, o1.fill n1, o2.fill n2, o3.fill n3, d12, d13, d23, n1, n2, n3, hg⟩
          have := bg.fill (.slice A1 ([] : List Int).length c1) (.slice A2 (List.replicate (c.length + 1) (0 : Int)).length c2) (.slice A3 (c ++ [0]).length c3)
          simpa using this
        generalize ((w1.setCell ⟨g, 0, none⟩ (.slice A1 ([] : List Int).length c1)).setCell ⟨g, 1, none⟩ (.slice A2 (List.replicate (c.length + 1) (0 : Int)).length c2)).setCell ⟨g, 2, none⟩ (.slice A3 (c ++ [0]).length c3) = wx at *
        have h5 : a.tmps.getD 5 undef = .pointer (some ⟨g, 0, none⟩) := by rw [Array.getD_eq_getD_getElem?, hu]; rfl
        clear I hk hu hv b0 b1 b2 z0 z1 z2 bg o1 o2 o3 hp d12 d13 d23 HB
        obtain ⟨ts, ds⟩ := a
        simp only at E D h5 ⊢
        subst D
        refine hK' _ _ (Met.intro (hJ _ _ ?_))
        (repeat apply Exists.intro)
        refine ⟨⟨g, A1, c1, A2, c2, A3, c3, ?_, LB, H1⟩, congrArg (fun t => Act.mk t []) (E.trans rfl)⟩
        exact h5
    case rest =>
      obtain ⟨g, A1, c1, A2, c2, A3, c3, rfl, LB, HB⟩ := hcut
      go_wp2_with fail
      go_loopw [6] (fun i wr => ∃ (k : Nat) (A1 : Option Addr) (c1 : Nat), k ≤ c.length + 1 ∧ i = .int .i64 (k : Int) ∧ LaB wr (w.heap.size + 1) g k (c.length + 1) (c.length + 1) A1 c1 A2 c2 A3 c3 (lnP k) (List.replicate (c.length + 1) 0) (c ++ [0]) ∧ Below (w.heap.size + 1) wa wr) (fun i _ => c.length + 1 - (intOf i).toNat)
      case atStart => exact ⟨0, A1, c1, by omega, rfl, LB, HB⟩
      case round =>
        clear LB HB
        obtain ⟨k, A1, c1, hk, rfl, LB, HB⟩ := hrel
        obtain ⟨f0, f1, f2, z0, z1, z2, fz⟩ := id LB.bx
        by_cases hlt : k ≤ c.length
        · have i1 : (k : Int) ≤ (c.length : Int) := by omega
          go_wp2_with (at_builtin; refine wp_append1 _ _ _ rfl _ _ rfl (w.heap.size + 1) A1 _ c1 (lnP k) rfl (by rw [lnP_length]) LB.o1 rfl (by rw [lnP_length]; omega) (by have := LB.hg; omega) ?_; rw [← lnP_succ]; intro A4 c4 w3 ho2 hg2 hb2; have HB3 := HB.grown hg2 (by have := HB.size; omega) (fun k hk => by have := LB.o1.ge k hk; omega); have LP := LB.push ho2 hg2 hb2 (k + 1); obtain ⟨y0, y1, y2, v0, v1, v2, vz⟩ := LP.2; clear hg2 hb2 f0 f1 f2 z0 z1 z2 fz)
          go_roundw
          case rel => exact ⟨k + 1, A4, c4, by omega, by go_num, LP.1, HB3.setCell (by have := LB.hg; simp; omega) _⟩
          case measure => simp [intOf] <;> omega
        · have hkn : k = c.length + 1 := by omega
          subst hkn
          have i1 : ¬ ((c.length + 1 : Nat) : Int) ≤ (c.length : Int) := by omega
          obtain ⟨r, rfl, hr1, hr2⟩ := LB.o2.form (by simp)
          obtain ⟨u0, hco⟩ := LB.o2.some_ (k := c.length) (by simp)
          have hfo := LB.o2.frozen c.length
          have LM := LB.mark c.length 1
          rw [show (List.replicate (c.length + 1) (0 : Int)).set c.length 1 = lnW c.length from rfl] at LM
          have n1 : r ≠ g := fun e => LB.g2 (by rw [e]; rfl)
          have n2 : g ≠ r := Ne.symm n1
          have j1 : (0 : Int) ≤ (c.length : Int) := by omega
          have j2 : (c.length : Int) < ((c.length + 1 : Nat) : Int) := by omega
          have HM : Below (w.heap.size + 1) wa (wr.setCell ⟨r, c.length, none⟩ (.int .i64 1)) := HB.setCell hr1 _
          go_wp2_with fail
          generalize wr.setCell ⟨r, c.length, none⟩ (.int .i64 1) = ws at *
          have hl3 : (c ++ [0]).length = c.length + 1 := by simp
          have C := l8Arm_is A1 (lnP (c.length + 1)) c1 (some ⟨r, 0, none⟩) (lnW c.length) c2 A3 (c ++ [0]) c3 (allB c (-99) 99) (line_arm h4) ws ⟨LM.o1.rd, LM.o2.rd, LM.o3.rd, by rw [lnP_length]; omega, by rw [lnW_length]; omega, by rw [hl3]; omega⟩
          rw [lnP_length, lnW_length, hl3] at C
          cases ha : allB c (-99) 99
          · rw [ha] at C
            refine C.mono ?_
            rintro e w5 ⟨rfl, b5⟩
            clear C
            have L5 := LM.below b5
            have H5 := bUp HM b5 (by have := HM.size; omega)
            have b05 := b0.below' H5 (by omega)
            obtain ⟨y0, y1, y2, x0, x1, x2, yz⟩ := id b05
            go_wp2_with fail
            refine bodyPost_ret (v := .tuple #[mkV none 0 0 none 0 0 none 0 0, .bool false]) (by simp [results, Try.results36, go_sem, y0, y1, y2]) rfl ?_
            refine gives_no (lineB_all ha) rfl ?_
            have H6 := h1.trans (H5.mono (by omega))
            with_reducible repeat (first | exact H6 | refine Below.setCell ?_ (by simp) _)
          · rw [ha] at C
            refine C.mono ?_
            rintro e w5 ⟨rfl, b5⟩
            clear C
            have L5 := LM.below b5
            have H5 := bUp HM b5 (by have := HM.size; omega)
            have b05 := b0.below' H5 (by omega)
            obtain ⟨y0, y1, y2, x0, x1, x2, yz⟩ := id b05
            obtain ⟨f0, f1, f2, z0, z1, z2, fz⟩ := id L5.bx
            have k1 : g ≠ w.heap.size := by have := L5.hg; omega
            have k2 : w.heap.size ≠ g := Ne.symm k1
            go_wp2_with fail
            have L6 := L5.other w.heap.size (by omega) (.slice A1 (c.length + 1) c1) (.slice (some ⟨r, 0, none⟩) (c.length + 1) c2) (.slice A3 (c.length + 1) c3)
            refine bodyPost_ret (v := .tuple #[mkV A1 (c.length + 1) c1 (some ⟨r, 0, none⟩) (c.length + 1) c2 A3 (c.length + 1) c3, .bool true]) (by simp [results, Try.results36, go_sem, y0, y1, y2]) rfl ?_
            refine gives_yes (lineB_yes h4 ha) L6 (by omega) rfl ?_
            have H6 := h1.trans (H5.mono (by omega))
            with_reducible repeat (first | exact H6 | refine Below.setCell ?_ (by simp) _)
  · go_enter Try.func36, Try.ntmps36
    go_wp2_with fail
    refine bodyPost_ret (v := .tuple #[mkV none 0 0 none 0 0 none 0 0, .bool false]) (by simp [results, Try.results36, go_sem]) rfl ?_
    refine gives_no (lineB_len h4) rfl ?_
    exact (Below.refl _ _).alloc (Nat.le_refl _) _

/-- Three rows, apart, and apart from a box. -/
structure La3 (w : World) (B g : Nat) (A1 : Option Addr) (c1 : Nat) (A2 : Option Addr) (c2 : Nat) (A3 : Option Addr) (c3 : Nat) (P W F : List Int) : Prop where
  o1 : Own w B A1 c1 P
  o2 : Own w B A2 c2 W
  o3 : Own w B A3 c3 F
  d12 : A1 = none ∨ blk A1 ≠ blk A2
  d13 : A1 = none ∨ blk A1 ≠ blk A3
  d23 : A2 = none ∨ blk A2 ≠ blk A3
  g1 : blk A1 ≠ some g
  g2 : blk A2 ≠ some g
  g3 : blk A3 ≠ some g
  hg : B ≤ g
  hz : g < w.heap.size
section
variable {w w' : World} {B g k n m c1 c2 c3 c4 : Nat} {A1 A2 A3 A4 : Option Addr} {P W F X : List Int}
theorem LaB.three (L : LaB w B g k n m A1 c1 A2 c2 A3 c3 P W F) : La3 w B g A1 c1 A2 c2 A3 c3 P W F := ⟨L.o1, L.o2, L.o3, L.d12, L.d13, L.d23, L.g1, L.g2, L.g3, L.hg, L.bx.2.2.2.2.2.2⟩
theorem La3.below (L : La3 w B g A1 c1 A2 c2 A3 c3 P W F) (hb : Below w.heap.size w w') : La3 w' B g A1 c1 A2 c2 A3 c3 P W F :=
  ⟨L.o1.below hb, L.o2.below hb, L.o3.below hb, L.d12, L.d13, L.d23, L.g1, L.g2, L.g3, L.hg, Nat.lt_of_lt_of_le L.hz hb.size⟩
theorem La3.alloc (L : La3 w B g A1 c1 A2 c2 A3 c3 P W F) (o : Obj) : La3 (w.alloc o) B g A1 c1 A2 c2 A3 c3 P W F := L.below ((Below.refl _ _).alloc (Nat.le_refl _) o)
theorem flip_ne {A A' : Option Addr} (h : A = none ∨ blk A ≠ blk A') : A' = none ∨ blk A' ≠ blk A := by
  rcases h with rfl | h
  · cases A' with
    | none => exact .inl rfl
    | some a => exact .inr (by simp [blk])
  · exact .inr (Ne.symm h)
theorem ne_box (hn : blk A4 = blk A1 ∨ blk A4 = some w.heap.size) (hg : blk A1 ≠ some g) (hz : g < w.heap.size) : blk A4 ≠ some g := by
  rcases hn with h | h
  · rw [h]; exact hg
  · rw [h]; simp; omega
theorem fresh_of (hn : blk A4 = blk A1 ∨ blk A4 = some w.heap.size) : blk A4 = blk A1 ∨ ∃ r, blk A4 = some r ∧ w.heap.size ≤ r := hn.imp id fun h => ⟨_, h, Nat.le_refl _⟩
theorem La3.grow1 (L : La3 w B g A1 c1 A2 c2 A3 c3 P W F) (o : Own w' B A4 c4 X) (hg : w.grownBy w' (blk A1)) (hn : blk A4 = blk A1 ∨ blk A4 = some w.heap.size) : La3 w' B g A4 c4 A2 c2 A3 c3 X W F :=
  ⟨o, L.o2.grown hg (flip_ne L.d12), L.o3.grown hg (flip_ne L.d13), ne_grown (fresh_of hn) L.d12 L.o2, ne_grown (fresh_of hn) L.d13 L.o3, L.d23, ne_box hn L.g1 L.hz, L.g2, L.g3, L.hg, Nat.lt_of_lt_of_le L.hz hg.size⟩
theorem La3.grow2 (L : La3 w B g A1 c1 A2 c2 A3 c3 P W F) (o : Own w' B A4 c4 X) (hg : w.grownBy w' (blk A2)) (hn : blk A4 = blk A2 ∨ blk A4 = some w.heap.size) : La3 w' B g A1 c1 A4 c4 A3 c3 P X F :=
  ⟨L.o1.grown hg L.d12, o, L.o3.grown hg (flip_ne L.d23), flip_ne (ne_grown (fresh_of hn) (flip_ne L.d12) L.o1), L.d13, ne_grown (fresh_of hn) L.d23 L.o3, L.g1, ne_box hn L.g2 L.hz, L.g3, L.hg, Nat.lt_of_lt_of_le L.hz hg.size⟩
theorem lit_ne {A : Option Addr} {c : Nat} {xs : List Int} (o : Own w B A c xs) : (some ⟨w.heap.size, 0, none⟩ : Option Addr) = none ∨ blk (some ⟨w.heap.size, 0, none⟩) ≠ blk A := .inr fun e => by
  have := o.ltk _ e.symm
  simp at this
/-- The two places are stored. -/
theorem La3.put2 {x y : Value} (L : La3 w B g A1 c1 A2 c2 A3 c3 P W F) (b : Bf3 w g x y (.slice A3 m c3)) (k n : Nat) :
    LaB ((w.setCell ⟨g, 0, none⟩ (.slice A1 k c1)).setCell ⟨g, 1, none⟩ (.slice A2 n c2)) B g k n m A1 c1 A2 c2 A3 c3 P W F := by
  obtain ⟨h0, h1, h2, z0, z1, z2, hz⟩ := b
  exact ⟨⟨by simp [go_sem, h0], by simp [go_sem, h1], by simp [go_sem, h2], by simp [go_sem, z0], by simp [go_sem, z1], by simp [go_sem, z2], by simpa [World.size_setCell] using hz⟩,
    (L.o1.setOther _ _ (.inr L.g1)).setOther _ _ (.inr L.g1), (L.o2.setOther _ _ (.inr L.g2)).setOther _ _ (.inr L.g2), (L.o3.setOther _ _ (.inr L.g3)).setOther _ _ (.inr L.g3), L.d12, L.d13, L.d23, L.g1, L.g2, L.g3, L.hg⟩
end

set_option maxRecDepth 20000 in
set_option maxHeartbeats 1000000 in
theorem implLine_c (A : Option Addr) (c : List Int) (cc : Nat) (w : World) (h : Rd w A (ints c)) (hl : c.length ≤ 16777216) :
    Calls Try.prog 35 #[.slice A c.length cc] w (GivesArm w (laP c) (laW c) (laN c) (lineB c)) := by
  by_cases h4 : c.length ≤ 4
  · have h1 : Below w.heap.size w (w.alloc (.cells #[.slice none 0 0, .slice none 0 0, .slice none 0 0] 28)) := (Below.refl _ _).alloc (Nat.le_refl _) _
    have hz : (w.alloc (.cells #[.slice none 0 0, .slice none 0 0, .slice none 0 0] 28)).heap.size = w.heap.size + 1 := by simp
    have hr := h.below h1 (Nat.le_refl _)
    have b0 := Bf3.new w (.slice none 0 0) (.slice none 0 0) (.slice none 0 0) 28
    cases ha : allB c (-99) 99
    · go_enter Try.func35, Try.ntmps35
      go_wp2_with fail
      generalize w.alloc (.cells #[.slice none 0 0, .slice none 0 0, .slice none 0 0] 28) = wa at *
      refine (allWithin_is' A c cc _ ha wa hr hl).mono ?_
      rintro e w2 ⟨rfl, rfl⟩
      obtain ⟨y0, y1, y2, x0, x1, x2, yz⟩ := id b0
      go_wp2_with fail
      refine bodyPost_ret (v := .tuple #[mkV none 0 0 none 0 0 none 0 0, .bool false]) (by simp [results, Try.results35, go_sem, y0, y1, y2]) rfl ?_
      refine gives_no (lineB_all ha) rfl ?_
      with_reducible repeat (first | exact h1 | refine Below.setCell ?_ (by simp) _)
    · go_enter Try.func35, Try.ntmps35
      go_wp2_with fail
      generalize w.alloc (.cells #[.slice none 0 0, .slice none 0 0, .slice none 0 0] 28) = wa at *
      refine (allWithin_is' A c cc _ ha wa hr hl).mono ?_
      rintro e w2 ⟨rfl, rfl⟩
      go_wp2_with fail
      refine (copied_c A c cc wa hr hl).mono ?_
      rintro e w3 ⟨A3, c3, rfl, o3, b3⟩
      have HB3 : Below (w.heap.size + 1) wa w3 := by rw [← hz]; exact b3
      rw [hz] at o3
      clear b3
      have hz3 := HB3.size
      rw [hz] at hz3
      go_wp2_with (at_builtin; refine wp_append1 _ _ _ rfl _ _ rfl (w.heap.size + 1) A3 _ c3 c rfl rfl o3 rfl (by omega) hz3 ?_; intro A4 c4 w4 o4 hg4 hb4; have HB4 := HB3.grown hg4 (by omega) o3.ge; have sz4 := hg4.size; clear hg4 hb4 HB3 o3)
      have n4 : blk A4 ≠ some w4.heap.size := fun e => by have := o4.ltk _ e; omega
      have LB : LaB (w4.alloc (.cells #[.slice none 0 0, .slice none 0 0, .slice A4 (c.length + 1) c4] 28)) (w.heap.size + 1) w4.heap.size 0 0 (c.length + 1) none 0 none 0 A4 c4 (lnP 0) (List.replicate 0 0) (c ++ [0]) :=
        ⟨Bf3.new _ _ _ _ _, Own.nil _ _, Own.nil _ _, o4.alloc _, .inl rfl, .inl rfl, .inl rfl, by simp [blk], by simp [blk], n4, by omega⟩
      have HB : Below (w.heap.size + 1) wa (w4.alloc (.cells #[.slice none 0 0, .slice none 0 0, .slice A4 (c.length + 1) c4] 28)) := HB4.alloc (by omega) _
      clear HB4 o4 n4
      generalize w4.alloc (.cells #[.slice none 0 0, .slice none 0 0, .slice A4 (c.length + 1) c4] 28) = wb at *
      go_loopw [23] (fun i wr => ∃ (k : Nat) (A1 : Option Addr) (c1 : Nat) (A2 : Option Addr) (c2 : Nat), k ≤ c.length + 1 ∧ i = .int .i64 (k : Int) ∧ LaB wr (w.heap.size + 1) w4.heap.size k k (c.length + 1) A1 c1 A2 c2 A4 c4 (lnP k) (List.replicate k 0) (c ++ [0]) ∧ Below (w.heap.size + 1) wa wr) (fun i _ => c.length + 1 - (intOf i).toNat)
      case atStart => exact ⟨0, none, 0, none, 0, by omega, rfl, LB, HB⟩
      case round =>
        clear LB HB
        obtain ⟨k, A1, c1, A2, c2, hk, rfl, LB, HB⟩ := hrel
        have bx := LB.bx
        have L3 := LB.three
        obtain ⟨f0, f1, f2, z0, z1, z2, fz⟩ := id bx
        by_cases hlt : k < c.length + 1
        · have i1 : (k : Int) < ((c.length + 1 : Nat) : Int) := by omega
          go_upto_region 7 with fail
          refine tamed_region (S := fun w' => w'.cell? ⟨w4.heap.size, 0, none⟩ = some (.slice A1 k c1) ∧ w'.cell? ⟨w4.heap.size, 1, none⟩ = some (.slice A2 k c2)) (fun j => j == 14 || j == 17) (by kernel_rfl) ?_
          refine tame0 (k := 0) ?_ rfl (by kernel_rfl) (by kernel_rfl) (by kernel_rfl) (fun _ _ _ h => h) (by kernel_rfl) (fun v => ?_) ?_
          rotate_left
          · (go_simp; all_goals rfl)
          simp only [Act.put, List.setIfInBounds_toArray]
          refine tame0 (k := 1) ?_ rfl (by kernel_rfl) (by kernel_rfl) (by kernel_rfl) (fun _ _ _ h => h) (by kernel_rfl) (fun v => ?_) ?_
          rotate_left
          · (go_simp; all_goals rfl)
          simp only [Act.put]
          refine tame (k := 2) ?_ rfl (by kernel_rfl) (by kernel_rfl) (by kernel_rfl) (by kernel_rfl) (fun _ _ _ h => h) (by kernel_rfl) ⟨f0, f1⟩ (fun v hv => ?_) ?_
          rotate_left
          · (obtain ⟨k1, k2⟩ := hv; go_simp; all_goals rfl)
          simp only [Act.put]
          refine tame0 (k := 3) ?_ rfl (by kernel_rfl) (by kernel_rfl) (by kernel_rfl) (fun _ _ _ h => h) (by kernel_rfl) (fun v => ?_) ?_
          rotate_left
          · (go_simp; all_goals rfl)
          simp only [Act.put]
          refine tame0 (k := 4) ?_ rfl (by kernel_rfl) (by kernel_rfl) (by kernel_rfl) (fun _ _ _ h => h) (by kernel_rfl) (fun v => ?_) ?_
          rotate_left
          · (go_simp; all_goals rfl)
          simp only [Act.put]
          refine tame0 (k := 7) ?_ rfl (by kernel_rfl) (by kernel_rfl) (by kernel_rfl) (fun _ _ _ h => h) (by kernel_rfl) (fun v => ?_) ?_
          rotate_left
          · (go_simp; all_goals rfl)
          simp only [Act.put]
          refine tame0 (k := 8) ?_ rfl (by kernel_rfl) (by kernel_rfl) (by kernel_rfl) (fun _ _ _ h => h) (by kernel_rfl) (fun v => ?_) ?_
          rotate_left
          · (go_simp; all_goals rfl)
          simp only [Act.put]
          refine tame (k := 9) ?_ rfl (by kernel_rfl) (by kernel_rfl) (by kernel_rfl) (by kernel_rfl) (fun _ _ _ h => h) (by kernel_rfl) ⟨f0, f1⟩ (fun v hv => ?_) ?_
          rotate_left
          · (obtain ⟨k1, k2⟩ := hv; go_simp; all_goals rfl)
          simp only [Act.put]
          have e1 : IntKind.i64.wrap ((k : Int) - 1) = (k : Int) - 1 := IntWalk.i64_in _ (by omega)
          have Ld : La3 wr.drew (w.heap.size + 1) w4.heap.size A1 c1 A2 c2 A4 c4 (lnP k) (List.replicate k 0) (c ++ [0]) := L3.below (Below.drew (Below.refl _ _))
          have bd : Bf3 wr.drew w4.heap.size (.slice A1 k c1) (.slice A2 k c2) (.slice A4 (c.length + 1) c4) := bx
          have Hd : Below (w.heap.size + 1) wa wr.drew := HB.drew
          clear bx L3 HB LB
          generalize wr.drew = v0 at *
          refine tame_two (i := 5) (j := 10) (by kernel_rfl) rfl rfl (by kernel_rfl) (by kernel_rfl) ?_ ?_
          · go_simp
            have q5 : Own (v0.alloc (.cells #[.int .i64 ((k : Int) - 1)] 3)) 0 (some ⟨v0.heap.size, 0, none⟩) 1 [((k : Int) - 1)] := (Own.lit v0 [((k : Int) - 1)] (by simp)).mono (by omega)
            have n15 := lit_ne (Ld).o1
            have n25 := lit_ne (Ld).o2
            try simp only [World.size_alloc] at q5 n15 n25
            have L5 := (Ld).alloc (.cells #[.int .i64 ((k : Int) - 1)] 3)
            have b5 := (bd).below ((Below.refl _ _).alloc (Nat.le_refl _) (.cells #[.int .i64 ((k : Int) - 1)] 3))
            have H5 := (Hd).alloc (by have := (Hd).size; omega) (.cells #[.int .i64 ((k : Int) - 1)] 3)
            refine ⟨by first | exact ⟨b5.1, b5.2.1⟩ | exact fun _ => ⟨b5.1, b5.2.1⟩, ?_⟩
            refine tame_two (i := 6) (j := 10) (by kernel_rfl) rfl rfl (by kernel_rfl) (by kernel_rfl) ?_ ?_
            · refine op_append_ints _ (.tmp 28) (.tmp 31) rfl (w.heap.size + 1) A1 k c1 (lnP k) rfl (by rw [lnP_length]) L5.o1 _ 1 1 [((k : Int) - 1)] rfl rfl q5.rd (by rw [lnP_length]; simp; omega) (by have := H5.size; omega) ?_
              intro A5 c5 v6 o6 hg6 hb6
              rw [← lnP_succ] at o6
              have L6 := L5.grow1 o6 hg6 hb6
              have b6 := b5.grown hg6 L5.g1
              have H6 := H5.grown hg6 (by have := H5.size; omega) L5.o1.ge
              refine ⟨by first | exact ⟨b6.1, b6.2.1⟩ | exact fun _ => ⟨b6.1, b6.2.1⟩, ?_⟩
              refine tame0 (k := 12) ?_ rfl (by kernel_rfl) (by kernel_rfl) (by kernel_rfl) (fun _ _ _ h => h) (by kernel_rfl) (fun v => ?_) ?_
              rotate_left
              · (go_simp; all_goals rfl)
              simp only [Act.put, List.setIfInBounds_toArray]
              refine tame0 (k := 13) ?_ rfl (by kernel_rfl) (by kernel_rfl) (by kernel_rfl) (fun _ _ _ h => h) (by kernel_rfl) (fun v => ?_) ?_
              rotate_left
              · (go_simp; all_goals rfl)
              simp only [Act.put]
              refine tame_one (k := 10) (by kernel_rfl) rfl (by kernel_rfl) ?_
              go_simp
              have q10 : Own (v6.alloc (.cells #[.int .i64 0] 3)) 0 (some ⟨v6.heap.size, 0, none⟩) 1 [0] := (Own.lit v6 [0] (by simp)).mono (by omega)
              have n110 := lit_ne (L6).o1
              have n210 := lit_ne (L6).o2
              try simp only [World.size_alloc] at q10 n110 n210
              have L7 := (L6).alloc (.cells #[.int .i64 0] 3)
              have b7 := (b6).below ((Below.refl _ _).alloc (Nat.le_refl _) (.cells #[.int .i64 0] 3))
              have H7 := (H6).alloc (by have := (H6).size; omega) (.cells #[.int .i64 0] 3)
              refine ⟨by first | exact ⟨b7.1, b7.2.1⟩ | exact fun _ => ⟨b7.1, b7.2.1⟩, ?_⟩
              refine tame_one (k := 11) (by kernel_rfl) rfl (by kernel_rfl) ?_
              refine op_append_ints _ (.tmp 35) (.tmp 36) rfl (w.heap.size + 1) A2 k c2 (List.replicate k 0) rfl (by rw [List.length_replicate]) L7.o2 _ 1 1 [0] rfl rfl q10.rd (by rw [List.length_replicate]; simp; omega) (by have := H7.size; omega) ?_
              intro A6 c6 v8 o8 hg8 hb8
              rw [← List.replicate_succ'] at o8
              have L8 := L7.grow2 o8 hg8 hb8
              have b8 := b7.grown hg8 L7.g2
              have H8 := H7.grown hg8 (by have := H7.size; omega) L7.o2.ge
              refine ⟨by first | exact ⟨b8.1, b8.2.1⟩ | exact fun _ => ⟨b8.1, b8.2.1⟩, ?_⟩
              obtain ⟨y0, y1, y2, x0, x1, x2, yz⟩ := id b8
              refine tame_one (k := 14) (by kernel_rfl) rfl (by kernel_rfl) ?_
              go_simp
              refine tame0 (k := 15) ?_ rfl (by kernel_rfl) (by kernel_rfl) (by kernel_rfl) (fun _ _ _ h => h) (by kernel_rfl) (fun v => ?_) ?_
              rotate_left
              · (go_simp; all_goals rfl)
              simp only [Act.put, List.setIfInBounds_toArray]
              refine tame0 (k := 16) ?_ rfl (by kernel_rfl) (by kernel_rfl) (by kernel_rfl) (fun _ _ _ h => h) (by kernel_rfl) (fun v => ?_) ?_
              rotate_left
              · (go_simp; all_goals rfl)
              simp only [Act.put]
              refine tame_one (k := 17) (by kernel_rfl) rfl (by kernel_rfl) ?_
              go_simp
              refine tame_end (by kernel_rfl) ?_
              go_wp2_with fail
              go_roundw
              case rel => exact ⟨k + 1, A5, c5, A6, c6, by omega, by go_num, L8.put2 b8 (k + 1) (k + 1), (H8.setCell (by simp; omega) _).setCell (by simp; omega) _⟩
              case measure => simp [intOf] <;> omega
            · go_simp
              have q10 : Own ((v0.alloc (.cells #[.int .i64 ((k : Int) - 1)] 3)).alloc (.cells #[.int .i64 0] 3)) 0 (some ⟨(v0.alloc (.cells #[.int .i64 ((k : Int) - 1)] 3)).heap.size, 0, none⟩) 1 [0] := (Own.lit (v0.alloc (.cells #[.int .i64 ((k : Int) - 1)] 3)) [0] (by simp)).mono (by omega)
              have q5 := q5.alloc (.cells #[.int .i64 0] 3)
              have n110 := lit_ne (L5).o1
              have n210 := lit_ne (L5).o2
              try simp only [World.size_alloc] at q10 n110 n210
              have L6 := (L5).alloc (.cells #[.int .i64 0] 3)
              have b6 := (b5).below ((Below.refl _ _).alloc (Nat.le_refl _) (.cells #[.int .i64 0] 3))
              have H6 := (H5).alloc (by have := (H5).size; omega) (.cells #[.int .i64 0] 3)
              refine ⟨by first | exact ⟨b6.1, b6.2.1⟩ | exact fun _ => ⟨b6.1, b6.2.1⟩, ?_⟩
              refine tame_one (k := 6) (by kernel_rfl) rfl (by kernel_rfl) ?_
              refine op_append_ints _ (.tmp 28) (.tmp 31) rfl (w.heap.size + 1) A1 k c1 (lnP k) rfl (by rw [lnP_length]) L6.o1 _ 1 1 [((k : Int) - 1)] rfl rfl q5.rd (by rw [lnP_length]; simp; omega) (by have := H6.size; omega) ?_
              intro A5 c5 v7 o7 hg7 hb7
              rw [← lnP_succ] at o7
              have L7 := L6.grow1 o7 hg7 hb7
              have b7 := b6.grown hg7 L6.g1
              have H7 := H6.grown hg7 (by have := H6.size; omega) L6.o1.ge
              have q10 := q10.grown hg7 n110
              refine ⟨by first | exact ⟨b7.1, b7.2.1⟩ | exact fun _ => ⟨b7.1, b7.2.1⟩, ?_⟩
              refine tame0 (k := 12) ?_ rfl (by kernel_rfl) (by kernel_rfl) (by kernel_rfl) (fun _ _ _ h => h) (by kernel_rfl) (fun v => ?_) ?_
              rotate_left
              · (go_simp; all_goals rfl)
              simp only [Act.put, List.setIfInBounds_toArray]
              refine tame0 (k := 13) ?_ rfl (by kernel_rfl) (by kernel_rfl) (by kernel_rfl) (fun _ _ _ h => h) (by kernel_rfl) (fun v => ?_) ?_
              rotate_left
              · (go_simp; all_goals rfl)
              simp only [Act.put]
              refine tame_one (k := 11) (by kernel_rfl) rfl (by kernel_rfl) ?_
              refine op_append_ints _ (.tmp 35) (.tmp 36) rfl (w.heap.size + 1) A2 k c2 (List.replicate k 0) rfl (by rw [List.length_replicate]) L7.o2 _ 1 1 [0] rfl rfl q10.rd (by rw [List.length_replicate]; simp; omega) (by have := H7.size; omega) ?_
              intro A6 c6 v8 o8 hg8 hb8
              rw [← List.replicate_succ'] at o8
              have L8 := L7.grow2 o8 hg8 hb8
              have b8 := b7.grown hg8 L7.g2
              have H8 := H7.grown hg8 (by have := H7.size; omega) L7.o2.ge
              refine ⟨by first | exact ⟨b8.1, b8.2.1⟩ | exact fun _ => ⟨b8.1, b8.2.1⟩, ?_⟩
              obtain ⟨y0, y1, y2, x0, x1, x2, yz⟩ := id b8
              refine tame_one (k := 14) (by kernel_rfl) rfl (by kernel_rfl) ?_
              go_simp
              refine tame0 (k := 15) ?_ rfl (by kernel_rfl) (by kernel_rfl) (by kernel_rfl) (fun _ _ _ h => h) (by kernel_rfl) (fun v => ?_) ?_
              rotate_left
              · (go_simp; all_goals rfl)
              simp only [Act.put, List.setIfInBounds_toArray]
              refine tame0 (k := 16) ?_ rfl (by kernel_rfl) (by kernel_rfl) (by kernel_rfl) (fun _ _ _ h => h) (by kernel_rfl) (fun v => ?_) ?_
              rotate_left
              · (go_simp; all_goals rfl)
              simp only [Act.put]
              refine tame_one (k := 17) (by kernel_rfl) rfl (by kernel_rfl) ?_
              go_simp
              refine tame_end (by kernel_rfl) ?_
              go_wp2_with fail
              go_roundw
              case rel => exact ⟨k + 1, A5, c5, A6, c6, by omega, by go_num, L8.put2 b8 (k + 1) (k + 1), (H8.setCell (by simp; omega) _).setCell (by simp; omega) _⟩
              case measure => simp [intOf] <;> omega
          · go_simp
            have q10 : Own (v0.alloc (.cells #[.int .i64 0] 3)) 0 (some ⟨v0.heap.size, 0, none⟩) 1 [0] := (Own.lit v0 [0] (by simp)).mono (by omega)
            have n110 := lit_ne (Ld).o1
            have n210 := lit_ne (Ld).o2
            try simp only [World.size_alloc] at q10 n110 n210
            have L5 := (Ld).alloc (.cells #[.int .i64 0] 3)
            have b5 := (bd).below ((Below.refl _ _).alloc (Nat.le_refl _) (.cells #[.int .i64 0] 3))
            have H5 := (Hd).alloc (by have := (Hd).size; omega) (.cells #[.int .i64 0] 3)
            refine ⟨by first | exact ⟨b5.1, b5.2.1⟩ | exact fun _ => ⟨b5.1, b5.2.1⟩, ?_⟩
            refine tame_one (k := 5) (by kernel_rfl) rfl (by kernel_rfl) ?_
            go_simp
            have q5 : Own ((v0.alloc (.cells #[.int .i64 0] 3)).alloc (.cells #[.int .i64 ((k : Int) - 1)] 3)) 0 (some ⟨(v0.alloc (.cells #[.int .i64 0] 3)).heap.size, 0, none⟩) 1 [((k : Int) - 1)] := (Own.lit (v0.alloc (.cells #[.int .i64 0] 3)) [((k : Int) - 1)] (by simp)).mono (by omega)
            have q10 := q10.alloc (.cells #[.int .i64 ((k : Int) - 1)] 3)
            have n15 := lit_ne (L5).o1
            have n25 := lit_ne (L5).o2
            try simp only [World.size_alloc] at q5 n15 n25
            have L6 := (L5).alloc (.cells #[.int .i64 ((k : Int) - 1)] 3)
            have b6 := (b5).below ((Below.refl _ _).alloc (Nat.le_refl _) (.cells #[.int .i64 ((k : Int) - 1)] 3))
            have H6 := (H5).alloc (by have := (H5).size; omega) (.cells #[.int .i64 ((k : Int) - 1)] 3)
            refine ⟨by first | exact ⟨b6.1, b6.2.1⟩ | exact fun _ => ⟨b6.1, b6.2.1⟩, ?_⟩
            refine tame_one (k := 6) (by kernel_rfl) rfl (by kernel_rfl) ?_
            refine op_append_ints _ (.tmp 28) (.tmp 31) rfl (w.heap.size + 1) A1 k c1 (lnP k) rfl (by rw [lnP_length]) L6.o1 _ 1 1 [((k : Int) - 1)] rfl rfl q5.rd (by rw [lnP_length]; simp; omega) (by have := H6.size; omega) ?_
            intro A5 c5 v7 o7 hg7 hb7
            rw [← lnP_succ] at o7
            have L7 := L6.grow1 o7 hg7 hb7
            have b7 := b6.grown hg7 L6.g1
            have H7 := H6.grown hg7 (by have := H6.size; omega) L6.o1.ge
            have q10 := q10.grown hg7 n110
            refine ⟨by first | exact ⟨b7.1, b7.2.1⟩ | exact fun _ => ⟨b7.1, b7.2.1⟩, ?_⟩
            refine tame0 (k := 12) ?_ rfl (by kernel_rfl) (by kernel_rfl) (by kernel_rfl) (fun _ _ _ h => h) (by kernel_rfl) (fun v => ?_) ?_
            rotate_left
            · (go_simp; all_goals rfl)
            simp only [Act.put, List.setIfInBounds_toArray]
            refine tame0 (k := 13) ?_ rfl (by kernel_rfl) (by kernel_rfl) (by kernel_rfl) (fun _ _ _ h => h) (by kernel_rfl) (fun v => ?_) ?_
            rotate_left
            · (go_simp; all_goals rfl)
            simp only [Act.put]
            refine tame_one (k := 11) (by kernel_rfl) rfl (by kernel_rfl) ?_
            refine op_append_ints _ (.tmp 35) (.tmp 36) rfl (w.heap.size + 1) A2 k c2 (List.replicate k 0) rfl (by rw [List.length_replicate]) L7.o2 _ 1 1 [0] rfl rfl q10.rd (by rw [List.length_replicate]; simp; omega) (by have := H7.size; omega) ?_
            intro A6 c6 v8 o8 hg8 hb8
            rw [← List.replicate_succ'] at o8
            have L8 := L7.grow2 o8 hg8 hb8
            have b8 := b7.grown hg8 L7.g2
            have H8 := H7.grown hg8 (by have := H7.size; omega) L7.o2.ge
            refine ⟨by first | exact ⟨b8.1, b8.2.1⟩ | exact fun _ => ⟨b8.1, b8.2.1⟩, ?_⟩
            obtain ⟨y0, y1, y2, x0, x1, x2, yz⟩ := id b8
            refine tame_one (k := 14) (by kernel_rfl) rfl (by kernel_rfl) ?_
            go_simp
            refine tame0 (k := 15) ?_ rfl (by kernel_rfl) (by kernel_rfl) (by kernel_rfl) (fun _ _ _ h => h) (by kernel_rfl) (fun v => ?_) ?_
            rotate_left
            · (go_simp; all_goals rfl)
            simp only [Act.put, List.setIfInBounds_toArray]
            refine tame0 (k := 16) ?_ rfl (by kernel_rfl) (by kernel_rfl) (by kernel_rfl) (fun _ _ _ h => h) (by kernel_rfl) (fun v => ?_) ?_
            rotate_left
            · (go_simp; all_goals rfl)
            simp only [Act.put]
            refine tame_one (k := 17) (by kernel_rfl) rfl (by kernel_rfl) ?_
            go_simp
            refine tame_end (by kernel_rfl) ?_
            go_wp2_with fail
            go_roundw
            case rel => exact ⟨k + 1, A5, c5, A6, c6, by omega, by go_num, L8.put2 b8 (k + 1) (k + 1), (H8.setCell (by simp; omega) _).setCell (by simp; omega) _⟩
            case measure => simp [intOf] <;> omega
        · have hkn : k = c.length + 1 := by omega
          subst hkn
          have i1 : ¬ ((c.length + 1 : Nat) : Int) < (c.length + 1 : Nat) := by omega
          obtain ⟨r, rfl, hr1, hr2⟩ := LB.o2.form (by simp)
          obtain ⟨u0, hco⟩ := LB.o2.some_ (k := c.length) (by simp)
          have hfo := LB.o2.frozen c.length
          have LM := LB.mark c.length 1
          rw [show (List.replicate (c.length + 1) (0 : Int)).set c.length 1 = lnW c.length from rfl] at LM
          have n1 : r ≠ w4.heap.size := fun e => LB.g2 (by rw [e]; rfl)
          have n2 : w4.heap.size ≠ r := Ne.symm n1
          have j1 : (0 : Int) ≤ (c.length : Int) := by omega
          have j2 : (c.length : Int) < ((c.length + 1 : Nat) : Int) := by omega
          have HM : Below (w.heap.size + 1) wa (wr.setCell ⟨r, c.length, none⟩ (.int .i64 1)) := HB.setCell hr1 _
          have b05 := b0.below' HM (by omega)
          obtain ⟨y0, y1, y2, x0, x1, x2, yz⟩ := id b05
          have k1 : w4.heap.size ≠ w.heap.size := by omega
          have k2 : w.heap.size ≠ w4.heap.size := Ne.symm k1
          obtain ⟨g0, g1, g2, v0, v1, v2, vz⟩ := id LM.bx
          go_wp2_with fail
          have L6 := LM.other w.heap.size (by omega) (.slice A1 (c.length + 1) c1) (.slice (some ⟨r, 0, none⟩) (c.length + 1) c2) (.slice A4 (c.length + 1) c4)
          refine bodyPost_ret (v := .tuple #[mkV A1 (c.length + 1) c1 (some ⟨r, 0, none⟩) (c.length + 1) c2 A4 (c.length + 1) c4, .bool true]) (by simp [results, Try.results35, go_sem, y0, y1, y2]) rfl ?_
          refine gives_yes (lineB_yes h4 ha) L6 (by omega) rfl ?_
          have H6 := h1.trans (HM.mono (by omega))
          with_reducible repeat (first | exact H6 | refine Below.setCell ?_ (by simp) _)
  · go_enter Try.func35, Try.ntmps35
    go_wp2_with fail
    refine bodyPost_ret (v := .tuple #[mkV none 0 0 none 0 0 none 0 0, .bool false]) (by simp [results, Try.results35, go_sem]) rfl ?_
    refine gives_no (lineB_len h4) rfl ?_
    exact (Below.refl _ _).alloc (Nat.le_refl _) _

end Go.Proofs.Ytfobjkdkjlbkfaa
