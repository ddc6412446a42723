/- Words on memory that all walks of this seat use. No program stands here. -/
import Derived.Test.YtnhclpajfejnoaaRows
import Derived.WalkKit
import Derived.ProofKit
import Derived.OpenShut
import Derived.Below
import Derived.Laws.OwnMore
import Derived.Laws.Rows
import Derived.Deep.AppendLies
import Derived.Deep.Draws
import Derived.Deep.Onto
import Derived.Deep.QuietTactic
import Derived.Deep.DeepFit
import Derived.BigQuiet
import Derived.Lib.Hide
import Derived.Outline
import Derived.IntWalk
import Derived.LoopTactic
import Derived.OwnWalk
import Derived.RegionTactic
import Derived.Deep.RegionLaw
import Derived.Maps.AppendAt
import Derived.Carry
namespace Go.Proofs.Ytnhclpajfejnoaa
open Go.RowKit

/-- The cells from an address on read as a list. -/
def Rd (w : World) (A : Option Addr) (cs : List Value) : Prop :=
  ∀ k u, cs[k]? = some u → ∃ ad, A = some ad ∧ w.cell? (ad.add k) = some u
/-- Whole numbers as values. -/
def ints (xs : List Int) : List Value := xs.map (Value.int .i64)

theorem ints_length (xs : List Int) : (ints xs).length = xs.length := by simp [ints]
theorem ints_get {xs : List Int} {k : Nat} {x : Int} (h : xs[k]? = some x) : (ints xs)[k]? = some (.int .i64 x) := by simp [ints, h]
theorem ints_append (xs ys : List Int) : ints (xs ++ ys) = ints xs ++ ints ys := by simp [ints]
theorem ints_drop (xs : List Int) (k : Nat) : ints (xs.drop k) = (ints xs).drop k := by simp [ints]
theorem ints_take (xs : List Int) (k : Nat) : ints (xs.take k) = (ints xs).take k := by simp [ints]
theorem ints_set (xs : List Int) (k : Nat) (x : Int) : (ints xs).set k (.int .i64 x) = ints (xs.set k x) := by simp [ints, List.map_set]
theorem ints_one (xs : List Int) : ∀ u ∈ ints xs, u.oneCell' = true := by
  intro u hu
  obtain ⟨x, _, rfl⟩ := List.mem_map.1 hu
  rfl

theorem block_of_add (a : Addr) (n : Nat) : (a.add n).block = a.block := by unfold Addr.add; split <;> rfl
theorem add_of_add (a : Addr) (i j : Nat) : (a.add i).add j = a.add (i + j) := by
  unfold Addr.add
  by_cases hi : i = 0 <;> by_cases hj : j = 0 <;> simp [hi, hj, Nat.add_assoc]
theorem cell_lt {w : World} {a : Addr} {u : Value} (h : w.cell? a = some u) : a.block < w.heap.size := by
  rcases Nat.lt_or_ge a.block w.heap.size with hlt | hge
  · exact hlt
  · unfold World.cell? at h
    rw [Array.getElem?_eq_none hge] at h
    simp at h

section
variable {w w' : World} {A : Option Addr} {cs : List Value}
theorem Rd.nil (w : World) (A : Option Addr) : Rd w A [] := fun k u h => by simp at h
theorem Rd.at_ {k : Nat} (h : Rd w A cs) (hk : k < cs.length) : ∃ ad, A = some ad ∧ w.cell? (ad.add k) = some cs[k] :=
  h k _ (List.getElem?_eq_getElem hk)
theorem Rd.int {xs : List Int} {k : Nat} (h : Rd w A (ints xs)) (hk : k < xs.length) : ∃ ad, A = some ad ∧ w.cell? (ad.add k) = some (.int .i64 xs[k]) :=
  h k _ (ints_get (List.getElem?_eq_getElem hk))
theorem Rd.keep (h : Rd w A cs) (hk : ∀ p : Addr, p.block < w.heap.size → A.map (·.block) = some p.block → w'.cell? p = w.cell? p) : Rd w' A cs := by
  intro k u hu
  obtain ⟨ad, rfl, hc⟩ := h k u hu
  exact ⟨ad, rfl, (hk _ (cell_lt hc) (by simp [block_of_add])).trans hc⟩
theorem Rd.below {B : Nat} (h : Rd w A cs) (hb : Below B w w') (hB : w.heap.size ≤ B) : Rd w' A cs :=
  h.keep fun _ hp _ => hb.cell (by omega)
theorem Rd.below' {B : Nat} (h : Rd w A cs) (hb : Below B w w') (hB : ∀ ad, A = some ad → ad.block < B) : Rd w' A cs :=
  h.keep fun p _ hp => by
    rcases A with _ | ad
    · simp at hp
    · have := hB ad rfl
      simp at hp
      exact hb.cell (by omega)
theorem Rd.drew (h : Rd w A cs) : Rd w.drew A cs := h
theorem Rd.drewN (h : Rd w A cs) (k : Nat) : Rd (w.drewN k) A cs := h
theorem Rd.alloc (h : Rd w A cs) (o : Obj) : Rd (w.alloc o) A cs := h.keep fun p hp _ => World.cell?_alloc_lt w o p hp
theorem Rd.grown {row : Option Nat} (h : Rd w A cs) (hg : w.grownBy w' row) (hr : ∀ ad, A = some ad → some ad.block ≠ row) : Rd w' A cs :=
  h.keep fun p hp hA => World.cell?_of_block (hg.block p.block hp (fun e => by
    rcases A with _ | ad
    · simp at hA
    · simp at hA
      exact hr ad rfl (by rw [hA]; exact e)))
theorem Rd.of_own {base : Nat} {e : TypeId} {size n c : Nat} (h : w.ownsRow base e size (.slice A n c) n cs) : Rd w A cs := by
  intro k u hu
  have hl : k < n * size := by have := h.1; have := (List.getElem?_eq_some_iff.1 hu).1; omega
  rcases h.2 with ⟨h', rfl⟩ | ⟨g, cap, cur, h', _, hg, _, _, _, htake⟩
  · simp at hl
  · simp only [Value.slice.injEq, true_and] at h'
    obtain ⟨rfl, rfl⟩ := h'
    refine ⟨_, rfl, ?_⟩
    rw [Addr.add_lit, cell_of_row w g _ cur e (0, 0) hg, ← hu, ← htake, List.getElem?_take, if_pos hl]
    simp
theorem Rd.cut {k : Nat} (h : Rd w A cs) : Rd w (A.map (·.add k)) (cs.drop k) := by
  intro j u hu
  rw [List.getElem?_drop] at hu
  obtain ⟨ad, rfl, hc⟩ := h _ u hu
  exact ⟨_, rfl, by rw [add_of_add]; exact hc⟩
theorem Rd.cutIf {xs : List Int} {c : Nat} (h : Rd w A (ints xs)) (hc : xs.length ≤ c) (l : Nat) : Rd w (if c = l then A else A.map fun x => x.add l) (ints (xs.drop l)) := by
  split
  · rw [List.drop_eq_nil_of_le (by omega)]
    exact Rd.nil _ _
  · rw [ints_drop]
    exact h.cut
theorem Rd.takeI {xs : List Int} {k : Nat} (h : Rd w A (ints xs)) : Rd w A (ints (xs.take k)) := by
  intro j u hu
  rw [ints_take, List.getElem?_take] at hu
  split at hu
  · exact h j u hu
  · simp at hu
theorem Rd.take {k : Nat} (h : Rd w A cs) : Rd w A (cs.take k) := by
  intro j u hu
  rw [List.getElem?_take] at hu
  split at hu
  · exact h j u hu
  · simp at hu
end

/-- w' is w but for draws. -/
def Dr (w w' : World) : Prop := ∃ n, w' = w.drewN n
theorem Dr.refl (w : World) : Dr w w := ⟨0, rfl⟩
theorem Dr.drewN {w w' : World} (h : Dr w w') (n : Nat) : Dr w (w'.drewN n) := by
  obtain ⟨m, rfl⟩ := h
  exact ⟨m + n, World.drewN_drewN _ _ _⟩
theorem Dr.drew {w w' : World} (h : Dr w w') : Dr w w'.drew := h.drewN 1
theorem Dr.trans {a b c : World} (h : Dr a b) (k : Dr b c) : Dr a c := by
  obtain ⟨m, rfl⟩ := k
  exact h.drewN m
theorem Rd.dr {w w' : World} {A : Option Addr} {cs : List Value} (h : Rd w A cs) (hd : Dr w w') : Rd w' A cs := by
  obtain ⟨m, rfl⟩ := hd
  exact h
theorem Dr.size {w w' : World} (hd : Dr w w') : w'.heap.size = w.heap.size := by
  obtain ⟨m, rfl⟩ := hd
  rfl
/-- A function that only reads: it answers v, and the world is as it was but for draws. -/
def Pure (w : World) (v : Value) (e : Ending) (w' : World) : Prop := e = .returned v ∧ Dr w w'
/-- A function that makes memory of its own: it answers v; what was there is as it was. -/
def Quietly (w : World) (v : Value) (e : Ending) (w' : World) : Prop := e = .returned v ∧ Below w.heap.size w w'

/-- What is below reads as it did: the two rules of the walk behind a callee that makes memory. -/
theorem bcell {W W1 : World} (hb : Below W.heap.size W W1) : (∀ b o, b < W.heap.size → W1.cell? ⟨b, o, none⟩ = W.cell? ⟨b, o, none⟩) ∧ (∀ b o, b < W.heap.size → W1.frozen? ⟨b, o, none⟩ = W.frozen? ⟨b, o, none⟩) :=
  ⟨fun b o h => hb.cell (p := ⟨b, o, none⟩) h, fun b o h => hb.frozen (p := ⟨b, o, none⟩) h⟩
/-- A contract as a region that draws wants it. -/
theorem qSame {P : Program} {f : FuncId} {args : Array Value} {w : World} {n : Nat} {v : Value}
    (h : Calls P f args (w.drewN n) fun e w' => e = .returned v ∧ w.drewN n = w') : Calls P f args (w.drewN n) fun e w'' => e = .returned v ∧ ∃ m, w'' = w.drewN m :=
  h.mono fun _ _ ⟨he, hm⟩ => ⟨he, n, hm.symm⟩
theorem qDr {P : Program} {f : FuncId} {args : Array Value} {w : World} {n : Nat} {v : Value}
    (h : Calls P f args (w.drewN n) fun e w' => e = .returned v ∧ Dr (w.drewN n) w') : Calls P f args (w.drewN n) fun e w'' => e = .returned v ∧ ∃ m, w'' = w.drewN m :=
  h.mono fun _ _ ⟨he, m, hm⟩ => ⟨he, n + m, by rw [hm, World.drewN_drewN]⟩
theorem qPure {P : Program} {f : FuncId} {args : Array Value} {w : World} {n : Nat} {v : Value}
    (h : Calls P f args (w.drewN n) (Pure (w.drewN n) v)) : Calls P f args (w.drewN n) fun e w'' => e = .returned v ∧ ∃ m, w'' = w.drewN m := qDr h
theorem Dr.below {B : Nat} {a w w' : World} (hd : Dr w w') (h : Below B a w) : Below B a w' := by
  obtain ⟨n, rfl⟩ := hd
  exact ⟨h.os, h.tape, h.output, h.size, h.block⟩
theorem bDrewN {B : Nat} {a w : World} (h : Below B a w) (n : Nat) : Below B a (w.drewN n) := ⟨h.os, h.tape, h.output, h.size, h.block⟩

/-- The number at a place, 0 behind the end. (Not reducible: the walk leaves it as it stands.) -/
def nth (xs : List Int) (k : Nat) : Int := xs.getD k 0
theorem nth_eq {xs : List Int} {k : Nat} (h : k < xs.length) : nth xs k = xs[k] := by simp [nth, h]
theorem Rd.intN {w : World} {A : Option Addr} {xs : List Int} {k : Nat} (h : Rd w A (ints xs)) (hk : k < xs.length) : ∃ ad, A = some ad ∧ w.cell? (ad.add k) = some (.int .i64 (nth xs k)) := by
  rw [nth_eq hk]
  exact h.int hk

/-- A row of whole numbers that is owned from block B on. -/
def Own (w : World) (B : Nat) (A : Option Addr) (c : Nat) (xs : List Int) : Prop := w.ownsRow B 3 1 (.slice A xs.length c) xs.length (ints xs)
def blk (A : Option Addr) : Option Nat := A.map (·.block)

section
variable {w w' : World} {B : Nat} {A : Option Addr} {c : Nat} {xs : List Int}
theorem ownBlock_slice (A : Option Addr) (n c : Nat) : (Value.slice A n c).ownBlock = blk A := by cases A <;> rfl
theorem Own.rd (h : Own w B A c xs) : Rd w A (ints xs) := Rd.of_own h
theorem Own.lt (h : Own w B A c xs) : ∀ ad, A = some ad → B ≤ ad.block ∧ ad.block < w.heap.size := fun ad e => World.ownsRow.lt h _ (by rw [ownBlock_slice, e]; rfl)
theorem grown_of_below (hb : Below w.heap.size w w') (row : Option Nat) : w.grownBy w' row := ⟨hb.os, hb.tape, hb.output, hb.size, fun k hk _ => hb.block k hk⟩
theorem below_of_grown (hg : w.grownBy w' none) : Below w.heap.size w w' := ⟨hg.os, hg.tape, hg.output, hg.size, fun k hk => hg.block k hk (by simp)⟩
theorem Own.below (h : Own w B A c xs) (hb : Below w.heap.size w w') : Own w' B A c xs := by
  cases hA : (Value.slice A xs.length c).ownBlock with
  | none => exact World.ownsRow.kept h (grown_of_below hb none) (.inl hA)
  | some g => exact World.ownsRow.kept h (grown_of_below hb none) (.inr (by rw [hA]; simp))
theorem Own.grown {row : Option Nat} (h : Own w B A c xs) (hg : w.grownBy w' row) (hr : A = none ∨ blk A ≠ row) : Own w' B A c xs :=
  World.ownsRow.kept h hg (by rcases hr with h | h; · left; rw [ownBlock_slice, h]; rfl
                              · right; rw [ownBlock_slice]; exact h)
theorem Own.mono {B' : Nat} (h : Own w B A c xs) (hB : B' ≤ B) : Own w B' A c xs := World.ownsRow.mono h hB
theorem Own.form (h : Own w B A c xs) (hn : 0 < xs.length) : ∃ g, A = some ⟨g, 0, none⟩ ∧ B ≤ g ∧ g < w.heap.size := by
  obtain ⟨g, cap, hv, hb, hlt⟩ := World.ownsRow.form h hn
  injection hv with hA
  exact ⟨g, hA, hb, hlt⟩
theorem Own.drew (h : Own w B A c xs) : Own w.drew B A c xs := h
theorem Own.drewN (h : Own w B A c xs) (n : Nat) : Own (w.drewN n) B A c xs := h
theorem Own.dr (h : Own w B A c xs) (hd : Dr w w') : Own w' B A c xs := by
  obtain ⟨m, rfl⟩ := hd
  exact h
theorem Own.alloc (h : Own w B A c xs) (o : Obj) : Own (w.alloc o) B A c xs := World.ownsRow.alloc h o
theorem Own.cell {g : Nat} (h : Own w B (some ⟨g, 0, none⟩) c xs) {k : Nat} (hk : k < xs.length) : w.cell? ⟨g, k, none⟩ = some (.int .i64 xs[k]) := by
  have := World.ownsRow.cellAt h k (by omega)
  rw [this, ints_get (List.getElem?_eq_getElem hk)]
theorem Own.some_ {g : Nat} (h : Own w B (some ⟨g, 0, none⟩) c xs) {k : Nat} (hk : k < xs.length) : ∃ u, w.cell? ⟨g, k, none⟩ = some u := ⟨_, h.cell hk⟩
theorem Own.cellN {g : Nat} (h : Own w B (some ⟨g, 0, none⟩) c xs) {k : Nat} (hk : k < xs.length) : w.cell? ⟨g, k, none⟩ = some (.int .i64 (nth xs k)) := by
  rw [nth_eq hk]
  exact h.cell hk
theorem Own.ge (h : Own w B A c xs) : ∀ k, blk A = some k → B ≤ k := fun k e => (World.ownsRow.lt h k (by rw [ownBlock_slice]; exact e)).1
theorem Own.lit (w : World) (xs : List Int) (hx : xs.length ≤ 16777216) : Own (w.alloc (.cells (ints xs).toArray 3)) w.heap.size (some ⟨w.heap.size, 0, none⟩) xs.length xs := by
  have := World.ownsRow_lit (base := w.heap.size) (e := 3) (size := 1) w (ints xs).toArray xs.length (Nat.le_refl _) (by unfold maxLen; omega) (by simp [ints])
  simpa [Own] using this
theorem grown_of_alloc {row : Option Nat} {o : Obj} (h : (w.alloc o).grownBy w' row) : w.grownBy w' row := (World.grownBy_alloc w o row).trans h
theorem grown_of_alloc_drew {row : Option Nat} {o : Obj} (h : (w.alloc o).drew.grownBy w' row) : w.grownBy w' row := grown_of_alloc ⟨h.os, h.tape, h.output, h.size, h.block⟩
theorem Own.frozen {g : Nat} (h : Own w B (some ⟨g, 0, none⟩) c xs) (k : Nat) : w.frozen? ⟨g, k, none⟩ = false := World.ownsRow.frozenAt h k
theorem Own.set {g : Nat} (h : Own w B (some ⟨g, 0, none⟩) c xs) (k : Nat) (x : Int) :
    Own (w.setCell ⟨g, k, none⟩ (.int .i64 x)) B (some ⟨g, 0, none⟩) c (xs.set k x) ∧ w.grownBy (w.setCell ⟨g, k, none⟩ (.int .i64 x)) (some g) := by
  have := World.ownsRow.stored h k (.int .i64 x)
  refine ⟨?_, this.2⟩
  unfold Own
  rw [List.length_set, ← ints_set]
  exact this.1
theorem Own.apartR {w1 w2 : World} {B1 : Nat} {A1 A2 : Option Addr} {c1 c2 : Nat} {xs ys : List Int} (h1 : Own w1 B1 A1 c1 xs) (h2 : Own w2 B A2 c2 ys) (hB : w1.heap.size ≤ B) : A2 = none ∨ blk A2 ≠ blk A1 := by
  rcases A2 with _ | a2
  · exact .inl rfl
  · right
    rcases A1 with _ | a1
    · simp [blk]
    · have := (h1.lt _ rfl).2
      have := (h2.lt _ rfl).1
      simp [blk]
      omega
theorem Own.apart {w1 w2 : World} {B1 : Nat} {A1 A2 : Option Addr} {c1 c2 : Nat} {xs ys : List Int} (h1 : Own w1 B1 A1 c1 xs) (h2 : Own w2 B A2 c2 ys) (hB : w1.heap.size ≤ B) : A1 = none ∨ blk A1 ≠ blk A2 := by
  rcases A1 with _ | a1
  · exact .inl rfl
  · right
    rcases A2 with _ | a2
    · simp [blk]
    · have := (h1.lt _ rfl).2
      have := (h2.lt _ rfl).1
      simp [blk]
      omega
end
theorem bUp {B : Nat} {a w w' : World} (h : Below B a w) (hb : Below w.heap.size w w') (hB : B ≤ w.heap.size) : Below B a w' := h.trans (hb.mono hB)

/-- A box of two cells of the call's own. -/
def Bx (W : World) (g : Nat) (x y : Value) : Prop :=
  W.cell? ⟨g, 0, none⟩ = some x ∧ W.cell? ⟨g, 1, none⟩ = some y ∧ W.frozen? ⟨g, 0, none⟩ = false ∧ W.frozen? ⟨g, 1, none⟩ = false ∧ g < W.heap.size
theorem Bx.new (w : World) (x y : Value) (t : TypeId) : Bx (w.alloc (.cells #[x, y] t)) w.heap.size x y := by
  have h : (w.alloc (.cells #[x, y] t)).heap[w.heap.size]? = some (.cells #[x, y] t (0, 0)) := heap_alloc_new w _
  exact ⟨by simp, by simp, frozen_of_row _ _ 0 _ _ h, frozen_of_row _ _ 1 _ _ h, by simp⟩
theorem Bx.below {W W' : World} {g : Nat} {x y : Value} (h : Bx W g x y) (hb : Below W.heap.size W W') : Bx W' g x y :=
  ⟨(hb.cell (p := ⟨g, 0, none⟩) h.2.2.2.2).trans h.1, (hb.cell (p := ⟨g, 1, none⟩) h.2.2.2.2).trans h.2.1, (hb.frozen (p := ⟨g, 0, none⟩) h.2.2.2.2).trans h.2.2.1,
    (hb.frozen (p := ⟨g, 1, none⟩) h.2.2.2.2).trans h.2.2.2.1, Nat.lt_of_lt_of_le h.2.2.2.2 hb.size⟩
theorem Bx.drewN {W : World} {g : Nat} {x y : Value} (h : Bx W g x y) (n : Nat) : Bx (W.drewN n) g x y := h
theorem Bx.dr {W W' : World} {g : Nat} {x y : Value} (h : Bx W g x y) (hd : Dr W W') : Bx W' g x y := by
  obtain ⟨n, rfl⟩ := hd
  exact h
theorem Bx.alloc {W : World} {g : Nat} {x y : Value} (h : Bx W g x y) (o : Obj) : Bx (W.alloc o) g x y := h.below ((Below.refl _ _).alloc (Nat.le_refl _) o)

/-- It answers a row of its own that reads as xs, and ok; what was there is as it was. -/
def Gives (w : World) (xs : List Int) (ok : Bool) (e : Ending) (w' : World) : Prop :=
  ∃ A c, e = .returned (.tuple #[.slice A xs.length c, .bool ok]) ∧ Own w' w.heap.size A c xs ∧ Below w.heap.size w w'
/-- It answers a row of its own that reads as xs. -/
def Row (w : World) (xs : List Int) (e : Ending) (w' : World) : Prop :=
  ∃ A c, e = .returned (.slice A xs.length c) ∧ Own w' w.heap.size A c xs ∧ Below w.heap.size w w'
theorem Own.nil (w : World) (B : Nat) : Own w B none 0 [] := ⟨rfl, .inl ⟨rfl, rfl⟩⟩

/-- n lies between a and b. -/
def inB (n a b : Int) : Bool := decide (a ≤ n) && decide (n ≤ b)
theorem inB_iff {n a b : Int} : inB n a b = true ↔ a ≤ n ∧ n ≤ b := by simp [inB]
theorem mul_bd (x y A B : Int) (hx0 : 0 ≤ x) (hx : x ≤ A) (hy0 : 0 ≤ y) (hy : y ≤ B) : 0 ≤ x * y ∧ x * y ≤ A * B :=
  ⟨Int.mul_nonneg hx0 hy0, Int.mul_le_mul hx hy hy0 (by omega)⟩
theorem int_info : (Try.prog.info? 3).map (fun i => (i.zero, i.size, i.bytes)) = some (some (.int .i64 0), 1, 8) := by kernel_rfl

end Go.Proofs.Ytnhclpajfejnoaa
