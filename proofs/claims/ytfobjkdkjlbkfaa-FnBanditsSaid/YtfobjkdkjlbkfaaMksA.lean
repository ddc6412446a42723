/- Slices of structs of three lists (Arm): how they lie in memory; the laws own helpers on them. -/
import Derived.Test.YtfobjkdkjlbkfaaMk2
import Derived.Test.YtfobjkdkjlbkfaaButA
namespace Go.Proofs.Ytfobjkdkjlbkfaa
open Go.RowKit

/-- One struct's three lists. -/
structure Mkd where
  P : List Int
  W : List Int
  F : List Int
instance : Inhabited Mkd := ⟨⟨[], [], []⟩⟩
def mAt (L : List Mkd) (k : Nat) : Mkd := L.getD k ⟨[], [], []⟩
/-- The structs from an address on read as the lists' list. -/
def RdMs (w : World) (A : Option Addr) (L : List Mkd) : Prop :=
  ∀ k, k < L.length → ∃ (ad : Addr) (A1 : Option Addr) (c1 : Nat) (A2 : Option Addr) (c2 : Nat) (A3 : Option Addr) (c3 : Nat), A = some ad ∧
    w.cell? (ad.add (k * 3)) = some (.slice A1 (mAt L k).P.length c1) ∧ w.cell? (ad.add (k * 3 + 1)) = some (.slice A2 (mAt L k).W.length c2) ∧ w.cell? (ad.add (k * 3 + 2)) = some (.slice A3 (mAt L k).F.length c3) ∧
    Rd w A1 (ints (mAt L k).P) ∧ Rd w A2 (ints (mAt L k).W) ∧ Rd w A3 (ints (mAt L k).F)
section
variable {w w' : World} {A : Option Addr} {L : List Mkd}
theorem RdMs.keep (h : RdMs w A L) (hk : ∀ p : Addr, p.block < w.heap.size → w'.cell? p = w.cell? p) : RdMs w' A L := by
  intro k hk'
  obtain ⟨ad, A1, c1, A2, c2, A3, c3, rfl, h1, h2, h3, r1, r2, r3⟩ := h k hk'
  exact ⟨ad, A1, c1, A2, c2, A3, c3, rfl, (hk _ (cell_lt h1)).trans h1, (hk _ (cell_lt h2)).trans h2, (hk _ (cell_lt h3)).trans h3, r1.keep fun p hp _ => hk p hp, r2.keep fun p hp _ => hk p hp, r3.keep fun p hp _ => hk p hp⟩
theorem RdMs.below {B : Nat} (h : RdMs w A L) (hb : Below B w w') (hB : w.heap.size ≤ B) : RdMs w' A L := h.keep fun _ hp => hb.cell (by omega)
theorem RdMs.drewN (h : RdMs w A L) (n : Nat) : RdMs (w.drewN n) A L := h
theorem RdMs.dr (h : RdMs w A L) (hd : Dr w w') : RdMs w' A L := by
  obtain ⟨n, rfl⟩ := hd
  exact h
theorem RdMs.nil (w : World) (A : Option Addr) : RdMs w A [] := fun k hk => by simp at hk
end
theorem adOff (a : Addr) (i j : Nat) (hj : 0 < j) : ({ block := (a.add i).block, off := (a.add i).off + j } : Addr) = a.add (i + j) := by
  unfold Addr.add
  by_cases hi : i = 0 <;> simp [hi, Nat.add_assoc] <;> omega
theorem cellOff {w : World} {a : Addr} {i : Nat} {v : Value} (j : Nat) (hj : 0 < j) (h : w.cell? (a.add (i + j)) = some v) : w.cell? { block := (a.add i).block, off := (a.add i).off + j } = some v := by
  rw [adOff a i j hj]
  exact h
/-- No list is long. -/
def SzMs (L : List Mkd) : Prop := L.length ≤ 1048576 ∧ ∀ k, k < L.length → (mAt L k).P.length ≤ 1048576 ∧ (mAt L k).W.length ≤ 1048576 ∧ (mAt L k).F.length ≤ 1048576
/-- It answers less than 0, or the lists are not long. -/
def SzMsPost (w : World) (L : List Mkd) (e : Ending) (w' : World) : Prop := ∃ r : Int, e = .returned (.int .i64 r) ∧ (r < 0 ∨ (0 ≤ r ∧ SzMs L)) ∧ Below w.heap.size w w'
def LgMs (L : List Mkd) : Prop := ∀ k, k < L.length → (mAt L k).P.length ≤ 9223372036854775807 ∧ (mAt L k).W.length ≤ 9223372036854775807 ∧ (mAt L k).F.length ≤ 9223372036854775807
theorem mk_info : (Try.prog.info? 28).map (fun i => (i.zero, i.size, i.bytes)) = some (some (.agg #[.slice none 0 0, .slice none 0 0, .slice none 0 0]), 3, 72) := by kernel_rfl
/-- The first k structs are copied: their heads lie in the row, their lists behind it. -/
def HalfMs (w : World) (B : Nat) (L : List Mkd) (k : Nat) (cur : List Value) : Prop :=
  ∀ j, j < k → ∃ g1 g2 g3, cur[j * 3]? = some (.slice (some ⟨g1, 0, none⟩) (mAt L j).P.length (mAt L j).P.length) ∧ cur[j * 3 + 1]? = some (.slice (some ⟨g2, 0, none⟩) (mAt L j).W.length (mAt L j).W.length) ∧
    cur[j * 3 + 2]? = some (.slice (some ⟨g3, 0, none⟩) (mAt L j).F.length (mAt L j).F.length) ∧ OwnM w (B + 1) g1 g2 g3 (mAt L j).P (mAt L j).W (mAt L j).F
theorem OwnM.setOther {w : World} {B g1 g2 g3 : Nat} {P W F : List Int} (h : OwnM w B g1 g2 g3 P W F) (p : Addr) (u : Value) (hp : p.block < B) : OwnM (w.setCell p u) B g1 g2 g3 P W F := by
  have b1 : B ≤ g1 := (h.o1.lt _ rfl).1
  have b2 : B ≤ g2 := (h.o2.lt _ rfl).1
  have b3 : B ≤ g3 := (h.o3.lt _ rfl).1
  exact ⟨h.o1.setOther p u (.inr (by simp [blk] <;> omega)), h.o2.setOther p u (.inr (by simp [blk] <;> omega)), h.o3.setOther p u (.inr (by simp [blk] <;> omega)), h.l1, h.l2⟩
theorem HalfMs.step {w w2 : World} {B : Nat} {L : List Mkd} {k : Nat} {cur : List Value} {g1 g2 g3 : Nat} (h : HalfMs w B L k cur) (hc : k * 3 + 2 < cur.length) (hb : Below w.heap.size w w2) (hB : B < w.heap.size)
    (ho : OwnM w2 w.heap.size g1 g2 g3 (mAt L k).P (mAt L k).W (mAt L k).F) (x y z : Value) (hx : x = .slice (some ⟨g1, 0, none⟩) (mAt L k).P.length (mAt L k).P.length) (hy : y = .slice (some ⟨g2, 0, none⟩) (mAt L k).W.length (mAt L k).W.length) (hz : z = .slice (some ⟨g3, 0, none⟩) (mAt L k).F.length (mAt L k).F.length) :
    HalfMs (((w2.setCell ⟨B, k * 3, none⟩ x).setCell ⟨B, k * 3 + 1, none⟩ y).setCell ⟨B, k * 3 + 2, none⟩ z) B L (k + 1) (((cur.set (k * 3) x).set (k * 3 + 1) y).set (k * 3 + 2) z) := by
  intro j hj
  rcases Nat.lt_or_ge j k with hlt | hge
  · obtain ⟨a1, a2, a3, e1, e2, e3, o⟩ := h j hlt
    refine ⟨a1, a2, a3, ?_, ?_, ?_, (((o.below hb).setOther _ _ (Nat.lt_succ_self B)).setOther _ _ (Nat.lt_succ_self B)).setOther _ _ (Nat.lt_succ_self B)⟩
    · rw [List.getElem?_set_ne (by omega), List.getElem?_set_ne (by omega), List.getElem?_set_ne (by omega), e1]
    · rw [List.getElem?_set_ne (by omega), List.getElem?_set_ne (by omega), List.getElem?_set_ne (by omega), e2]
    · rw [List.getElem?_set_ne (by omega), List.getElem?_set_ne (by omega), List.getElem?_set_ne (by omega), e3]
  · obtain rfl : j = k := by omega
    refine ⟨g1, g2, g3, ?_, ?_, ?_, ((((ho.mono (by omega)).setOther _ _ (Nat.lt_succ_self B)).setOther _ _ (Nat.lt_succ_self B)).setOther _ _ (Nat.lt_succ_self B))⟩
    · rw [List.getElem?_set_ne (by omega), List.getElem?_set_ne (by omega), List.getElem?_set_self (by omega), hx]
    · rw [List.getElem?_set_ne (by omega), List.getElem?_set_self (by simp; omega), hy]
    · rw [List.getElem?_set_self (by simp; omega), hz]
end Go.Proofs.Ytfobjkdkjlbkfaa
