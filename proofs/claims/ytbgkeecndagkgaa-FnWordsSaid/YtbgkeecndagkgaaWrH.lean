/- Rows of rows that grow, with room behind each row; the code from a region on. -/
import Derived.Test.YtbgkeecndagkgaaRowN
import Derived.Test.YtbgkeecndagkgaaSS
import Derived.Test.YtbgkeecndagkgaaRowAt
namespace Go.Proofs.Ytbgkeecndagkgaa
open Go.RowKit

/-- The code from region k on: a piece of a body. -/
def firstIs (k : Nat) : Code → Bool
  | .region id _ _ => id == k
  | .seq a _ => firstIs k a
  | _ => false
def restFrom (k : Nat) : Code → Option Code
  | .seq a b => if firstIs k a then some (.seq a b) else
    match restFrom k a with
    | some c => some c
    | none => restFrom k b
  | .cond _ a b =>
    match restFrom k a with
    | some c => some c
    | none => restFrom k b
  | .block _ c => restFrom k c
  | .scope c => restFrom k c
  | .loop c => restFrom k c
  | _ => none
theorem head_info : (Try.prog.info? 24).map (fun i => (i.zero, i.size, i.bytes)) = some (some (.slice none 0 0), 1, 24) := by kernel_rfl
/-- A list of numbers, with its room. -/
def LiesC (w : World) (D : Nat → Prop) (u : Value) (xs : List Int) : Prop :=
  ∃ a c, u = .slice a xs.length c ∧ xs.length ≤ c ∧ Rd w a (ints xs) ∧ ∀ ad, a = some ad → ad.block < w.heap.size ∧ ¬ D ad.block
theorem staysC : Stays LiesC where
  keep := fun {w v D u x} h hk => by
    obtain ⟨a, c, rfl, hc, hr, hd⟩ := h
    refine ⟨a, c, rfl, hc, hr.keep fun p hp hA => ?_, fun ad e => ⟨Nat.lt_of_lt_of_le (hd ad e).1 hk.size, (hd ad e).2⟩⟩
    rcases a with _ | ad
    · simp at hA
    · simp at hA
      exact hk.cell hp (by rw [← hA]; exact (hd ad rfl).2)
  wide := fun {w D D' u x} h hd' => by
    obtain ⟨a, c, rfl, hc, hr, hd⟩ := h
    exact ⟨a, c, rfl, hc, hr, fun ad e => ⟨(hd ad e).1, fun h => (hd ad e).2 (hd' _ (hd ad e).1 h)⟩⟩
  one := fun {w D u x} h => by
    obtain ⟨a, c, rfl, _⟩ := h
    rfl
theorem Own.capC {w : World} {B c : Nat} {A : Option Addr} {xs : List Int} (h : Own w B A c xs) : xs.length ≤ c := by
  rcases h.2 with ⟨h1, h0⟩ | ⟨g, cap, cur, h1, _, _, h2, h3, _⟩
  · omega
  · injection h1 with _ _ e
    omega
theorem Own.liesC {w : World} {B c : Nat} {A : Option Addr} {xs : List Int} {D : Nat → Prop} (h : Own w B A c xs) (hd : ∀ k, blk A = some k → ¬ D k) : LiesC w D (.slice A xs.length c) xs :=
  ⟨A, c, rfl, h.capC, h.rd, fun ad e => ⟨(h.lt ad e).2, hd _ (by rw [e]; rfl)⟩⟩
/-- Rows that are read, with their room. -/
def RdC (w : World) (A : Option Addr) (L : List (List Int)) : Prop :=
  ∀ k, k < L.length → ∃ ad A' c, A = some ad ∧ w.cell? (ad.add k) = some (.slice A' (rowAt L k).length c) ∧ (rowAt L k).length ≤ c ∧ Rd w A' (ints (rowAt L k))
theorem RdC.below {w w' : World} {A : Option Addr} {L : List (List Int)} {B : Nat} (h : RdC w A L) (hb : Below B w w') (hB : w.heap.size ≤ B) : RdC w' A L := by
  intro k hk'
  obtain ⟨ad, A', c, rfl, hc, hn, hr⟩ := h k hk'
  exact ⟨ad, A', c, rfl, (hb.cell (Nat.lt_of_lt_of_le (cell_lt hc) hB)).trans hc, hn, hr.below hb hB⟩
/-- Rows that grow: the heads are the call's own, from v0 on. -/
structure RowsC (v0 w : World) (A : Option Addr) (c : Nat) (H : List Value) (L : List (List Int)) : Prop where
  own : OwnV 24 w v0.heap.size A c H
  hd : HeadsT LiesC w (fun b => blk A = some b) H L.length (rowAt L)
  bel : Below v0.heap.size v0 w
theorem RowsC.nil (v0 : World) : RowsC v0 (v0.alloc (.cells #[] 24)) (some ⟨v0.heap.size, 0, none⟩) 0 [] [] :=
  ⟨OwnV.lit 24 v0 [] (by decide), HeadsT.nil _ _ _, (Below.refl _ _).alloc (Nat.le_refl _) _⟩
theorem RowsC.below {v0 w w' : World} {A : Option Addr} {c : Nat} {H : List Value} {L : List (List Int)} (h : RowsC v0 w A c H L) (hb : Below w.heap.size w w') : RowsC v0 w' A c H L :=
  ⟨h.own.below hb, h.hd.keep staysC (.of_below hb), bUp h.bel hb h.bel.size⟩
theorem rowAt_app {L : List (List Int)} {xs : List Int} : ∀ j, j < L.length → rowAt (L ++ [xs]) j = rowAt L j := fun j hj => by
  rw [rowAt_eq hj, rowAt_eq (by simp; omega), List.getElem_append_left hj]
theorem RowsC.push {v0 w w2 w' : World} {A A2 : Option Addr} {c c2 c3 : Nat} {H : List Value} {L : List (List Int)} {xs : List Int} (h : RowsC v0 w A c H L)
    (hk : Below w.heap.size w w2) {a3 : Option Addr} (ho : Own w2 w.heap.size a3 c3 xs)
    (o : OwnV 24 w' v0.heap.size A2 c2 (H ++ [.slice a3 xs.length c3])) (gr : w2.grownBy w' (blk A)) (t : blk A2 = blk A ∨ ∃ r, blk A2 = some r ∧ w2.heap.size ≤ r) :
    RowsC v0 w' A2 c2 (H ++ [.slice a3 xs.length c3]) (L ++ [xs]) := by
  have hge := h.own.ltk
  have h1 := (h.below hk)
  have l1 : LiesC w2 (fun b => blk A = some b) (.slice a3 xs.length c3) xs := ho.liesC fun b hb hd => by
    have h1 := ho.ge b hb
    have := (hge b hd).2
    omega
  have hcong : HeadsT LiesC w2 (fun b => blk A = some b) H L.length (rowAt (L ++ [xs])) := ⟨h1.hd.len, fun j hj => by
    obtain ⟨v, e1, e2⟩ := h1.hd.at_ j hj
    exact ⟨v, e1, by rw [rowAt_app j hj]; exact e2⟩⟩
  refine ⟨o, ?_, h1.bel.grown gr h1.bel.size fun k e => (hge k e).1⟩
  rw [List.length_append]
  refine (hcong.push staysC gr (fun b hb => hb) t (fun b hb => .inr hb)).snoc (push_keep staysC ?_ gr (fun b hb => hb) t (fun b hb => .inr hb))
  have : rowAt (L ++ [xs]) L.length = xs := by rw [rowAt_eq (by simp)]; simp
  rw [this]
  exact l1
theorem RowsC.rd {v0 w : World} {A : Option Addr} {c : Nat} {H : List Value} {L : List (List Int)} (h : RowsC v0 w A c H L) : RdC w A L := by
  intro k hk
  obtain ⟨g, rfl, _, _⟩ := h.own.form (by rw [h.hd.len]; omega)
  obtain ⟨v, h1, a, c', rfl, hc, h3, _⟩ := h.hd.at_ k hk
  exact ⟨_, a, c', rfl, by rw [Addr.add_lit, Nat.zero_add]; exact h.own.cell h1, hc, h3⟩
end Go.Proofs.Ytbgkeecndagkgaa
