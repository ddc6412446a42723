/- How a slice of boxes that came in reads. -/
import Derived.Test.YtjnllbmknblecaaFrameBox
import Derived.Test.YtjnllbmknblecaaBxsA
import Derived.Deep.Slices
namespace Go.Proofs.Ytjnllbmknblecaa
open Go.ChangeShapes Go.WideShapes Go.ChangeAt Go.RowKit

theorem twoL (l : List Value) (h : l.length = 2) : ∃ a b : Value, l = [a, b] := by
  match l, h with
  | [a, b], _ => exact ⟨a, b, rfl⟩
set_option maxRecDepth 100000 in
theorem box_of_trod {H : Type} {enc : TypeId × Value → H} {W : World} {base n : Nat} {held : Bool} {x y : Value} {d : DataW H × List MemPlace} (h : DataW.trod enc Try.prog W base (fun _ => true) held n 51 [x, y] = some d) :
    ∃ (A : Option Addr) (xs : List Int) (c : Nat) (fee : Int), x = .slice A xs.length c ∧ y = .int .i64 fee ∧ Rd W A (ints xs) ∧ xs.length ≤ 9223372036854775807 := by
  have hS : Try.prog.cellsOf 22 = 1 := by kernel_rfl
  have hI : Try.prog.cellsOf 3 = 1 := by kernel_rfl
  obtain ⟨y0, y1, n1, _, _, t0, t1⟩ := trod_struct2 Try.underlying51 h
  have t0' : DataW.trod enc Try.prog W base (fun _ => true) held n1 22 [x] = some y0 := by simpa [hS] using t0
  have t1' : DataW.trod enc Try.prog W base (fun _ => true) held n1 3 [y] = some y1 := by simpa [hS, hI] using t1
  obtain ⟨A, xs, c, rfl, r, l⟩ := ints_of_trod t0'
  obtain ⟨fee, rfl⟩ := int_of_trod t1'
  exact ⟨A, xs, c, fee, rfl, rfl, r, l⟩
theorem bxs_of_trod {H : Type} {enc : TypeId × Value → H} {W : World} {base n : Nat} {held : Bool} {cs : List Value} {d : DataW H × List MemPlace} (h : DataW.trod enc Try.prog W base (fun _ => true) held n 58 cs = some d) :
    ∃ (A : Option Addr) (L : List Bxd) (c : Nat), cs = [.slice A L.length c] ∧ RdBs W A L ∧ L.length ≤ 9223372036854775807 ∧ LgBs L := by
  have hC : Try.prog.cellsOf 51 = 2 := by kernel_rfl
  rcases Go.Deep.open_slice Try.underlying58 h with ⟨rfl, _⟩ | ⟨a, len, cap, m, n1, D, Pl, rfl, _, hl, hm, hmm, _, hx⟩
  · exact ⟨none, [], 0, rfl, RdBs.nil _ _, by simp, fun k hk => by simp at hk⟩
  · have hcm : m = cap := by simpa using hmm
    subst hcm
    rw [hC] at hx
    have each : ∀ i, i < m → ∃ q : Bxd × (Option Addr × Nat),
        W.cell? (a.add (i * 2)) = some (.slice q.2.1 q.1.w.length q.2.2) ∧ W.cell? (a.add (i * 2 + 1)) = some (.int .i64 q.1.fee) ∧ Rd W q.2.1 (ints q.1.w) ∧ q.1.w.length ≤ 9223372036854775807 := by
      intro i hi
      obtain ⟨cs', h1, h2⟩ := hx i hi
      obtain ⟨_, hlen, hcell⟩ := World.cells?_some h1
      obtain ⟨x, y, rfl⟩ := twoL cs' hlen
      obtain ⟨A1, P, c1, fee, rfl, rfl, r1, l1⟩ := box_of_trod h2
      have e0 := hcell 0 (by omega)
      have e1 := hcell 1 (by omega)
      rw [Go.Deep.add_add] at e0 e1
      exact ⟨(⟨P, fee⟩, (A1, c1)), by simpa using e0, by simpa using e1, r1, l1⟩
    obtain ⟨q, hq⟩ := Go.Deep.choose_lt each
    have hlen : ((List.range len).map fun i => (q i).1).length = len := by simp
    have hat : ∀ k, k < len → bAt ((List.range len).map fun i => (q i).1) k = (q k).1 := fun k hk => by
      simp [bAt, List.getD, hk]
    refine ⟨some a, (List.range len).map fun i => (q i).1, m, by rw [hlen], ⟨(List.range (len * 2)).map fun j => if j % 2 = 0 then .slice (q (j / 2)).2.1 (q (j / 2)).1.w.length (q (j / 2)).2.2 else .int .i64 (q (j / 2)).1.fee, ⟨by simp, fun k hk => ?_⟩, fun j u hu => ?_⟩, by rw [hlen]; unfold maxLen at hm; omega, fun k hk => ?_⟩
    · rw [hlen] at hk
      rw [hat k hk]
      have hq' := (hq k (by omega)).2.2.1
      refine ⟨(q k).2.1, (q k).2.2, ?_, ?_, hq'⟩
      · rw [List.getElem?_map, List.getElem?_range (by omega)]
        simp
      · rw [List.getElem?_map, List.getElem?_range (by omega)]
        have h1 : (k * 2 + 1) % 2 = 1 := by omega
        have h2 : (k * 2 + 1) / 2 = k := by omega
        simp [h1, h2]
    · have hj : j < len * 2 := by
        have := (List.getElem?_eq_some_iff.1 hu).1
        simpa using this
      rw [List.getElem?_map, List.getElem?_range hj] at hu
      obtain ⟨f0, f1, _⟩ := hq (j / 2) (by omega)
      rcases Nat.mod_two_eq_zero_or_one j with hm2 | hm2
      · simp only [hm2, if_true, Option.map_some] at hu
        injection hu with hu
        rw [show j / 2 * 2 = j by omega] at f0
        exact ⟨a, rfl, by rw [f0, hu]⟩
      · simp [hm2] at hu
        rw [show j / 2 * 2 + 1 = j by omega] at f1
        exact ⟨a, rfl, by rw [f1, hu]⟩
    · rw [hlen] at hk
      rw [hat k hk]
      exact (hq k (by omega)).2.2.2
end Go.Proofs.Ytjnllbmknblecaa
