/- How a slice of structs of three lists (Arm) that came in reads. -/
import Derived.Test.YthhpioohdkglkaaFrameMk
import Derived.Test.YthhpioohdkglkaaMksA
import Derived.Deep.Slices
namespace Go.Proofs.Ythhpioohdkglkaa
open Go.ChangeShapes Go.WideShapes Go.ChangeAt Go.RowKit

theorem threeL (l : List Value) (h : l.length = 3) : ∃ a b c : Value, l = [a, b, c] := by
  match l, h with
  | [a, b, c], _ => exact ⟨a, b, c, rfl⟩
theorem mks_of_trod {H : Type} {enc : TypeId × Value → H} {W : World} {base n : Nat} {held : Bool} {cs : List Value} {d : DataW H × List MemPlace} (h : DataW.trod enc Try.prog W base (fun _ => true) held n 22 cs = some d) :
    ∃ (A : Option Addr) (L : List Mkd) (c : Nat), cs = [.slice A L.length c] ∧ RdMs W A L ∧ L.length ≤ 9223372036854775807 ∧ LgMs L := by
  have hC : Try.prog.cellsOf 35 = 3 := by kernel_rfl
  rcases Go.Deep.open_slice Try.underlying22 h with ⟨rfl, _⟩ | ⟨a, len, cap, m, n1, D, Pl, rfl, _, hl, hm, hmm, _, hx⟩
  · exact ⟨none, [], 0, rfl, RdMs.nil _ _, by simp, fun k hk => by simp at hk⟩
  · have hcm : m = cap := by simpa using hmm
    subst hcm
    rw [hC] at hx
    have each : ∀ i, i < m → ∃ q : Mkd × (Option Addr × Nat) × (Option Addr × Nat) × (Option Addr × Nat),
        W.cell? (a.add (i * 3)) = some (.slice q.2.1.1 q.1.P.length q.2.1.2) ∧ W.cell? (a.add (i * 3 + 1)) = some (.slice q.2.2.1.1 q.1.W.length q.2.2.1.2) ∧ W.cell? (a.add (i * 3 + 2)) = some (.slice q.2.2.2.1 q.1.F.length q.2.2.2.2) ∧
        Rd W q.2.1.1 (ints q.1.P) ∧ Rd W q.2.2.1.1 (ints q.1.W) ∧ Rd W q.2.2.2.1 (ints q.1.F) ∧ q.1.P.length ≤ 9223372036854775807 ∧ q.1.W.length ≤ 9223372036854775807 ∧ q.1.F.length ≤ 9223372036854775807 := by
      intro i hi
      obtain ⟨cs', h1, h2⟩ := hx i hi
      obtain ⟨_, hlen, hcell⟩ := World.cells?_some h1
      obtain ⟨x, y, z, rfl⟩ := threeL cs' hlen
      obtain ⟨A1, P, c1, A2, Q, c2, A3, F, c3, rfl, rfl, rfl, r1, r2, r3, l1, l2, l3⟩ := mk_of_trod h2
      have e0 := hcell 0 (by omega)
      have e1 := hcell 1 (by omega)
      have e2 := hcell 2 (by omega)
      rw [Go.Deep.add_add] at e0 e1 e2
      exact ⟨(⟨P, Q, F⟩, (A1, c1), (A2, c2), (A3, c3)), by simpa using e0, by simpa using e1, by simpa using e2, r1, r2, r3, l1, l2, l3⟩
    obtain ⟨q, hq⟩ := Go.Deep.choose_lt each
    have hlen : ((List.range len).map fun i => (q i).1).length = len := by simp
    have hat : ∀ k, k < len → mAt ((List.range len).map fun i => (q i).1) k = (q k).1 := fun k hk => by
      simp [mAt, List.getD, hk]
    refine ⟨some a, (List.range len).map fun i => (q i).1, m, by rw [hlen], fun k hk => ?_, by rw [hlen]; unfold maxLen at hm; omega, fun k hk => ?_⟩
    · rw [hlen] at hk
      obtain ⟨f0, f1, f2, r1, r2, r3, _⟩ := hq k (by omega)
      rw [hat k hk]
      exact ⟨a, _, _, _, _, _, _, rfl, f0, f1, f2, r1, r2, r3⟩
    · rw [hlen] at hk
      rw [hat k hk]
      exact (hq k (by omega)).2.2.2.2.2.2
end Go.Proofs.Ythhpioohdkglkaa
