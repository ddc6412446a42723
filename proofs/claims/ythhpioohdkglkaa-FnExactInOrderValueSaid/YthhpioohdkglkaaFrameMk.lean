/- How a struct of a tree and a list that came in reads. -/
import Derived.Test.YthhpioohdkglkaaFrameBox
import Derived.Test.YthhpioohdkglkaaMk
namespace Go.Proofs.Ythhpioohdkglkaa
open Go.ChangeShapes Go.WideShapes Go.ChangeAt Go.RowKit

theorem three (T : Array Value) (h : T.size = 3) : ∃ a b c : Value, T = #[a, b, c] := by
  obtain ⟨l⟩ := T
  simp only [List.size_toArray] at h
  match l, h with
  | [a, b, c], _ => exact ⟨a, b, c, rfl⟩
theorem mk_of_trod {H : Type} {enc : TypeId × Value → H} {W : World} {base n : Nat} {held : Bool} {x y z : Value} {d : DataW H × List MemPlace} (h : DataW.trod enc Try.prog W base (fun _ => true) held n 35 [x, y, z] = some d) :
    ∃ (A1 : Option Addr) (P : List Int) (c1 : Nat) (A2 : Option Addr) (Q : List Int) (c2 : Nat) (A3 : Option Addr) (F : List Int) (c3 : Nat),
      x = .slice A1 P.length c1 ∧ y = .slice A2 Q.length c2 ∧ z = .slice A3 F.length c3 ∧ Rd W A1 (ints P) ∧ Rd W A2 (ints Q) ∧ Rd W A3 (ints F) ∧
      P.length ≤ 9223372036854775807 ∧ Q.length ≤ 9223372036854775807 ∧ F.length ≤ 9223372036854775807 := by
  have hT : Try.prog.cellsOf 33 = 2 := by kernel_rfl
  have hS : Try.prog.cellsOf 31 = 1 := by kernel_rfl
  obtain ⟨y0, y1, n1, _, _, t0, t1⟩ := trod_struct2 Try.underlying35 h
  have t0' : DataW.trod enc Try.prog W base (fun _ => true) held n1 33 [x, y] = some y0 := by simpa [hT] using t0
  have t1' : DataW.trod enc Try.prog W base (fun _ => true) held n1 31 [z] = some y1 := by simpa [hS] using t1
  obtain ⟨z0, z1, n2, _, _, u0, u1⟩ := trod_struct2 Try.underlying33 t0'
  have u0' : DataW.trod enc Try.prog W base (fun _ => true) held n2 31 [x] = some z0 := by simpa [hS] using u0
  have u1' : DataW.trod enc Try.prog W base (fun _ => true) held n2 31 [y] = some z1 := by simpa [hS] using u1
  obtain ⟨A1, P, c1, rfl, r1, l1⟩ := ints_of_trod u0'
  obtain ⟨A2, Q, c2, rfl, r2, l2⟩ := ints_of_trod u1'
  obtain ⟨A3, F, c3, rfl, r3, l3⟩ := ints_of_trod t1'
  exact ⟨A1, P, c1, A2, Q, c2, A3, F, c3, rfl, rfl, rfl, r1, r2, r3, l1, l2, l3⟩
set_option maxRecDepth 100000 in
theorem open_mk {H : Type} {enc : TypeId × Value → H} {W : World} {base b0 : Nat} {r : Reach} {held : Bool} {v : Value} {d : DataW H} {p : List MemPlace} (hv : Value.okWide Try.prog W r b0 35 v) (h : DataW.Trod enc Try.prog W base (fun _ => true) held 35 v d p) :
    ∃ (A1 : Option Addr) (P : List Int) (c1 : Nat) (A2 : Option Addr) (Q : List Int) (c2 : Nat) (A3 : Option Addr) (F : List Int) (c3 : Nat),
      v = mkV A1 P.length c1 A2 Q.length c2 A3 F.length c3 ∧ Rd W A1 (ints P) ∧ Rd W A2 (ints Q) ∧ Rd W A3 (ints F) ∧
      P.length ≤ 9223372036854775807 ∧ Q.length ≤ 9223372036854775807 ∧ F.length ≤ 9223372036854775807 := by
  obtain ⟨cs, rfl, hsz⟩ := okWide_struct Try.underlying35 hv
  have hC : Try.prog.cellsOf 35 = 3 := by kernel_rfl
  obtain ⟨x, y, z, rfl⟩ := three cs (hsz.trans hC)
  obtain ⟨fuel, hf⟩ := h
  obtain ⟨A1, P, c1, A2, Q, c2, A3, F, c3, rfl, rfl, rfl, hr⟩ := mk_of_trod hf
  exact ⟨A1, P, c1, A2, Q, c2, A3, F, c3, rfl, hr⟩
end Go.Proofs.Ythhpioohdkglkaa
