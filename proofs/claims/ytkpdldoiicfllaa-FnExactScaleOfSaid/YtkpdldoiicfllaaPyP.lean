/- Arms that are played: what lies at the pointer; the program's ScaleOf on top of newPlaying's contract (a hypothesis here). -/
import Derived.Test.YtkpdldoiicfllaaPlayL
import Derived.Test.YtkpdldoiicfllaaPyW
import Derived.Test.YtkpdldoiicfllaaArmsI
namespace Go.Proofs.Ytkpdldoiicfllaa
open Go.RowKit

/-- What lies at p: the arms, the discount, sums and what is left. (The children and the memo are still to come.) -/
structure PyAt (w : World) (p : Nat) (L : List Mkd) (a b : Int) : Prop where
  arms : ∃ A c, w.cell? ⟨p, 0, none⟩ = some (.slice A L.length c) ∧ RdMs w A L
  va : w.cell? ⟨p, 1, none⟩ = some (.int .i64 a)
  vb : w.cell? ⟨p, 2, none⟩ = some (.int .i64 b)
  sums : ∃ A c, w.cell? ⟨p, 3, none⟩ = some (.slice A L.length c) ∧ RdSS w A (rowsF sumRow L)
  left : ∃ A c, w.cell? ⟨p, 4, none⟩ = some (.slice A L.length c) ∧ RdSS w A (rowsF leftRow L)
def NewPy (L : List Mkd) (a b : Int) : Prop := ∀ (A : Option Addr) (c : Nat) (w : World), RdMs w A L → SzMs L →
  Calls Try.prog 23 #[.slice A L.length c, .int .i64 a, .int .i64 b, .nilFunc] w fun e w' => ∃ p, e = .returned (.pointer (some ⟨p, 0, none⟩)) ∧ PyAt w' p L a b ∧ Below w.heap.size w w'
theorem scaleAt_c {L : List Mkd} {a b : Int} (hok : ArmsOk L a b) {X : Nat → Nat} (hX : AtOk L X) {p : Nat} {w : World} (h : PyAt w p L a b) :
    Calls Try.prog 24 #[.pointer (some ⟨p, 0, none⟩), .agg #[.int .i64 (X 0 : Nat), .int .i64 (X 1 : Nat), .int .i64 (X 2 : Nat)]] w
      (Quietly w (.int .i64 (prTo (rowsF sumRow L) X L.length * pw b (suTo (rowsF leftRow L) X L.length).toNat))) := by
  obtain ⟨A, c, f0, _⟩ := h.arms
  obtain ⟨AS, cS, f3, rS⟩ := h.sums
  obtain ⟨AL, cL, f4, rT⟩ := h.left
  have h0 := hok.a1
  have h1 := hok.ab
  exact scale_c p L.length A c AS cS AL cL _ _ b X w f0 h.vb f3 f4 rS rT (hok.scOk hX) (by omega) hok.b4
set_option maxRecDepth 20000 in
theorem implSc_of (A : Option Addr) (L : List Mkd) (c : Nat) (a b : Int) (hN : ArmsOk L a b → NewPy L a b) (w : World) (h : RdMs w A L) (hs : SzMs L) :
    Calls Try.prog 10 #[.slice A L.length c, .int .i64 a, .int .i64 b] w (Quietly w (.tuple #[.int .i64 (scV L a b), .bool (armsB L a b)])) := by
  cases hq : armsB L a b
  · rw [scV_no hq]
    go_enter Try.func10, Try.ntmps10
    go_wp2_with fail
    refine (areArms_is A L c a b _ hq _ h hs).mono ?_
    rintro e w2 ⟨rfl, b2⟩
    go_wp2
    go_ret2
    exact ⟨rfl, b2⟩
  · rw [scV_yes hq]
    have hok := armsB_iff.1 hq
    have HN := Lib.hid (hN hok)
    have hsc := hok.scale0 L.length (Nat.le_refl _)
    rw [← hsc]
    clear hsc
    generalize hv : prTo (rowsF sumRow L) (fun _ => 0) L.length * pw b (suTo (rowsF leftRow L) (fun _ => 0) L.length).toNat = v
    go_enter Try.func10, Try.ntmps10
    go_wp2_with fail
    refine (areArms_is A L c a b _ hq _ h hs).mono ?_
    rintro e w2 ⟨rfl, b2⟩
    go_wp2_with fail
    refine (HN.out A c _ (h.below b2 (Nat.le_refl _)) hs).mono ?_
    rintro e w3 ⟨p, rfl, hp, b3⟩
    have HB3 := bUp b2 b3 b2.size
    go_wp2_with fail
    refine (scaleAt_c hok hok.at0 hp).mono ?_
    rintro e w4 ⟨rfl, b4⟩
    rw [hv]
    go_wp2
    go_ret2
    exact ⟨rfl, bUp HB3 b4 HB3.size⟩
end Go.Proofs.Ytkpdldoiicfllaa
