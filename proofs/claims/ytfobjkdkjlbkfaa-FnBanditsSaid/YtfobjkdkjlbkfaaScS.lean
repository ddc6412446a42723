/- The scale of arms: the reference's walk. -/
import Derived.Test.YtfobjkdkjlbkfaaPyA
import Derived.Test.YtfobjkdkjlbkfaaPlaA
import Derived.Test.YtfobjkdkjlbkfaaLvB
namespace Go.Proofs.Ytfobjkdkjlbkfaa
open Go.RowKit

set_option maxRecDepth 20000 in
set_option maxHeartbeats 2000000 in
theorem specSc_c (A : Option Addr) (L : List Mkd) (c : Nat) (a b : Int) (w : World) (h : RdMs w A L) (hs : SzMs L) :
    Calls Try.prog 33 #[.slice A L.length c, .int .i64 a, .int .i64 b] w (Quietly w (.tuple #[.int .i64 (scV L a b), .bool (armsB L a b)])) := by
  have hn := hs.1
  have HR := Lib.hid hs.2
  cases hq : armsB L a b
  · rw [scV_no hq]
    go_enter Try.func33, Try.ntmps33
    go_wp2_with fail
    refine (l8Arms_is A L c a b _ hq _ h hs).mono ?_
    rintro e w2 ⟨rfl, b2⟩
    go_wp2
    go_ret2
    exact ⟨rfl, b2⟩
  · rw [scV_yes hq]
    have hok := armsB_iff.1 hq
    have h3 := hok.n3
    have ha1 := hok.a1
    have hab := hok.ab
    have hb4 := hok.b4
    go_enter Try.func33, Try.ntmps33
    go_wp2_with fail
    refine (l8Arms_is A L c a b _ hq _ h hs).mono ?_
    rintro e w2 ⟨rfl, b2⟩
    clear hs
    go_wp2
    go_loopw [8, 9] (fun p i wr => ∃ k : Nat, k ≤ L.length ∧ i = .int .i64 (k : Int) ∧ p = .int .i64 (scTo L b k) ∧ Below w.heap.size w wr) (fun _ i _ => L.length - (intOf i).toNat)
    case atStart => exact ⟨0, by omega, rfl, rfl, b2⟩
    case round =>
      obtain ⟨v, rfl⟩ : ∃ v : World, v = wr := ⟨_, rfl⟩
      obtain ⟨k, hk, rfl, rfl, HB⟩ := hrel
      by_cases hlt : k < L.length
      · obtain ⟨ad, A1, c1, A2, c2, A3, c3, rfl, q1, q2, q3, r1, r2, r3⟩ := (h.below HB (Nat.le_refl _)) k hlt
        have p2 := cellOff 1 (by omega) q2
        have p3 := cellOff 2 (by omega) q3
        have harm := armB_iff.1 (hok.all k hlt)
        have hn1 := harm.tree.n1
        have g1 := hok.sc3 hk
        have g2 := hok.sc3 (k := k + 1) hlt
        have es : scTo L b (k + 1) = scTo L b k * unit0 L b k := rfl
        have e1 : IntKind.i64.wrap (scTo L b k * unit0 L b k) = scTo L b k * unit0 L b k := IntWalk.i64_in _ (by rw [← es]; omega)
        clear es g1 g2
        go_wp2_with fail
        refine (l8Units_c A1 (mAt L k).P c1 A2 (mAt L k).W c2 A3 (mAt L k).F c3 b _ r1 r2 harm (by omega) hb4 (mAt L k).F.length).mono ?_
        rintro e w5 ⟨A5, c5, rfl, ho, b5⟩
        have HB5 := bUp HB b5 HB.size
        have hul := unitL_length (mAt L k).P (mAt L k).W b
        obtain ⟨g, rfl, _, _⟩ := ho.form (by omega)
        have f0 : w5.cell? ⟨g, 0, none⟩ = some (.int .i64 (unit0 L b k)) := ho.cellN (k := 0) (by omega)
        clear q1 q2 q3 p2 p3 ho hul
        go_wp2_with fail
        go_roundw
        case rel => exact ⟨k + 1, by omega, by go_num, rfl, HB5⟩
        case measure => simp [intOf] <;> omega
      · obtain rfl : k = L.length := by omega
        go_wp2
        go_ret2
        exact ⟨rfl, HB⟩
end Go.Proofs.Ytfobjkdkjlbkfaa
