/- The weights of the greatest value: the reference's walk. -/
import Derived.Test.YtjnllbmknblecaaBestA
import Derived.Test.YtjnllbmknblecaaLaws
import Derived.StillTailTactics
namespace Go.Proofs.Ytjnllbmknblecaa
open Go.RowKit

set_option maxRecDepth 20000 in
set_option maxHeartbeats 1000000 in
theorem l7Best_c (A : Option Addr) (xss : List (List Int)) (c : Nat) (w : World) (ha : RdSS w A xss) (hL : lawsB xss = true) :
    Calls Try.prog 73 #[.slice A xss.length c] w fun e w' => ∃ g, e = .returned (.slice (some ⟨g, 0, none⟩) 5 5) ∧ Own w' w.heap.size (some ⟨g, 0, none⟩) 5 (best xss) ∧ Below w.heap.size w w' := by
  have hn := (lawsB_yes hL).1
  have HL := Lib.hid hL
  clear hL
  go_enter Try.func73, Try.ntmps73
  go_wp2_with (at_make; refine wp_make_ints _ rfl _ _ rfl _ _ _ _ 5 rfl rfl rfl rfl (by omega) ?_)
  intro w1 ho1 hb1
  have hc1 := ho1.cell (k := 0) (by decide)
  have hf1 := ho1.frozen 0
  have ho2 := (ho1.set 0 1).1
  have hb2 : Below w.heap.size w (w1.setCell ⟨w.heap.size, 0, none⟩ (.int .i64 1)) := hb1.setCell (Nat.le_refl _) _
  go_wp2
  go_loopw [3, 4] (fun s i wr => ∃ (k g : Nat), k ≤ xss.length ∧ i = .int .i64 k ∧ s = .slice (some ⟨g, 0, none⟩) 5 5 ∧ Own wr w.heap.size (some ⟨g, 0, none⟩) 5 (bestK xss k) ∧ Below w.heap.size w wr) (fun _ i _ => xss.length - (intOf i).toNat)
  case atStart => exact ⟨0, _, by omega, rfl, rfl, ho2, hb2⟩
  case round =>
    obtain ⟨k, g, hk, rfl, rfl, ho, hb⟩ := hrel
    clear hc1 hf1 ho1 hb1 ho2 hb2
    by_cases hlt : k < xss.length
    · have hrk := (ha.below hb (Nat.le_refl _)) k hlt
      obtain ⟨a, A', c', rfl, hca, hra⟩ := hrk
      have hl := lawB_yes ((lawsB_yes HL.out).2 k hlt)
      have hll := Lib.hid ((lawsB_yes HL.out).2 k hlt)
      have hbd := Lib.hid (bestK_bd' HL.out k (by omega))
      obtain ⟨hl1, hl2, hl3, _, _⟩ := hl
      have HL3 := Lib.hid hl3
      clear hl3
      have hg := (ho.lt _ rfl).2
      simp at hg
      go_wp2_with (at_make; refine wp_make_ints _ rfl _ _ rfl _ _ _ _ 5 rfl rfl rfl rfl (by omega) ?_)
      intro w2 ho2 hb2
      obtain ⟨wo, rfl⟩ : ∃ wo : World, wo = wr := ⟨_, rfl⟩
      have hz2 : wo.heap.size < w2.heap.size := (ho2.lt _ rfl).2
      have hwo : w.heap.size ≤ wo.heap.size := hb.size
      go_wp2
      go_loopw [6] (fun i wr => ∃ v : Nat, v ≤ 5 ∧ i = .int .i64 v ∧ Own wr wo.heap.size (some ⟨wo.heap.size, 0, none⟩) 5 (inV (bestK xss k) (rowAt xss k) v) ∧ Below wo.heap.size wo wr) (fun i _ => 5 - (intOf i).toNat)
      case atStart => exact ⟨0, by omega, rfl, ho2, hb2⟩
      case round =>
        obtain ⟨v, hv, rfl, ho3, hb3⟩ := hrel
        clear ho2 hb2 hz2
        by_cases hlv : v < 5
        · obtain ⟨w3, rfl⟩ : ∃ w3 : World, w3 = wr := ⟨_, rfl⟩
          have bv := hbd.out.2 v
          have i3 : (0 : Int) ≤ (v : Int) := by omega
          have i4 : (v : Int) < 5 := by omega
          have i7 : (0 : Int) ≤ (k : Int) := by omega
          have i8 : (k : Int) < (xss.length : Int) := by omega
          go_wp2
          go_loopw [7] (fun i wr => ∃ u : Nat, u ≤ (rowAt xss k).length ∧ i = .int .i64 u ∧ Own wr wo.heap.size (some ⟨wo.heap.size, 0, none⟩) 5 (inU (bestK xss k) (rowAt xss k) v (inV (bestK xss k) (rowAt xss k) v) u) ∧ Below wo.heap.size wo wr) (fun i _ => (rowAt xss k).length - (intOf i).toNat)
          case atStart => exact ⟨0, by omega, rfl, ho3, hb3⟩
          case round =>
            obtain ⟨u, hu, rfl, ho4, hb4⟩ := hrel
            clear ho3 hb3
            have hca4 := (hb4.cell (p := a.add k) (cell_lt hca)).trans hca
            by_cases hlu : u < (rowAt xss k).length
            · obtain ⟨b, rfl, hcb⟩ := (hra.below hb4 (Nat.le_refl _)).intN hlu
              have bu := allB_nth HL3.out hlu
              have hbU := inU_bd hbd.out hll.out (inV_bd (by decide) hbd.out hll.out v (by omega)) hlv u (by omega)
              have bm := mul_bd _ _ _ _ bv.1 bv.2 bu.1 bu.2
              have hlen := hbU.1
              have HU := Lib.hid (inU_succ (bestK xss k) (rowAt xss k) v (inV (bestK xss k) (rowAt xss k) v) u)
              have hcn := (ho.below hb4).cellN (k := v) (by rw [hbd.out.1]; omega)
              have hco := ho4.cellN (k := max u v) (by omega)
              have hfo := ho4.frozen (max u v)
              have hst := (ho4.set (max u v) (nth (inU (bestK xss k) (rowAt xss k) v (inV (bestK xss k) (rowAt xss k) v) u) (max u v) + nth (bestK xss k) v * nth (rowAt xss k) u)).1
              have hbs := hb4.setCell (p := ⟨wo.heap.size, max u v, none⟩) (Nat.le_refl _) (.int .i64 (nth (inU (bestK xss k) (rowAt xss k) v (inV (bestK xss k) (rowAt xss k) v) u) (max u v) + nth (bestK xss k) v * nth (rowAt xss k) u))
              have bx := hbU.2 (max u v)
              have bux : (u : Int) * (244140625 * 5) ≤ 5 * (244140625 * 5) := by omega
              have bvx : (v : Int) * (244140625 * 25) ≤ 5 * (244140625 * 25) := by omega
              unfold addAt at HU
              have hM : mxI (u : Int) (v : Int) = ((max u v : Nat) : Int) := by unfold mxI; split <;> omega
              have HM := Lib.hid hM
              have hM0 : (max u v : Nat) < 5 := by omega
              have e1 : IntKind.i64.wrap (nth (bestK xss k) v * nth (rowAt xss k) u) = nth (bestK xss k) v * nth (rowAt xss k) u := IntWalk.i64_in _ (by omega)
              have e2 : IntKind.i64.wrap (nth (inU (bestK xss k) (rowAt xss k) v (inV (bestK xss k) (rowAt xss k) v) u) (max u v) + nth (bestK xss k) v * nth (rowAt xss k) u) = nth (inU (bestK xss k) (rowAt xss k) v (inV (bestK xss k) (rowAt xss k) v) u) (max u v) + nth (bestK xss k) v * nth (rowAt xss k) u := IntWalk.i64_in _ (by omega)
              have i1 : (0 : Int) ≤ ((max u v : Nat) : Int) := by omega
              have i2 : ((max u v : Nat) : Int) < 5 := by omega
              have i5 : (0 : Int) ≤ (u : Int) := by omega
              have i6 : (u : Int) < ((rowAt xss k).length : Int) := by omega
              clear hM hlen
              generalize max u v = m at *
              go_wp2
              refine wp_region_still_tail 24 (by kernel_rfl) (by kernel_rfl) ?_
              simp only [List.take_succ_cons, List.take_zero, List.drop_succ_cons, List.drop_zero]
              iterate 3 still_step
              still_call (l1Most_is _ _ _ HM.out _)
              iterate 3 still_step
              still_call (l1Most_is _ _ _ HM.out _)
              repeat still_step
              refine wpStill_nil ?_
              change wpList _ _ _ _ _ wr.drew
              go_wp2
              go_roundw
              case rel => exact ⟨u + 1, by omega, by go_num, by rw [HU.out]; exact hst, hbs.drew⟩
              case measure => simp [intOf] <;> omega
            · go_wp2
              go_roundw
              case rel => exact ⟨v + 1, by omega, by go_num, by rw [inV_succ, show (rowAt xss k).length = u by omega]; exact ho4, hb4⟩
              case measure => simp [intOf] <;> omega
        · go_wp2
          go_roundw
          case rel =>
            have h5 : v = 5 := by omega
            subst h5
            exact ⟨k + 1, wo.heap.size, by omega, by go_num, rfl, by rw [bestK_succ]; exact ho3.mono hwo, bUp hb hb3 hwo⟩
          case measure => simp [intOf] <;> omega
    · go_wp2
      go_ret
      have hkn : k = xss.length := by omega
      subst hkn
      exact ⟨g, rfl, ho, hb⟩
end Go.Proofs.Ytjnllbmknblecaa
