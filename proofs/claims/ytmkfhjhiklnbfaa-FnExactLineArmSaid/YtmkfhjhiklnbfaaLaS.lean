/- LineArm: the reference's walk. -/
import Derived.Test.YtmkfhjhiklnbfaaLaR
namespace Go.Proofs.Ytmkfhjhiklnbfaa
open Go.RowKit

def laF (B : Nat) (c : List Int) (v : Value) : Nat → Value → World → Prop
  | 0 => isRow B []
  | 1 => isVal B (.int .i64 c.length)
  | 2 => isVal B (.int .i64 (c.length + 1))
  | 3 => isRow B (List.replicate (c.length + 1) 0)
  | 4 => isTwo B [] (List.replicate (c.length + 1) 0)
  | 5 => isVal B v
  | 6 => isRow B c
  | 7 => isRow B [0]
  | 8 => isRow B (c ++ [0])
  | 9 => isThr B [] (List.replicate (c.length + 1) 0) (c ++ [0])
  | 10 => isBox3 B (.slice none 0 0) (.slice none 0 0) (.slice none 0 0)
  | _ => fun _ _ => True
def laU : Nat → Nat
  | 0 => 4 | 1 => 2 | 2 => 3 | 3 => 4 | 4 => 9 | 5 => 6 | 6 => 8 | 7 => 8 | 8 => 9 | 9 => 11 | 10 => 11 | _ => 99
theorem laF_firm (B : Nat) (c : List Int) (v : Value) : ∀ j, j < 11 → Firm B (laF B c v j) := by
  intro j hj
  have hx : j = 0 ∨ j = 1 ∨ j = 2 ∨ j = 3 ∨ j = 4 ∨ j = 5 ∨ j = 6 ∨ j = 7 ∨ j = 8 ∨ j = 9 ∨ j = 10 := by omega
  rcases hx with rfl | rfl | rfl | rfl | rfl | rfl | rfl | rfl | rfl | rfl | rfl
  all_goals first | exact Firm.val _ | exact Firm.row _ | exact Firm.two _ _ | exact Firm.thr _ _ _ | exact Firm.box3 _ _ _
theorem laF_none (B : Nat) (c : List Int) (v : Value) : ∀ j, 11 ≤ j → ∀ x w, laF B c v j x w := by
  intro j hj x w
  match j, hj with
  | j + 11, _ => exact trivial
set_option maxRecDepth 20000 in
set_option maxHeartbeats 1000000 in
theorem specLine_c (A : Option Addr) (c : List Int) (cc : Nat) (w : World) (h : Rd w A (ints c)) (hA : ∀ ad, A = some ad → ad.block < w.heap.size) (hl : c.length ≤ 16777216) :
    Calls Try.prog 7 #[.slice A c.length cc] w (GivesArm w (laP c) (laW c) (laN c) (lineB c)) := by
  by_cases h4 : c.length ≤ 4
  · go_enter Try.func7, Try.ntmps7
    go_wp2_with fail
    go_upto_region 4 with fail
    have h1 : Below w.heap.size w (w.alloc (.cells #[.slice none 0 0, .slice none 0 0, .slice none 0 0] 26)) := (Below.refl _ _).alloc (Nat.le_refl _) _
    have hr := h.below h1 (Nat.le_refl _)
    have hz : (w.alloc (.cells #[.slice none 0 0, .slice none 0 0, .slice none 0 0] 26)).heap.size = w.heap.size + 1 := by simp
    have b0 := Bf3.new w (.slice none 0 0) (.slice none 0 0) (.slice none 0 0) 26
    generalize w.alloc (.cells #[.slice none 0 0, .slice none 0 0, .slice none 0 0] 26) = wa at *
    go_cut [5] (fun s5 wx => ∃ g A1 c1 A2 c2 A3 c3, s5 = .pointer (some ⟨g, 0, none⟩) ∧ LaB wx (w.heap.size + 1) g 0 (c.length + 1) (c.length + 1) A1 c1 A2 c2 A3 c3 [] (List.replicate (c.length + 1) 0) (c ++ [0]) ∧ Below (w.heap.size + 1) wa wx)
    case first =>
      rename_i _ _ _ hJ hK'
      refine wp_region_rows 11 11 (w.heap.size + 1) (by rfl) (laF (w.heap.size + 1) c (.slice A c.length cc)) laU (fun _ v => Below (w.heap.size + 1) wa v) (by kernel_rfl) (by kernel_rfl) (by kernel_rfl) (by decide) (Below.drew (Below.refl _ _)) (by kernel_rfl) (laF_firm _ _ _) (by kernel_rfl) (laF_none _ _ _) ?_ ?_
      · intro hF hno k o hne hko done a w1 I hk
        have hks : k < 12 := (Array.getElem?_eq_some_iff.1 hko).1
        have hx : k = 0 ∨ k = 1 ∨ k = 2 ∨ k = 3 ∨ k = 4 ∨ k = 5 ∨ k = 6 ∨ k = 7 ∨ k = 8 ∨ k = 9 ∨ k = 10 ∨ k = 11 := by omega
        have HB := I.grow
        have hB : w.heap.size + 1 ≤ w1.heap.size := by rw [← hz]; exact HB.size
        rcases hx with rfl | rfl | rfl | rfl | rfl | rfl | rfl | rfl | rfl | rfl | rfl | rfl
        · have := Option.some.inj hko
          subst this
          refine op_lit0 rfl (stp_new I hk hF hno hB (fun h => by cases h) ⟨_, _, rfl, (Own.lit w1 [] (by simp)).mono hB⟩ (HB.alloc hB _) ((Below.refl _ _).alloc (Nat.le_refl _) _) (fun b hb _ => ?_))
          simp [blks, ob] at hb
          omega
        · have := Option.some.inj hko
          subst this
          have e4 := rest_at I (s := 4) (x := .int .i64 (c.length : Int)) (by kernel_rfl) rfl
          exact op_move rfl (eval_tmp e4) (stp_mix I hk hF hno hB (fun h => by cases h) ⟨rfl, by simp [blks, ob]⟩ HB (by simp [blks, ob]))
        · have := Option.some.inj hko
          subst this
          obtain ⟨u, hu, rfl, _⟩ := I.at hk (j := 1) (d := 13) (by kernel_rfl) rfl rfl rfl
          exact op_add rfl (eval_tmp hu) rfl (IntWalk.i64_in _ (by omega)) (stp_mix I hk hF hno hB (fun h => by cases h) ⟨rfl, by simp [blks, ob]⟩ HB (by simp [blks, ob]))
        · have := Option.some.inj hko
          subst this
          obtain ⟨u, hu, rfl, _⟩ := I.at hk (j := 2) (d := 14) (by kernel_rfl) rfl rfl rfl
          refine op_makes w1 (.tmp 14) (.tmp 14) rfl .i64 .i64 _ _ (c.length + 1) (eval_tmp hu) (eval_tmp hu) (by omega) (by omega) (by omega) ?_
          intro w' o' b'
          exact stp_new I hk hF hno hB (fun h => by cases h) ⟨_, _, by rw [List.length_replicate], o'.mono hB⟩ (bUp HB b' hB) b' (fun b hb _ => by simp [blks, ob] at hb; omega)
        · have := Option.some.inj hko
          subst this
          obtain ⟨u, hu, Au, cu, rfl, ou⟩ := I.at hk (j := 0) (d := 12) (by kernel_rfl) rfl rfl rfl
          obtain ⟨v, hv, Av, cv, rfl, ov⟩ := I.at hk (j := 3) (d := 15) (by kernel_rfl) rfl rfl rfl
          have hp := I.pair2 hk (j := 0) (i := 3) (by decide) (by kernel_rfl) (by kernel_rfl) rfl rfl rfl rfl rfl rfl hu hv
          refine op_build2 rfl (eval_tmp hu) (eval_tmp hv) (stp_mix I hk hF hno hB (fun h => by cases h) ⟨_, _, _, _, rfl, ou, ov, apart_ne hp ou⟩ HB (fun b hb _ => ?_))
          rw [blks_two, List.mem_append, mem_blk, mem_blk] at hb
          rcases hb with hb | hb
          · exact eaten hk (i := 0) (by kernel_rfl) rfl rfl rfl hu (by rw [blks_slice, mem_blk]; exact hb)
          · exact eaten hk (i := 3) (by kernel_rfl) rfl rfl rfl hv (by rw [blks_slice, mem_blk]; exact hb)
        · have := Option.some.inj hko
          subst this
          have e4 := rest_at I (s := 0) (x := .slice A c.length cc) (by kernel_rfl) rfl
          have hb : ∀ b ∈ blks (.slice A c.length cc), b < w.heap.size + 1 := by
            intro b hb
            rw [blks_slice, mem_blk] at hb
            rcases A with _ | ad
            · cases hb
            · have := hA ad rfl
              have hb : ad.block = b := by simpa [blk] using hb
              omega
          exact op_move rfl (eval_tmp e4) (stp_mix I hk hF hno hB (fun h => by cases h) ⟨rfl, hb⟩ HB (fun b hb' hb'' => by have := hb b hb'; omega))
        · have := Option.some.inj hko
          subst this
          obtain ⟨u, hu, rfl, _⟩ := I.at hk (j := 5) (d := 17) (by kernel_rfl) rfl rfl rfl
          refine op_call1 rfl hu (by go_simp) (l1Own_c A c cc w1 (hr.below HB (by omega)) hl) ?_
          rintro e w' ⟨A2, c2, rfl, o2, b2⟩
          refine ⟨_, rfl, stp_new I hk hF hno hB (fun h => by cases h) ⟨_, _, rfl, o2.mono hB⟩ (bUp HB b2 hB) b2 (fun b hb _ => ?_)⟩
          rw [blks_slice, mem_blk] at hb
          exact o2.ge b hb
        · have := Option.some.inj hko
          subst this
          refine op_lit1 rfl rfl (stp_new I hk hF hno hB (fun h => by cases h) ⟨_, _, rfl, (Own.lit w1 [0] (by simp)).mono hB⟩ (HB.alloc hB _) ((Below.refl _ _).alloc (Nat.le_refl _) _) (fun b hb _ => ?_))
          simp [blks, ob] at hb
          omega
        · have := Option.some.inj hko
          subst this
          obtain ⟨u, hu, Au, cu, rfl, ou⟩ := I.at hk (j := 6) (d := 18) (by kernel_rfl) rfl rfl rfl
          obtain ⟨v, hv, Av, cv, rfl, ov⟩ := I.at hk (j := 7) (d := 19) (by kernel_rfl) rfl rfl rfl
          refine op_append_ints w1 (.tmp 18) (.tmp 19) rfl (w.heap.size + 1) Au c.length cu c (eval_tmp hu) rfl ou Av 1 cv [0] (eval_tmp hv) rfl ov.rd (by simp; omega) hB ?_
          intro A2 c2 w' h2 h3 h5
          have eat : ∀ b, blk Au = some b → Eaten _ laU done 8 a b := fun b hb => eaten hk (i := 6) (by kernel_rfl) rfl rfl rfl hu (by rw [blks_slice, mem_blk]; exact hb)
          refine stp I hk hF hno hB (row := blk Au) (fun h => by cases h) ⟨_, _, by rw [List.length_append]; rfl, h2⟩ (HB.grown h3 hB ou.ge) h3 (fun b hb _ => ?_) (fun b hb => ⟨ou.ge b hb, eat b hb⟩)
          rw [blks_slice, mem_blk] at hb
          rcases h5 with h5 | h5
          · exact .inr (eat b (by rw [← h5]; exact hb))
          · rw [h5] at hb
            injection hb with hb
            exact .inl (by omega)
        · have := Option.some.inj hko
          subst this
          obtain ⟨u, hu, A1, c1, A2, c2, rfl, o1, o2, d12⟩ := I.at hk (j := 4) (d := 16) (by kernel_rfl) rfl rfl rfl
          obtain ⟨v, hv, A3, c3, rfl, o3⟩ := I.at hk (j := 8) (d := 20) (by kernel_rfl) rfl rfl rfl
          have hp := I.pair2 hk (j := 4) (i := 8) (by decide) (by kernel_rfl) (by kernel_rfl) rfl rfl rfl rfl rfl rfl hu hv
          have hp1 : Apart (w.heap.size + 1) (.slice A1 0 c1) (.slice A3 0 c3) := hp.sub (fun b hb => by rw [blks_two, List.mem_append]; rw [blks_slice] at hb; exact .inl hb) (fun b hb => by rw [blks_slice] at hb ⊢; exact hb)
          have hp2 : Apart (w.heap.size + 1) (.slice A2 0 c2) (.slice A3 0 c3) := hp.sub (fun b hb => by rw [blks_two, List.mem_append]; rw [blks_slice] at hb; exact .inr hb) (fun b hb => by rw [blks_slice] at hb ⊢; exact hb)
          refine op_build3 rfl (eval_tmp hu) (eval_tmp hv) (stp_mix I hk hF hno hB (fun h => by cases h) ⟨_, _, _, _, _, _, rfl, o1, o2, o3, d12, apart_ne hp1 o1, apart_ne hp2 o2⟩ HB (fun b hb _ => ?_))
          rw [blks_thr, ← List.append_assoc, List.mem_append] at hb
          rcases hb with hb | hb
          · exact eaten hk (i := 4) (by kernel_rfl) rfl rfl rfl hu (by rw [blks_two]; exact hb)
          · exact eaten hk (i := 8) (by kernel_rfl) rfl rfl rfl hv (by rw [blks_slice]; exact hb)
        · have := Option.some.inj hko
          subst this
          refine op_box rfl (stp_new I hk hF hno hB (fun h => by cases h) ⟨_, rfl, hB, Bf3.new _ _ _ _ _⟩ (HB.alloc hB _) ((Below.refl _ _).alloc (Nat.le_refl _) _) (fun b hb _ => ?_))
          simp [blks, ob] at hb
          omega
        · exact (hne rfl).elim
      · intro o hko done a w1 I hk
        have := Option.some.inj hko
        subst this
        have HB := I.grow
        have hB : w.heap.size + 1 ≤ w1.heap.size := by rw [← hz]; exact HB.size
        obtain ⟨u, hu, g, rfl, hg, bg⟩ := I.at hk (j := 10) (d := 5) (by kernel_rfl) rfl rfl rfl
        obtain ⟨v, hv, A1, c1, A2, c2, A3, c3, rfl, o1, o2, o3, d12, d13, d23⟩ := I.at hk (j := 9) (d := 21) (by kernel_rfl) rfl rfl rfl
        have hp := I.pair2 hk (j := 9) (i := 10) (by decide) (by kernel_rfl) (by kernel_rfl) rfl rfl rfl rfl rfl rfl hv hu
        have n1 : blk A1 ≠ some g := apart_box (hp.sub (x' := .slice A1 0 c1) (fun b hb => by rw [blks_thr, List.mem_append]; rw [blks_slice] at hb; exact .inl hb) (fun _ h => h)) o1
        have n2 : blk A2 ≠ some g := apart_box (hp.sub (x' := .slice A2 0 c2) (fun b hb => by rw [blks_thr, List.mem_append, List.mem_append]; rw [blks_slice] at hb; exact .inr (.inl hb)) (fun _ h => h)) o2
        have n3 : blk A3 ≠ some g := apart_box (hp.sub (x' := .slice A3 0 c3) (fun b hb => by rw [blks_thr, List.mem_append, List.mem_append]; rw [blks_slice] at hb; exact .inr (.inr hb)) (fun _ h => h)) o3
        have E := act_lit2 I [5, 12, 13, 14, 15, 16, 17, 18, 19, 20, 21] (by kernel_rfl)
        have D := I.defs
        obtain ⟨b0, b1, b2, z0, z1, z2, _⟩ := id bg
        refine op_fill rfl (eval_tmp hu) (eval_tmp hv) rfl b0 b1 b2 z0 z1 z2 ?_
        have H1 : Below (w.heap.size + 1) wa (((w1.setCell ⟨g, 0, none⟩ (.slice A1 ([] : List Int).length c1)).setCell ⟨g, 1, none⟩ (.slice A2 (List.replicate (c.length + 1) (0 : Int)).length c2)).setCell ⟨g, 2, none⟩ (.slice A3 (c ++ [0]).length c3)) := ((HB.setCell hg _).setCell hg _).setCell hg _
        have LB : LaB (((w1.setCell ⟨g, 0, none⟩ (.slice A1 ([] : List Int).length c1)).setCell ⟨g, 1, none⟩ (.slice A2 (List.replicate (c.length + 1) (0 : Int)).length c2)).setCell ⟨g, 2, none⟩ (.slice A3 (c ++ [0]).length c3)) (w.heap.size + 1) g 0 (c.length + 1) (c.length + 1) A1 c1 A2 c2 A3 c3 [] (List.replicate (c.length + 1) 0) (c ++ [0]) := by
          refine ⟨?_, o1.fill n1, o2.fill n2, o3.fill n3, d12, d13, d23, n1, n2, n3, hg⟩
          have := bg.fill (.slice A1 ([] : List Int).length c1) (.slice A2 (List.replicate (c.length + 1) (0 : Int)).length c2) (.slice A3 (c ++ [0]).length c3)
          simpa using this
        generalize ((w1.setCell ⟨g, 0, none⟩ (.slice A1 ([] : List Int).length c1)).setCell ⟨g, 1, none⟩ (.slice A2 (List.replicate (c.length + 1) (0 : Int)).length c2)).setCell ⟨g, 2, none⟩ (.slice A3 (c ++ [0]).length c3) = wx at *
        have h5 : a.tmps.getD 5 undef = .pointer (some ⟨g, 0, none⟩) := by rw [Array.getD_eq_getD_getElem?, hu]; rfl
        clear I hk hu hv b0 b1 b2 z0 z1 z2 bg o1 o2 o3 hp d12 d13 d23 HB
        obtain ⟨ts, ds⟩ := a
        simp only at E D h5 ⊢
        subst D
        refine hK' _ _ (Met.intro (hJ _ _ ?_))
        (repeat apply Exists.intro)
        refine ⟨⟨g, A1, c1, A2, c2, A3, c3, ?_, LB, H1⟩, congrArg (fun t => Act.mk t []) (E.trans rfl)⟩
        exact h5
    case rest =>
      obtain ⟨g, A1, c1, A2, c2, A3, c3, rfl, LB, HB⟩ := hcut
      go_wp2_with fail
      go_loopw [6] (fun i wr => ∃ (k : Nat) (A1 : Option Addr) (c1 : Nat), k ≤ c.length + 1 ∧ i = .int .i64 (k : Int) ∧ LaB wr (w.heap.size + 1) g k (c.length + 1) (c.length + 1) A1 c1 A2 c2 A3 c3 (lnP k) (List.replicate (c.length + 1) 0) (c ++ [0]) ∧ Below (w.heap.size + 1) wa wr) (fun i _ => c.length + 1 - (intOf i).toNat)
      case atStart => exact ⟨0, A1, c1, by omega, rfl, LB, HB⟩
      case round =>
        clear LB HB
        obtain ⟨k, A1, c1, hk, rfl, LB, HB⟩ := hrel
        obtain ⟨f0, f1, f2, z0, z1, z2, fz⟩ := id LB.bx
        by_cases hlt : k ≤ c.length
        · have i1 : (k : Int) ≤ (c.length : Int) := by omega
          go_wp2_with (at_builtin; refine wp_append1 _ _ _ rfl _ _ rfl (w.heap.size + 1) A1 _ c1 (lnP k) rfl (by rw [lnP_length]) LB.o1 rfl (by rw [lnP_length]; omega) (by have := LB.hg; omega) ?_; rw [← lnP_succ]; intro A4 c4 w3 ho2 hg2 hb2; have HB3 := HB.grown hg2 (by have := HB.size; omega) (fun k hk => by have := LB.o1.ge k hk; omega); have LP := LB.push ho2 hg2 hb2 (k + 1); obtain ⟨y0, y1, y2, v0, v1, v2, vz⟩ := LP.2; clear hg2 hb2 f0 f1 f2 z0 z1 z2 fz)
          go_roundw
          case rel => exact ⟨k + 1, A4, c4, by omega, by go_num, LP.1, HB3.setCell (by have := LB.hg; simp; omega) _⟩
          case measure => simp [intOf] <;> omega
        · have hkn : k = c.length + 1 := by omega
          subst hkn
          have i1 : ¬ ((c.length + 1 : Nat) : Int) ≤ (c.length : Int) := by omega
          obtain ⟨r, rfl, hr1, hr2⟩ := LB.o2.form (by simp)
          obtain ⟨u0, hco⟩ := LB.o2.some_ (k := c.length) (by simp)
          have hfo := LB.o2.frozen c.length
          have LM := LB.mark c.length 1
          rw [show (List.replicate (c.length + 1) (0 : Int)).set c.length 1 = lnW c.length from rfl] at LM
          have n1 : r ≠ g := fun e => LB.g2 (by rw [e]; rfl)
          have n2 : g ≠ r := Ne.symm n1
          have j1 : (0 : Int) ≤ (c.length : Int) := by omega
          have j2 : (c.length : Int) < ((c.length + 1 : Nat) : Int) := by omega
          have HM : Below (w.heap.size + 1) wa (wr.setCell ⟨r, c.length, none⟩ (.int .i64 1)) := HB.setCell hr1 _
          go_wp2_with fail
          generalize wr.setCell ⟨r, c.length, none⟩ (.int .i64 1) = ws at *
          have hl3 : (c ++ [0]).length = c.length + 1 := by simp
          have C := l8Arm_is A1 (lnP (c.length + 1)) c1 (some ⟨r, 0, none⟩) (lnW c.length) c2 A3 (c ++ [0]) c3 (allB c (-99) 99) (line_arm h4) ws ⟨LM.o1.rd, LM.o2.rd, LM.o3.rd, by rw [lnP_length]; omega, by rw [lnW_length]; omega, by rw [hl3]; omega⟩
          rw [lnP_length, lnW_length, hl3] at C
          cases ha : allB c (-99) 99
          · rw [ha] at C
            refine C.mono ?_
            rintro e w5 ⟨rfl, b5⟩
            clear C
            have L5 := LM.below b5
            have H5 := bUp HM b5 (by have := HM.size; omega)
            have b05 := b0.below' H5 (by omega)
            obtain ⟨y0, y1, y2, x0, x1, x2, yz⟩ := id b05
            go_wp2_with fail
            refine bodyPost_ret (v := .tuple #[mkV none 0 0 none 0 0 none 0 0, .bool false]) (by simp [results, Try.results7, go_sem, y0, y1, y2]) rfl ?_
            refine gives_no (lineB_all ha) rfl ?_
            have H6 := h1.trans (H5.mono (by omega))
            with_reducible repeat (first | exact H6 | refine Below.setCell ?_ (by simp) _)
          · rw [ha] at C
            refine C.mono ?_
            rintro e w5 ⟨rfl, b5⟩
            clear C
            have L5 := LM.below b5
            have H5 := bUp HM b5 (by have := HM.size; omega)
            have b05 := b0.below' H5 (by omega)
            obtain ⟨y0, y1, y2, x0, x1, x2, yz⟩ := id b05
            obtain ⟨f0, f1, f2, z0, z1, z2, fz⟩ := id L5.bx
            have k1 : g ≠ w.heap.size := by have := L5.hg; omega
            have k2 : w.heap.size ≠ g := Ne.symm k1
            go_wp2_with fail
            have L6 := L5.other w.heap.size (by omega) (.slice A1 (c.length + 1) c1) (.slice (some ⟨r, 0, none⟩) (c.length + 1) c2) (.slice A3 (c.length + 1) c3)
            refine bodyPost_ret (v := .tuple #[mkV A1 (c.length + 1) c1 (some ⟨r, 0, none⟩) (c.length + 1) c2 A3 (c.length + 1) c3, .bool true]) (by simp [results, Try.results7, go_sem, y0, y1, y2]) rfl ?_
            refine gives_yes (lineB_yes h4 ha) L6 (by omega) rfl ?_
            have H6 := h1.trans (H5.mono (by omega))
            with_reducible repeat (first | exact H6 | refine Below.setCell ?_ (by simp) _)
  · go_enter Try.func7, Try.ntmps7
    go_wp2_with fail
    refine bodyPost_ret (v := .tuple #[mkV none 0 0 none 0 0 none 0 0, .bool false]) (by simp [results, Try.results7, go_sem]) rfl ?_
    refine gives_no (lineB_len h4) rfl ?_
    exact (Below.refl _ _).alloc (Nat.le_refl _) _
end Go.Proofs.Ytmkfhjhiklnbfaa
