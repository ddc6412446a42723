/- Boxes opened in any order: the program. (Written by gen_bbi.py.) -/
import Derived.Test.YtjnllbmknblecaaBbL
import Derived.Test.YtjnllbmknblecaaFrac
import Derived.WalkSpells
namespace Go.Proofs.Ytjnllbmknblecaa
open Go.RowKit

theorem OwnX.below {w w' : World} {B n c : Nat} {A : Option Addr} {cs : List Value} (h : OwnX w B A n c cs) (hb : Below w.heap.size w w') : OwnX w' B A n c cs := row_below h hb
theorem OwnX.ge {w : World} {B n c : Nat} {A : Option Addr} {cs : List Value} (h : OwnX w B A n c cs) : ∀ k, blk A = some k → B ≤ k := fun k e => (World.ownsRow.lt h k (by rw [ownBlock_slice]; exact e)).1
theorem OwnX.lit (w : World) : OwnX (w.alloc (.cells #[] 54)) w.heap.size (some ⟨w.heap.size, 0, none⟩) 0 0 [] := by
  have := World.ownsRow_lit (base := w.heap.size) (e := 54) (size := 2) w #[] 0 (Nat.le_refl _) (by unfold maxLen; omega) (by simp)
  simpa [OwnX] using this
section
variable {ops : Array Oper} {rest : List Oper} {o : Oper} {a : Act} {Q : Exit → Act → World → Prop}
set_option maxRecDepth 10000 in
/-- 'append(xs, ys...)' on a row of boxes of the call's own. -/
theorem op_append_box {K : Act → World → Prop} (w : World) (s x : Operand) (ho : o.op = .call { callee := .builtin .append, args := #[s, x], argTypes := #[61, 61] })
    (B : Nat) (A : Option Addr) (n c : Nat) (cs : List Value) (hs : a.eval s = .slice A n c) (hown : OwnX w B A n c cs)
    (ad : Addr) (m c' : Nat) (ds : List Value) (hx : a.eval x = .slice (some ad) m c') (hm : ds.length = m * 2) (hr : ∀ j u, ds[j]? = some u → w.cell? (ad.add j) = some u) (h1 : ∀ u ∈ ds, u.oneCell' = true)
    (h63 : n + m ≤ 65536) (hB : B ≤ w.heap.size)
    (h : ∀ A2 c2 w', OwnX w' B A2 (n + m) c2 (cs ++ ds) → w.grownBy w' (blk A) → K (a.put o.dst (.slice A2 (n + m) c2)) w') :
    o.wp Try.prog a w K Q := by
  obtain ⟨i0, hi, hz0, hz1, hz2⟩ := info_parts box_info
  obtain ⟨v', w', hrun, h2, h3, _, _⟩ := run_append_own_at (P := Try.prog) w B 61 o.type 54 i0 _ 2 32 Try.underlying61 hi hz0 hz1 hz2 rfl (by omega)
    _ n cs hown ad m c' ds hm hr h1 (by unfold maxLen; omega) (by omega) hB
  rw [ownBlock_slice] at h3
  obtain ⟨A2, c2, rfl⟩ : ∃ A2 c2, v' = .slice A2 (n + m) c2 := by
    rcases h2.2 with ⟨h, h0⟩ | ⟨g, cap, _, h, _⟩
    · exact ⟨none, 0, by rw [h, h0]⟩
    · exact ⟨_, _, h⟩
  unfold Oper.wp execOp
  simp only [ho, resolve, invoke, builtin, Sem.run_bind, Sem.run_pure, Result.andThen_ok, List.map_toArray, List.map_cons, List.map_nil, hs, hx, hrun]
  exact h A2 c2 w' h2 h3
theorem wp_append_box (w : World) (hgd : o.guard = none) (s x : Operand) (ho : o.op = .call { callee := .builtin .append, args := #[s, x], argTypes := #[61, 61] })
    (B : Nat) (A : Option Addr) (n c : Nat) (cs : List Value) (hs : a.eval s = .slice A n c) (hown : OwnX w B A n c cs)
    (ad : Addr) (m c' : Nat) (ds : List Value) (hx : a.eval x = .slice (some ad) m c') (hm : ds.length = m * 2) (hr : ∀ j u, ds[j]? = some u → w.cell? (ad.add j) = some u) (h1 : ∀ u ∈ ds, u.oneCell' = true)
    (h63 : n + m ≤ 65536) (hB : B ≤ w.heap.size)
    (h : ∀ A2 c2 w', OwnX w' B A2 (n + m) c2 (cs ++ ds) → w.grownBy w' (blk A) → wpList Try.prog ops Q rest (a.put o.dst (.slice A2 (n + m) c2)) w') :
    wpList Try.prog ops Q (o :: rest) a w :=
  wpList_plain hgd fun _ hK => op_append_box w s x ho B A n c cs hs hown ad m c' ds hx hm hr h1 h63 hB fun A2 c2 w' h2 h3 => hK _ _ (h A2 c2 w' h2 h3)
end
theorem slCloneB_c (ad : Addr) (n c : Nat) (cs : List Value) (w : World) (ha : ∀ j u, cs[j]? = some u → w.cell? (ad.add j) = some u) (hl : cs.length = n * 2) (h1 : ∀ u ∈ cs, u.oneCell' = true) (hn : n ≤ 1000) :
    Calls Try.prog 109 #[.slice (some ad) n c] w fun e w' => ∃ A2 c2, e = .returned (.slice A2 n c2) ∧ OwnX w' w.heap.size A2 n c2 cs ∧ Below w.heap.size w w' := by
  have q1 := fun (w : World) => Lib.run_eql_slice_nil (P := Try.prog) (w := w)
  have HS : ∀ j u, cs[j]? = some u → (w.alloc (.cells #[] 54)).cell? (ad.add j) = some u := fun j u hu => by
    have h := ha j u hu
    exact (World.cell?_alloc_lt w _ _ (cell_lt h)).trans h
  go_enter Try.func109, Try.ntmps109
  go_wp2_with (at_builtin; refine wp_append_box _ rfl _ _ rfl w.heap.size _ 0 0 [] rfl (OwnX.lit w) ad n c cs rfl hl HS h1 (by omega) (by simp) ?_; intro A2 c2 w2 ho2 hg2; rw [Nat.zero_add, List.nil_append] at ho2)
  go_ret
  exact ⟨A2, c2, by first | rfl | simp, ho2, (grown_of_alloc hg2 |> fun h => (Below.refl _ _).grown h (Nat.le_refl _) (by simp [blk]))⟩
set_option maxRecDepth 20000 in
set_option maxHeartbeats 1000000 in
theorem scaleB_c (A : Option Addr) (L : List Bxd) (c : Nat) (w : World) (h : RdBs w A L) (hok : BxOk L) :
    Calls Try.prog 90 #[.slice A L.length c] w (Quietly w (.int .i64 (scB L))) := by
  have hn := hok.1
  go_enter Try.func90, Try.ntmps90
  go_wp2
  go_loopw [3, 8] (fun o i wr => ∃ k : Nat, k ≤ L.length ∧ i = .int .i64 (k : Int) ∧ o = .int .i64 (scK L k) ∧ Below w.heap.size w wr) (fun _ i _ => L.length - (intOf i).toNat)
  case atStart => exact ⟨0, by omega, rfl, rfl, Below.refl _ _⟩
  case round =>
    obtain ⟨v, rfl⟩ : ∃ v : World, v = wr := ⟨_, rfl⟩
    obtain ⟨k, hk, rfl, rfl, HB⟩ := hrel
    by_cases hlt : k < L.length
    · obtain ⟨a, A1, c1, rfl, q1, q2, r1⟩ := (h.below HB).at_ hlt
      have q2' := cellOffB 1 (by omega) q2
      have g1 := scK_bd hok k hk
      have g2 := scK_bd hok (k + 1) hlt
      have p1 := pow25 k (by omega)
      have p2 := pow25 (k + 1) (by omega)
      obtain ⟨l1, l2, l3, l4, l5⟩ := lawB_yes (hok.2 k hlt).1
      have es : scK L (k + 1) = scK L k * sm (bAt L k).w := rfl
      rw [es] at g2
      have e1 : IntKind.i64.wrap (scK L k * sm (bAt L k).w) = scK L k * sm (bAt L k).w := IntWalk.i64_in _ (by omega)
      have ES := Lib.hid es
      have HB1 : Below v.heap.size v (v.alloc (.cells #[.slice A1 (bAt L k).w.length c1, .int .i64 (bAt L k).fee] 54)) := (Below.refl _ _).alloc (Nat.le_refl _) _
      have CT := total_c A1 (bAt L k).w c1 5 (v.alloc (.cells #[.slice A1 (bAt L k).w.length c1, .int .i64 (bAt L k).fee] 54)) (r1.below HB1 (Nat.le_refl _)) (by decide) (allB_mono l3 (by decide) (by decide)) (by omega)
      generalize hwl : (bAt L k).w.length = wl at *
      clear q2 es p1 p2 l3 g1
      go_wp2_with fail
      refine CT.mono ?_
      rintro e w2 ⟨rfl, rfl⟩
      go_wp2
      go_roundw
      case rel => exact ⟨k + 1, by omega, by go_num, by rw [ES.out], bUp HB HB1 HB.size⟩
      case measure => simp [intOf] <;> omega
    · obtain rfl : k = L.length := by omega
      go_wp2
      go_ret
      exact ⟨rfl, HB⟩
theorem eraseLen {L : List Bxd} {k : Nat} (hk : k < L.length) : k + (L.length - (k + 1)) = (L.eraseIdx k).length := by rw [List.length_eraseIdx, if_pos hk]; omega
theorem RdBs.erase {w w' : World} {A : Option Addr} {B n c k : Nat} {cs : List Value} {L : List Bxd} (h : BsAt w cs L) (hb : Below w.heap.size w w') (hk : k < L.length) (ho : OwnX w' B A n c (cs.take (k * 2) ++ cs.drop ((k + 1) * 2))) : RdBs w' A (L.eraseIdx k) := by
  refine ⟨_, ?_, ho.rd⟩
  rw [List.eraseIdx_eq_take_drop_succ]
  exact ((h.take (Nat.le_of_lt hk)).below hb).app ((h.drop (i := k + 1)).below hb)
theorem mx_ifB (x y : Int) : (if x < y then y else x) = mxI x y := by unfold mxI; split <;> split <;> omega
theorem take_get {cs : List Value} {m j : Nat} {u : Value} (h : (cs.take m)[j]? = some u) : cs[j]? = some u := by
  rw [List.getElem?_take] at h
  split at h
  · exact h
  · cases h
theorem drop_get {cs : List Value} {m j : Nat} {u : Value} (h : (cs.drop m)[j]? = some u) : cs[m + j]? = some u := by rw [← List.getElem?_drop]; exact h
set_option maxRecDepth 20000 in
set_option maxHeartbeats 4000000 in
theorem byAnyS {L : List Bxd} (hok : BxOk L) (IH : ∀ i, i < L.length → ∀ (A : Option Addr) (c s : Nat) (w : World), RdBs w A (L.eraseIdx i) → (L.eraseIdx i).length ≤ c → s ≤ 4 → Calls Try.prog 89 #[.slice A (L.eraseIdx i).length c, .int .i64 (s : Int)] w (Quietly w (.int .i64 (bval (L.eraseIdx i) s))))
    (A : Option Addr) (c s : Nat) (w : World) (h : RdBs w A L) (hc : L.length ≤ c) (hs : s ≤ 4) : Calls Try.prog 89 #[.slice A L.length c, .int .i64 (s : Int)] w (Quietly w (.int .i64 (bval L s))) := by
  have HBV := Lib.hid (bval_eq (L := L) s)
  have hn := hok.1
  have hS := scB_bd hok
  have mS0 := mul_bd (s : Int) (scB L) 4 390625 (by omega) (by omega) (by omega) (by omega)
  have e0 : IntKind.i64.wrap ((s : Int) * scB L) = (s : Int) * scB L := IntWalk.i64_in _ (by omega)
  go_enter Try.func89, Try.ntmps89
  go_wp2_with fail
  refine (scaleB_c A L c _ h hok).mono ?_
  rintro e w2 ⟨rfl, b2⟩
  have h2 := h.below b2
  clear h
  go_wp2_with fail
  go_loopw [5, 18] (fun o i wr => ∃ k : Nat, k ≤ L.length ∧ i = .int .i64 (k : Int) ∧ o = .int .i64 (mS (fun i => bval (L.eraseIdx i)) L s k) ∧ Below w2.heap.size w2 wr) (fun _ i _ => L.length - (intOf i).toNat)
  case atStart => exact ⟨0, by omega, rfl, rfl, Below.refl _ _⟩
  case round =>
    obtain ⟨v, rfl⟩ : ∃ v : World, v = wr := ⟨_, rfl⟩
    obtain ⟨k, hk, rfl, rfl, HB⟩ := hrel
    by_cases hlt : k < L.length
    · have hv := h2.below HB
      obtain ⟨a, A1, c1, rfl, q1, q2, r1⟩ := hv.at_ hlt
      obtain ⟨cs, hcs, hA⟩ := hv
      have q2' := cellOffB 1 (by omega) q2
      have hb := hok.2 k hlt
      have he := hok.erase hlt
      have HSE := Lib.hid (scB_erase hlt)
      have hS' := scB_bd he
      have hms := mS_bd hok hs k hk
      have ef : IntKind.i64.wrap (-(bAt L k).fee) = -(bAt L k).fee := IntWalk.i64_in _ (by omega)
      have m1 := mul_bd (bAt L k).fee (scB L) 20 390625 hb.2.1 hb.2.2 (by omega) (by omega)
      have eg : IntKind.i64.wrap (-(bAt L k).fee * scB L) = -(bAt L k).fee * scB L := IntWalk.i64_in _ (by rw [Int.neg_mul]; omega)
      obtain ⟨K1, hK1⟩ : ∃ K1, K1 = k + 1 := ⟨_, rfl⟩
      have ek : IntKind.i64.wrap ((k : Int) + 1) = (K1 : Int) := by rw [IntWalk.i64_in _ (by omega), hK1]; rfl
      have HLE : Hid (k + (L.length - K1) = (L.eraseIdx k).length) := Lib.hid (by rw [hK1]; exact eraseLen hlt)
      have HTL : Hid ((cs.take (k * 2)).length = k * 2) := Lib.hid (by rw [List.length_take, hcs.1]; omega)
      have HDL : Hid ((cs.drop (K1 * 2)).length = (L.length - K1) * 2) := Lib.hid (by rw [List.length_drop, hcs.1]; omega)
      have HK1 := Lib.hid hK1
      have HON := Lib.hid hcs.one
      have HCS := Lib.hid hcs
      have HA := Lib.hid hA
      have HH2 := Lib.hid h2
      clear q2 hcs hA h2 m1
      have i1 : (k : Int) ≤ (c : Int) := by omega
      have i2 : (K1 : Int) ≤ (L.length : Int) := by omega
      have i2c : (K1 : Int) ≤ (c : Int) := by omega
      have i3 : (0 : Int) ≤ (K1 : Int) := by omega
      have i4 : (0 : Int) ≤ (k : Int) := by omega
      have i5 : K1 ≤ 4 := by omega
      clear hK1
      have HRD : Hid (∀ w', Below v.heap.size v w' → ∀ j u, cs[j]? = some u → w'.cell? (a.add j) = some u) := Lib.hid fun w' hw' j u hu => by
        obtain ⟨ad, e, q⟩ := (HA.out.below hw' (Nat.le_refl _)) j u hu
        cases e
        exact q
      by_cases hce : c = K1
      · have HDN : Hid (cs.drop (K1 * 2) = []) := Lib.hid (List.drop_eq_nil_of_le (by rw [HCS.out.1]; omega))
        have HL0 : Hid (k + 0 = (L.eraseIdx k).length) := Lib.hid (by have := HLE.out; have := HK1.out; omega)
        subst hce
        have x0 := (Bx.new v (.slice A1 (bAt L k).w.length c1) (.int .i64 (bAt L k).fee) 54).1
        have x1 := (Bx.new v (.slice A1 (bAt L k).w.length c1) (.int .i64 (bAt L k).fee) 54).2.1
        have HB1 : Below v.heap.size v (v.alloc (.cells #[.slice A1 (bAt L k).w.length c1, .int .i64 (bAt L k).fee] 54)) := (Below.refl _ _).alloc (Nat.le_refl _) _
        go_upto_region 5 with fail
        generalize v.alloc (.cells #[.slice A1 (bAt L k).w.length c1, .int .i64 (bAt L k).fee] 54) = v1 at *
        have XX := Lib.hid (And.intro x0 x1)
        have hd1 : Below v1.heap.size v1 v1.drew := Below.drew (Below.refl _ _)
        have SK1 : Hid (∀ w', Below v1.heap.size v1 w' → w'.cell? ⟨v.heap.size, 0, none⟩ = some (.slice A1 (bAt L k).w.length c1)) := Lib.hid fun w' HV => (HV.cell (cell_lt x0)).trans x0
        clear x0
        have hS1_0 := SK1.out _ hd1
        refine tamed_region (S := fun w' => w'.cell? ⟨v.heap.size, 0, none⟩ = some (.slice A1 (bAt L k).w.length c1)) (fun _ => false) (by kernel_rfl) ?_
        refine tame0 (k := 0) ?_ rfl (by kernel_rfl) (by kernel_rfl) (by kernel_rfl) (fun _ _ _ h => h) (by kernel_rfl) (fun v => ?_) ?_
        rotate_left
        · (go_simp; all_goals rfl)
        simp only [Act.put, List.setIfInBounds_toArray]
        refine tame0 (k := 1) ?_ rfl (by kernel_rfl) (by kernel_rfl) (by kernel_rfl) (fun _ _ _ h => h) (by kernel_rfl) (fun v => ?_) ?_
        rotate_left
        · (go_simp; all_goals rfl)
        simp only [Act.put]
        refine tame0 (k := 2) ?_ rfl (by kernel_rfl) (by kernel_rfl) (by kernel_rfl) (fun _ _ _ h => h) (by kernel_rfl) (fun v => ?_) ?_
        rotate_left
        · (go_simp; all_goals rfl)
        simp only [Act.put]
        refine tame0 (k := 4) ?_ rfl (by kernel_rfl) (by kernel_rfl) (by kernel_rfl) (fun _ _ _ h => h) (by kernel_rfl) (fun v => ?_) ?_
        rotate_left
        · (go_simp; all_goals rfl)
        simp only [Act.put]
        refine tame0 (k := 5) ?_ rfl (by kernel_rfl) (by kernel_rfl) (by kernel_rfl) (fun _ _ _ h => h) (by kernel_rfl) (fun v => ?_) ?_
        rotate_left
        · (go_simp; all_goals rfl)
        simp only [Act.put]
        refine tame0 (k := 6) ?_ rfl (by kernel_rfl) (by kernel_rfl) (by kernel_rfl) (fun _ _ _ h => h) (by kernel_rfl) (fun v => ?_) ?_
        rotate_left
        · (go_simp; all_goals rfl)
        simp only [Act.put]
        refine tame0 (k := 7) ?_ rfl (by kernel_rfl) (by kernel_rfl) (by kernel_rfl) (fun _ _ _ h => h) (by kernel_rfl) (fun v => ?_) ?_
        rotate_left
        · (go_simp; all_goals rfl)
        simp only [Act.put]
        refine tame_one (k := 3) (by kernel_rfl) rfl (by kernel_rfl) ?_
        go_simp
        refine (slCloneB_c a k c (cs.take (k * 2)) _ (fun j u hu => HRD.out _ (bUp HB1 hd1 HB1.size) j u (take_get hu)) HTL.out (fun u hu => HON.out u (List.mem_of_mem_take hu)) (by omega)).mono ?_
        rintro e v3 ⟨A3, c3, rfl, o3, b3⟩
        have hd1_1 := bUp hd1 b3 (Nat.le_refl _)
        have hS1_1 := Lib.hid (SK1.out _ hd1_1)
        refine ⟨by first | exact hS1_1 | exact Hid.out hS1_1, ?_⟩
        refine tame_one (k := 8) (by kernel_rfl) rfl (by kernel_rfl) ?_
        refine op_append_box _ (.tmp 26) (.tmp 30) rfl v1.drew.heap.size A3 k c3 (cs.take (k * 2)) rfl o3 a 0 _ (cs.drop (c * 2)) rfl (by rw [HDN.out]; rfl) (fun j u hu => by rw [HDN.out] at hu; simp at hu) (fun u hu => HON.out u (List.mem_of_mem_drop hu)) (by omega) b3.size ?_
        intro A4 c4 v5 o4 hg4
        have H5 : Below v1.heap.size v1 v5 := hd1_1.grown hg4 hd1_1.size (fun b hb => o3.ge b hb)
        rw [HL0.out]
        refine ⟨fun _ => SK1.out _ H5, ?_⟩
        refine tame_one (k := 9) (by kernel_rfl) rfl (by kernel_rfl) ?_
        go_simp
        refine ⟨SK1.out _ H5, ?_⟩
        refine tame_end (by kernel_rfl) ?_
        have HB5 := bUp HB1 H5 HB1.size
        have x0 := (H5.cell (cell_lt XX.out.1)).trans XX.out.1
        have x1 := (H5.cell (cell_lt XX.out.2)).trans XX.out.2
        have hcap := o4.cap
        rw [HL0.out] at hcap
        have RE := Lib.hid (RdBs.erase HCS.out HB5 hlt (by rw [← HK1.out]; exact o4))
        have hW5 := HB5.size
        clear o3 o4 hg4 b3
        go_upto_region 6 with fail
        have hd2 : Below v5.heap.size v5 v5.drew := Below.drew (Below.refl _ _)
        have SK2 : Hid (∀ w', Below v5.heap.size v5 w' → w'.cell? ⟨v.heap.size, 0, none⟩ = some (.slice A1 (bAt L k).w.length c1) ∧ w'.cell? ⟨v.heap.size, 1, none⟩ = some (.int .i64 (bAt L k).fee)) := Lib.hid fun w' HV => ⟨(HV.cell (cell_lt x0)).trans x0, (HV.cell (cell_lt x1)).trans x1⟩
        clear x0 x1
        have hS2_0 := SK2.out _ hd2
        refine tamed_region (S := fun w' => w'.cell? ⟨v.heap.size, 0, none⟩ = some (.slice A1 (bAt L k).w.length c1) ∧ w'.cell? ⟨v.heap.size, 1, none⟩ = some (.int .i64 (bAt L k).fee)) (fun _ => false) (by kernel_rfl) ?_
        refine tame0 (k := 0) ?_ rfl (by kernel_rfl) (by kernel_rfl) (by kernel_rfl) (fun _ _ _ h => h) (by kernel_rfl) (fun v => ?_) ?_
        rotate_left
        · (go_simp; all_goals rfl)
        simp only [Act.put, List.setIfInBounds_toArray]
        refine tame (k := 1) ?_ rfl (by kernel_rfl) (by kernel_rfl) (by kernel_rfl) (by kernel_rfl) (fun _ _ _ h => h) (by kernel_rfl) hS2_0 (fun v hv => ?_) ?_
        rotate_left
        · (obtain ⟨k1, k2⟩ := hv; go_simp; all_goals rfl)
        simp only [Act.put]
        refine tame0 (k := 2) ?_ rfl (by kernel_rfl) (by kernel_rfl) (by kernel_rfl) (fun _ _ _ h => h) (by kernel_rfl) (fun v => ?_) ?_
        rotate_left
        · (go_simp; all_goals rfl)
        simp only [Act.put]
        refine tame0 (k := 3) ?_ rfl (by kernel_rfl) (by kernel_rfl) (by kernel_rfl) (fun _ _ _ h => h) (by kernel_rfl) (fun v => ?_) ?_
        rotate_left
        · (go_simp; all_goals rfl)
        simp only [Act.put]
        refine tame_one (k := 4) (by kernel_rfl) rfl (by kernel_rfl) ?_
        go_simp
        refine (scaleB_c (some a) L c _ (HH2.out.below (bUp HB (bUp HB5 hd2 HB5.size) HB.size)) hok).mono ?_
        rintro e v6 ⟨rfl, b6⟩
        have hd2_1 := bUp hd2 b6 (Nat.le_refl _)
        have hS2_1 := Lib.hid (SK2.out _ hd2_1)
        refine ⟨by first | exact hS2_1 | exact Hid.out hS2_1, ?_⟩
        refine tame0 (k := 5) ?_ rfl (by kernel_rfl) (by kernel_rfl) (by kernel_rfl) (fun _ _ _ h => h) (by kernel_rfl) (fun v => ?_) ?_
        rotate_left
        · (go_simp; all_goals rfl)
        simp only [Act.put]
        refine tame_one (k := 6) (by kernel_rfl) rfl (by kernel_rfl) ?_
        go_simp
        refine ⟨by first | exact hS2_1 | exact Hid.out hS2_1, ?_⟩
        refine tame_end (by kernel_rfl) ?_
        have HB6 := bUp HB5 hd2_1 HB5.size
        have x0 := (hd2_1.cell (cell_lt ((H5.cell (cell_lt XX.out.1)).trans XX.out.1))).trans ((H5.cell (cell_lt XX.out.1)).trans XX.out.1)
        have RE6 := Lib.hid (RE.out.below hd2_1)
        have r6 := r1.below HB6 (Nat.le_refl _)
        clear r1 b6
        go_wp2_with fail
        go_loopw [9, 41] (fun o j wr => ∃ u : Nat, u ≤ (bAt L k).w.length ∧ j = .int .i64 (u : Int) ∧ o = .int .i64 (oS (bval (L.eraseIdx k)) (bAt L k) (scB L) s u) ∧ Below v6.heap.size v6 wr) (fun _ j _ => (bAt L k).w.length - (intOf j).toNat)
        case atStart => exact ⟨0, by omega, rfl, rfl, Below.refl _ _⟩
        case round =>
          obtain ⟨y, rfl⟩ : ∃ y : World, y = wr := ⟨_, rfl⟩
          obtain ⟨u, hu, rfl, rfl, HY⟩ := hrel
          obtain ⟨l1, l2, l3, l4, l5⟩ := lawB_yes hb.1
          have go0 := gS2_top (V := bval (L.eraseIdx k)) hb.1 (S' := scB (L.eraseIdx k)) (by omega) (fun s' hs' => he.bd hs') hs hu
          rw [← HSE.out] at go0
          have eo0 := oS_eq (bval (L.eraseIdx k)) (bAt L k) (scB L) s u
          rw [Int.neg_mul] at eo0
          have m1 := mul_bd (bAt L k).fee (scB L) 20 390625 hb.2.1 hb.2.2 (by omega) (by omega)
          have bo0 : -7812500 ≤ oS (bval (L.eraseIdx k)) (bAt L k) (scB L) s u ∧ oS (bval (L.eraseIdx k)) (bAt L k) (scB L) s u ≤ 1562500 := by omega
          clear go0 eo0 m1 l3
          by_cases hlu : u < (bAt L k).w.length
          · obtain ⟨au, rfl, qu⟩ := (r6.below HY (Nat.le_refl _)).intN hlu
            have tb := bd_term (V := bval (L.eraseIdx k)) hb.1 (S' := scB (L.eraseIdx k)) (by omega) (fun s' hs' => he.bd hs') hs hlu
            have go1 := gS2_top (V := bval (L.eraseIdx k)) hb.1 (S' := scB (L.eraseIdx k)) (by omega) (fun s' hs' => he.bd hs') hs (v := u + 1) hlu
            rw [← HSE.out] at go1
            have eo1 := oS_eq (bval (L.eraseIdx k)) (bAt L k) (scB L) s (u + 1)
            rw [Int.neg_mul] at eo1
            have m1 := mul_bd (bAt L k).fee (scB L) 20 390625 hb.2.1 hb.2.2 (by omega) (by omega)
            have ES : Hid (oS (bval (L.eraseIdx k)) (bAt L k) (scB L) s (u + 1) = oS (bval (L.eraseIdx k)) (bAt L k) (scB L) s u + nth (bAt L k).w u * bval (L.eraseIdx k) (max s u)) := Lib.hid rfl
            have bo1 : -7812500 ≤ oS (bval (L.eraseIdx k)) (bAt L k) (scB L) s (u + 1) ∧ oS (bval (L.eraseIdx k)) (bAt L k) (scB L) s (u + 1) ≤ 1562500 := by omega
            rw [ES.out] at bo1
            have C := IH k hlt A4 c4 (max s u) y (RE6.out.below HY) hcap (by omega)
            have e1 : IntKind.i64.wrap (nth (bAt L k).w u * bval (L.eraseIdx k) (max s u)) = nth (bAt L k).w u * bval (L.eraseIdx k) (max s u) := IntWalk.i64_in _ (by omega)
            have e2 : IntKind.i64.wrap (oS (bval (L.eraseIdx k)) (bAt L k) (scB L) s u + nth (bAt L k).w u * bval (L.eraseIdx k) (max s u)) = oS (bval (L.eraseIdx k)) (bAt L k) (scB L) s u + nth (bAt L k).w u * bval (L.eraseIdx k) (max s u) := IntWalk.i64_in _ (by omega)
            clear go1 eo1 m1 tb bo1
            generalize hbu : bval (L.eraseIdx k) (max s u) = bu at *
            generalize oS (bval (L.eraseIdx k)) (bAt L k) (scB L) s u = ou at *
            clear hbu
            rcases Nat.lt_or_ge s u with hsu | hsu
            · rw [Nat.max_eq_right (Nat.le_of_lt hsu)] at C
              go_wp2_with fail
              refine C.mono ?_
              rintro e y2 ⟨rfl, b7⟩
              go_wp2_with fail
              go_roundw
              case rel => exact ⟨u + 1, by omega, by go_num, by rw [ES.out], bUp HY b7 HY.size⟩
              case measure => simp [intOf] <;> omega
            · rw [Nat.max_eq_left hsu] at C
              go_wp2_with fail
              refine C.mono ?_
              rintro e y2 ⟨rfl, b7⟩
              go_wp2_with fail
              go_roundw
              case rel => exact ⟨u + 1, by omega, by go_num, by rw [ES.out], bUp HY b7 HY.size⟩
              case measure => simp [intOf] <;> omega
          · obtain rfl : u = (bAt L k).w.length := by omega
            have EM : Hid (mS (fun i => bval (L.eraseIdx i)) L s (k + 1) = mxI (mS (fun i => bval (L.eraseIdx i)) L s k) (oS (bval (L.eraseIdx k)) (bAt L k) (scB L) s (bAt L k).w.length)) := Lib.hid rfl
            go_wp2_with fail
            go_roundw
            case rel => exact ⟨c, by omega, rfl, by rw [HK1.out, EM.out]; exact congrArg _ (mx_ifB _ _), bUp HB (bUp HB6 HY HB6.size) HB.size⟩
            case measure => simp [intOf]; have := HK1.out; omega
      · have x0 := (Bx.new v (.slice A1 (bAt L k).w.length c1) (.int .i64 (bAt L k).fee) 54).1
        have x1 := (Bx.new v (.slice A1 (bAt L k).w.length c1) (.int .i64 (bAt L k).fee) 54).2.1
        have HB1 : Below v.heap.size v (v.alloc (.cells #[.slice A1 (bAt L k).w.length c1, .int .i64 (bAt L k).fee] 54)) := (Below.refl _ _).alloc (Nat.le_refl _) _
        go_upto_region 5 with fail
        generalize v.alloc (.cells #[.slice A1 (bAt L k).w.length c1, .int .i64 (bAt L k).fee] 54) = v1 at *
        have XX := Lib.hid (And.intro x0 x1)
        have hd3 : Below v1.heap.size v1 v1.drew := Below.drew (Below.refl _ _)
        have SK3 : Hid (∀ w', Below v1.heap.size v1 w' → w'.cell? ⟨v.heap.size, 0, none⟩ = some (.slice A1 (bAt L k).w.length c1)) := Lib.hid fun w' HV => (HV.cell (cell_lt x0)).trans x0
        clear x0
        have hS3_0 := SK3.out _ hd3
        refine tamed_region (S := fun w' => w'.cell? ⟨v.heap.size, 0, none⟩ = some (.slice A1 (bAt L k).w.length c1)) (fun _ => false) (by kernel_rfl) ?_
        refine tame0 (k := 0) ?_ rfl (by kernel_rfl) (by kernel_rfl) (by kernel_rfl) (fun _ _ _ h => h) (by kernel_rfl) (fun v => ?_) ?_
        rotate_left
        · (go_simp; all_goals rfl)
        simp only [Act.put, List.setIfInBounds_toArray]
        refine tame0 (k := 1) ?_ rfl (by kernel_rfl) (by kernel_rfl) (by kernel_rfl) (fun _ _ _ h => h) (by kernel_rfl) (fun v => ?_) ?_
        rotate_left
        · (go_simp; all_goals rfl)
        simp only [Act.put]
        refine tame0 (k := 2) ?_ rfl (by kernel_rfl) (by kernel_rfl) (by kernel_rfl) (fun _ _ _ h => h) (by kernel_rfl) (fun v => ?_) ?_
        rotate_left
        · (go_simp; all_goals rfl)
        simp only [Act.put]
        refine tame0 (k := 4) ?_ rfl (by kernel_rfl) (by kernel_rfl) (by kernel_rfl) (fun _ _ _ h => h) (by kernel_rfl) (fun v => ?_) ?_
        rotate_left
        · (go_simp; all_goals rfl)
        simp only [Act.put]
        refine tame0 (k := 5) ?_ rfl (by kernel_rfl) (by kernel_rfl) (by kernel_rfl) (fun _ _ _ h => h) (by kernel_rfl) (fun v => ?_) ?_
        rotate_left
        · (go_simp; all_goals rfl)
        simp only [Act.put]
        refine tame0 (k := 6) ?_ rfl (by kernel_rfl) (by kernel_rfl) (by kernel_rfl) (fun _ _ _ h => h) (by kernel_rfl) (fun v => ?_) ?_
        rotate_left
        · (go_simp; all_goals rfl)
        simp only [Act.put]
        refine tame0 (k := 7) ?_ rfl (by kernel_rfl) (by kernel_rfl) (by kernel_rfl) (fun _ _ _ h => h) (by kernel_rfl) (fun v => ?_) ?_
        rotate_left
        · (go_simp; all_goals rfl)
        simp only [Act.put]
        refine tame_one (k := 3) (by kernel_rfl) rfl (by kernel_rfl) ?_
        go_simp
        refine (slCloneB_c a k c (cs.take (k * 2)) _ (fun j u hu => HRD.out _ (bUp HB1 hd3 HB1.size) j u (take_get hu)) HTL.out (fun u hu => HON.out u (List.mem_of_mem_take hu)) (by omega)).mono ?_
        rintro e v3 ⟨A3, c3, rfl, o3, b3⟩
        have hd3_1 := bUp hd3 b3 (Nat.le_refl _)
        have hS3_1 := Lib.hid (SK3.out _ hd3_1)
        refine ⟨by first | exact hS3_1 | exact Hid.out hS3_1, ?_⟩
        refine tame_one (k := 8) (by kernel_rfl) rfl (by kernel_rfl) ?_
        refine op_append_box _ (.tmp 26) (.tmp 30) rfl v1.drew.heap.size A3 k c3 (cs.take (k * 2)) rfl o3 (a.add (K1 * 2)) (L.length - K1) _ (cs.drop (K1 * 2)) rfl HDL.out (fun j u hu => by rw [add_of_add]; exact HRD.out _ (bUp HB1 hd3_1 HB1.size) _ u (drop_get hu)) (fun u hu => HON.out u (List.mem_of_mem_drop hu)) (by omega) b3.size ?_
        intro A4 c4 v5 o4 hg4
        have H5 : Below v1.heap.size v1 v5 := hd3_1.grown hg4 hd3_1.size (fun b hb => o3.ge b hb)
        rw [HLE.out]
        refine ⟨fun _ => SK3.out _ H5, ?_⟩
        refine tame_one (k := 9) (by kernel_rfl) rfl (by kernel_rfl) ?_
        go_simp
        refine ⟨SK3.out _ H5, ?_⟩
        refine tame_end (by kernel_rfl) ?_
        have HB5 := bUp HB1 H5 HB1.size
        have x0 := (H5.cell (cell_lt XX.out.1)).trans XX.out.1
        have x1 := (H5.cell (cell_lt XX.out.2)).trans XX.out.2
        have hcap := o4.cap
        rw [HLE.out] at hcap
        have RE := Lib.hid (RdBs.erase HCS.out HB5 hlt (by rw [← HK1.out]; exact o4))
        have hW5 := HB5.size
        clear o3 o4 hg4 b3
        go_upto_region 6 with fail
        have hd4 : Below v5.heap.size v5 v5.drew := Below.drew (Below.refl _ _)
        have SK4 : Hid (∀ w', Below v5.heap.size v5 w' → w'.cell? ⟨v.heap.size, 0, none⟩ = some (.slice A1 (bAt L k).w.length c1) ∧ w'.cell? ⟨v.heap.size, 1, none⟩ = some (.int .i64 (bAt L k).fee)) := Lib.hid fun w' HV => ⟨(HV.cell (cell_lt x0)).trans x0, (HV.cell (cell_lt x1)).trans x1⟩
        clear x0 x1
        have hS4_0 := SK4.out _ hd4
        refine tamed_region (S := fun w' => w'.cell? ⟨v.heap.size, 0, none⟩ = some (.slice A1 (bAt L k).w.length c1) ∧ w'.cell? ⟨v.heap.size, 1, none⟩ = some (.int .i64 (bAt L k).fee)) (fun _ => false) (by kernel_rfl) ?_
        refine tame0 (k := 0) ?_ rfl (by kernel_rfl) (by kernel_rfl) (by kernel_rfl) (fun _ _ _ h => h) (by kernel_rfl) (fun v => ?_) ?_
        rotate_left
        · (go_simp; all_goals rfl)
        simp only [Act.put, List.setIfInBounds_toArray]
        refine tame (k := 1) ?_ rfl (by kernel_rfl) (by kernel_rfl) (by kernel_rfl) (by kernel_rfl) (fun _ _ _ h => h) (by kernel_rfl) hS4_0 (fun v hv => ?_) ?_
        rotate_left
        · (obtain ⟨k1, k2⟩ := hv; go_simp; all_goals rfl)
        simp only [Act.put]
        refine tame0 (k := 2) ?_ rfl (by kernel_rfl) (by kernel_rfl) (by kernel_rfl) (fun _ _ _ h => h) (by kernel_rfl) (fun v => ?_) ?_
        rotate_left
        · (go_simp; all_goals rfl)
        simp only [Act.put]
        refine tame0 (k := 3) ?_ rfl (by kernel_rfl) (by kernel_rfl) (by kernel_rfl) (fun _ _ _ h => h) (by kernel_rfl) (fun v => ?_) ?_
        rotate_left
        · (go_simp; all_goals rfl)
        simp only [Act.put]
        refine tame_one (k := 4) (by kernel_rfl) rfl (by kernel_rfl) ?_
        go_simp
        refine (scaleB_c (some a) L c _ (HH2.out.below (bUp HB (bUp HB5 hd4 HB5.size) HB.size)) hok).mono ?_
        rintro e v6 ⟨rfl, b6⟩
        have hd4_1 := bUp hd4 b6 (Nat.le_refl _)
        have hS4_1 := Lib.hid (SK4.out _ hd4_1)
        refine ⟨by first | exact hS4_1 | exact Hid.out hS4_1, ?_⟩
        refine tame0 (k := 5) ?_ rfl (by kernel_rfl) (by kernel_rfl) (by kernel_rfl) (fun _ _ _ h => h) (by kernel_rfl) (fun v => ?_) ?_
        rotate_left
        · (go_simp; all_goals rfl)
        simp only [Act.put]
        refine tame_one (k := 6) (by kernel_rfl) rfl (by kernel_rfl) ?_
        go_simp
        refine ⟨by first | exact hS4_1 | exact Hid.out hS4_1, ?_⟩
        refine tame_end (by kernel_rfl) ?_
        have HB6 := bUp HB5 hd4_1 HB5.size
        have x0 := (hd4_1.cell (cell_lt ((H5.cell (cell_lt XX.out.1)).trans XX.out.1))).trans ((H5.cell (cell_lt XX.out.1)).trans XX.out.1)
        have RE6 := Lib.hid (RE.out.below hd4_1)
        have r6 := r1.below HB6 (Nat.le_refl _)
        clear r1 b6
        go_wp2_with fail
        go_loopw [9, 41] (fun o j wr => ∃ u : Nat, u ≤ (bAt L k).w.length ∧ j = .int .i64 (u : Int) ∧ o = .int .i64 (oS (bval (L.eraseIdx k)) (bAt L k) (scB L) s u) ∧ Below v6.heap.size v6 wr) (fun _ j _ => (bAt L k).w.length - (intOf j).toNat)
        case atStart => exact ⟨0, by omega, rfl, rfl, Below.refl _ _⟩
        case round =>
          obtain ⟨y, rfl⟩ : ∃ y : World, y = wr := ⟨_, rfl⟩
          obtain ⟨u, hu, rfl, rfl, HY⟩ := hrel
          obtain ⟨l1, l2, l3, l4, l5⟩ := lawB_yes hb.1
          have go0 := gS2_top (V := bval (L.eraseIdx k)) hb.1 (S' := scB (L.eraseIdx k)) (by omega) (fun s' hs' => he.bd hs') hs hu
          rw [← HSE.out] at go0
          have eo0 := oS_eq (bval (L.eraseIdx k)) (bAt L k) (scB L) s u
          rw [Int.neg_mul] at eo0
          have m1 := mul_bd (bAt L k).fee (scB L) 20 390625 hb.2.1 hb.2.2 (by omega) (by omega)
          have bo0 : -7812500 ≤ oS (bval (L.eraseIdx k)) (bAt L k) (scB L) s u ∧ oS (bval (L.eraseIdx k)) (bAt L k) (scB L) s u ≤ 1562500 := by omega
          clear go0 eo0 m1 l3
          by_cases hlu : u < (bAt L k).w.length
          · obtain ⟨au, rfl, qu⟩ := (r6.below HY (Nat.le_refl _)).intN hlu
            have tb := bd_term (V := bval (L.eraseIdx k)) hb.1 (S' := scB (L.eraseIdx k)) (by omega) (fun s' hs' => he.bd hs') hs hlu
            have go1 := gS2_top (V := bval (L.eraseIdx k)) hb.1 (S' := scB (L.eraseIdx k)) (by omega) (fun s' hs' => he.bd hs') hs (v := u + 1) hlu
            rw [← HSE.out] at go1
            have eo1 := oS_eq (bval (L.eraseIdx k)) (bAt L k) (scB L) s (u + 1)
            rw [Int.neg_mul] at eo1
            have m1 := mul_bd (bAt L k).fee (scB L) 20 390625 hb.2.1 hb.2.2 (by omega) (by omega)
            have ES : Hid (oS (bval (L.eraseIdx k)) (bAt L k) (scB L) s (u + 1) = oS (bval (L.eraseIdx k)) (bAt L k) (scB L) s u + nth (bAt L k).w u * bval (L.eraseIdx k) (max s u)) := Lib.hid rfl
            have bo1 : -7812500 ≤ oS (bval (L.eraseIdx k)) (bAt L k) (scB L) s (u + 1) ∧ oS (bval (L.eraseIdx k)) (bAt L k) (scB L) s (u + 1) ≤ 1562500 := by omega
            rw [ES.out] at bo1
            have C := IH k hlt A4 c4 (max s u) y (RE6.out.below HY) hcap (by omega)
            have e1 : IntKind.i64.wrap (nth (bAt L k).w u * bval (L.eraseIdx k) (max s u)) = nth (bAt L k).w u * bval (L.eraseIdx k) (max s u) := IntWalk.i64_in _ (by omega)
            have e2 : IntKind.i64.wrap (oS (bval (L.eraseIdx k)) (bAt L k) (scB L) s u + nth (bAt L k).w u * bval (L.eraseIdx k) (max s u)) = oS (bval (L.eraseIdx k)) (bAt L k) (scB L) s u + nth (bAt L k).w u * bval (L.eraseIdx k) (max s u) := IntWalk.i64_in _ (by omega)
            clear go1 eo1 m1 tb bo1
            generalize hbu : bval (L.eraseIdx k) (max s u) = bu at *
            generalize oS (bval (L.eraseIdx k)) (bAt L k) (scB L) s u = ou at *
            clear hbu
            rcases Nat.lt_or_ge s u with hsu | hsu
            · rw [Nat.max_eq_right (Nat.le_of_lt hsu)] at C
              go_wp2_with fail
              refine C.mono ?_
              rintro e y2 ⟨rfl, b7⟩
              go_wp2_with fail
              go_roundw
              case rel => exact ⟨u + 1, by omega, by go_num, by rw [ES.out], bUp HY b7 HY.size⟩
              case measure => simp [intOf] <;> omega
            · rw [Nat.max_eq_left hsu] at C
              go_wp2_with fail
              refine C.mono ?_
              rintro e y2 ⟨rfl, b7⟩
              go_wp2_with fail
              go_roundw
              case rel => exact ⟨u + 1, by omega, by go_num, by rw [ES.out], bUp HY b7 HY.size⟩
              case measure => simp [intOf] <;> omega
          · obtain rfl : u = (bAt L k).w.length := by omega
            have EM : Hid (mS (fun i => bval (L.eraseIdx i)) L s (k + 1) = mxI (mS (fun i => bval (L.eraseIdx i)) L s k) (oS (bval (L.eraseIdx k)) (bAt L k) (scB L) s (bAt L k).w.length)) := Lib.hid rfl
            go_wp2_with fail
            go_roundw
            case rel => exact ⟨K1, by omega, rfl, by rw [HK1.out, EM.out]; exact congrArg _ (mx_ifB _ _), bUp HB (bUp HB6 HY HB6.size) HB.size⟩
            case measure => simp [intOf]; have := HK1.out; omega
    · obtain rfl : k = L.length := by omega
      go_wp2
      go_ret
      exact ⟨by rw [HBV.out] <;> rfl, bUp b2 HB b2.size⟩
theorem byAny_c : ∀ (n : Nat) {L : List Bxd}, L.length = n → BxOk L → ∀ (A : Option Addr) (c s : Nat) (w : World), RdBs w A L → L.length ≤ c → s ≤ 4 → Calls Try.prog 89 #[.slice A L.length c, .int .i64 (s : Int)] w (Quietly w (.int .i64 (bval L s))) := by
  intro n
  induction n with
  | zero =>
    intro L hl hok A c s w h hc hs
    exact byAnyS hok (fun i hi => by omega) A c s w h hc hs
  | succ n ih =>
    intro L hl hok A c s w h hc hs
    exact byAnyS hok (fun i hi A c s w h hc hs => ih (by rw [List.length_eraseIdx, if_pos hi]; omega) (hok.erase hi) A c s w h hc hs) A c s w h hc hs
def bbT (L : List Bxd) : Int := if bxsB L then lwT (bval L 0) (scB L) else 0
def bbB (L : List Bxd) : Int := if bxsB L then lwB (bval L 0) (scB L) else 0
def bbOk (L : List Bxd) : Bool := bxsB L && lwOk (bval L 0) (scB L)
set_option maxRecDepth 20000 in
set_option maxHeartbeats 1000000 in
theorem implBb_c (A : Option Addr) (L : List Bxd) (c : Nat) (w : World) (h : RdBs w A L) (hc : L.length ≤ c) (hs : SzBs L) :
    Calls Try.prog 53 #[.slice A L.length c] w (Quietly w (.tuple #[.agg #[.int .i64 (bbT L), .int .i64 (bbB L)], .bool (bbOk L)])) := by
  have bl : Below w.heap.size w (w.alloc (.cells #[.int .i64 0, .int .i64 0] 26)) := (Below.refl _ _).alloc (Nat.le_refl _) _
  have bx := Bx.new w (.int .i64 0) (.int .i64 0) 26
  cases hq : bxsB L
  · have HV : Hid (bbT L = 0 ∧ bbB L = 0 ∧ bbOk L = false) := Lib.hid (by simp [bbT, bbB, bbOk, hq])
    go_enter Try.func53, Try.ntmps53
    go_wp2_with fail
    refine (areBoxes_c A L c false hq _ (h.below bl) hs).mono ?_
    rintro e w2 ⟨rfl, b2⟩
    obtain ⟨y0, y1, y2, y3, y4⟩ := bx.below b2
    have HB2 := bUp bl b2 bl.size
    go_wp2
    exact bodyPost_ret (v := .tuple #[.agg #[.int .i64 0, .int .i64 0], .bool false]) (by simp [results, Try.results53, go_sem, y0, y1]) rfl ⟨by rw [HV.out.1, HV.out.2.1, HV.out.2.2], by with_reducible repeat (first | exact HB2 | refine Below.setCell ?_ (by simp <;> omega) _)⟩
  · have hok := bxsB_iff.1 hq
    have HV : Hid (bbT L = lwT (bval L 0) (scB L) ∧ bbB L = lwB (bval L 0) (scB L) ∧ bbOk L = lwOk (bval L 0) (scB L)) := Lib.hid (by simp [bbT, bbB, bbOk, hq])
    have hS := scB_bd hok
    have hv := hok.bd (s := 0) (by omega)
    go_enter Try.func53, Try.ntmps53
    go_wp2_with fail
    refine (areBoxes_c A L c true hq _ (h.below bl) hs).mono ?_
    rintro e w2 ⟨rfl, b2⟩
    have HB2 := bUp bl b2 bl.size
    have bx2 := bx.below b2
    have C := byAny_c L.length rfl hok A c 0 w2 (h.below HB2) hc (by omega)
    simp only [Int.natCast_zero] at C
    clear bx
    go_wp2_with fail
    refine C.mono ?_
    rintro e w3 ⟨rfl, b3⟩
    have HB3 := bUp HB2 b3 HB2.size
    have bx3 := bx2.below b3
    clear C bx2
    go_wp2_with fail
    refine (scaleB_c A L c _ (h.below HB3) hok).mono ?_
    rintro e w4 ⟨rfl, b4⟩
    have HB4 := bUp HB3 b4 HB3.size
    have bx4 := bx3.below b4
    clear bx3
    go_wp2_with fail
    refine (lowest_c _ _ (by omega) (by omega) (by omega) (by omega) _).mono ?_
    rintro e w5 ⟨rfl, b5⟩
    have HB5 := bUp HB4 b5 HB4.size
    obtain ⟨y0, y1, y2, y3, y4⟩ := bx4.below b5
    go_wp2
    exact bodyPost_ret (v := .tuple #[.agg #[.int .i64 (lwT (bval L 0) (scB L)), .int .i64 (lwB (bval L 0) (scB L))], .bool (lwOk (bval L 0) (scB L))]) (by simp [results, Try.results53, go_sem, y0, y1]) rfl ⟨by rw [HV.out.1, HV.out.2.1, HV.out.2.2], by with_reducible repeat (first | exact HB5 | refine Below.setCell ?_ (by simp <;> omega) _)⟩
end Go.Proofs.Ytjnllbmknblecaa
