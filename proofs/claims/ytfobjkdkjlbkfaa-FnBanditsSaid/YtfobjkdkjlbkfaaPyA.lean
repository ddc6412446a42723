/- Scales of many arms, the program's games. -/
import Derived.Test.YtfobjkdkjlbkfaaPlaA
import Derived.Test.YtfobjkdkjlbkfaaLvB
import Derived.Test.YtfobjkdkjlbkfaaRowsA
import Derived.Test.YtfobjkdkjlbkfaaOpB
import Derived.Test.YtfobjkdkjlbkfaaSS
import Derived.Test.YtfobjkdkjlbkfaaButA
namespace Go.Proofs.Ytfobjkdkjlbkfaa
open Go.RowKit

theorem RdMs.rdM {w : World} {L : List Mkd} {k : Nat} {A1 A2 A3 : Option Addr} (hm : (mAt L k).P.length ≤ 1048576 ∧ (mAt L k).W.length ≤ 1048576 ∧ (mAt L k).F.length ≤ 1048576) (r1 : Rd w A1 (ints (mAt L k).P)) (r2 : Rd w A2 (ints (mAt L k).W)) (r3 : Rd w A3 (ints (mAt L k).F)) :
    RdM w A1 (mAt L k).P A2 (mAt L k).W A3 (mAt L k).F := ⟨r1, r2, r3, by omega, by omega, by omega⟩
set_option maxRecDepth 20000 in
set_option maxHeartbeats 2000000 in
theorem areArms_is (A : Option Addr) (L : List Mkd) (c : Nat) (a b : Int) (q : Bool) (hq : armsB L a b = q) (w : World) (h : RdMs w A L) (hs : SzMs L) :
    Calls Try.prog 71 #[.slice A L.length c, .int .i64 a, .int .i64 b] w (Quietly w (.bool q)) := by
  have hn := hs.1
  have HR := Lib.hid hs.2
  clear hs
  by_cases h3 : L.length ≤ 3
  · have g3 : ¬ (3 : Int) < (L.length : Int) := by omega
    cases hd : discB a b
    · rw [armsB_disc hd] at hq
      subst hq
      go_enter Try.func71, Try.ntmps71
      go_wp2_with fail
      refine (isDiscount_is a b _ hd _).mono ?_
      rintro e w2 ⟨rfl, rfl⟩
      go_wp2
      go_ret
      exact ⟨rfl, Below.refl _ _⟩
    · go_enter Try.func71, Try.ntmps71
      go_wp2_with fail
      refine (isDiscount_is a b _ hd _).mono ?_
      rintro e w2 ⟨rfl, rfl⟩
      go_wp2_with fail
      go_loopw [7, 21] (fun p i wr => ∃ k : Nat, k ≤ L.length ∧ i = .int .i64 (k : Int) ∧ p = .int .i64 (hgts L k) ∧ (∀ j, j < k → okAt L j = true) ∧ Below w.heap.size w wr) (fun _ i _ => L.length - (intOf i).toNat)
      case atStart => exact ⟨0, by omega, rfl, rfl, (fun j hj => by omega), Below.refl _ _⟩
      case round =>
        obtain ⟨v, rfl⟩ : ∃ v : World, v = wr := ⟨_, rfl⟩
        obtain ⟨k, hk, rfl, rfl, hok, HB⟩ := hrel
        have hh := hgts_bd k hok
        have HO := Lib.hid hok
        clear hok
        by_cases hlt : k < L.length
        · obtain ⟨ad, A1, c1, A2, c2, A3, c3, rfl, q1, q2, q3, r1, r2, r3⟩ := (h.below HB (Nat.le_refl _)) k hlt
          have hm := HR.out k hlt
          have q2' := cellOff 1 (by omega) q2
          have q3' := cellOff 2 (by omega) q3
          have rm := RdMs.rdM hm r1 r2 r3
          cases ha : okAt L k
          · have hno := armAll_no hlt ha
            rw [armsB_arm hno] at hq
            subst hq
            go_wp2_with fail
            refine (implArm_is _ _ _ _ _ _ _ _ _ _ ha _ (rm.below (Below.alloc (Below.refl _ _) (Nat.le_refl _) _) (Nat.le_refl _))).mono ?_
            rintro e w5 ⟨rfl, b5⟩
            go_wp2
            go_ret
            exact ⟨rfl, bUp (HB.alloc HB.size _) b5 (HB.alloc HB.size _).size⟩
          · have hok := armB_iff.1 ha
            have hpar := hok.tree.par
            have hn1 := hok.tree.n1
            have hn2 := hok.tree.n2
            have h4 := hok.h4
            have h0 := hgt_bd (mAt L k).P
            have by1 := Bx3.new v (.slice A1 (mAt L k).P.length c1) (.slice A2 (mAt L k).W.length c2) (.slice A3 (mAt L k).F.length c3) 28
            have HB1 : Below w.heap.size w (v.alloc (.cells #[.slice A1 (mAt L k).P.length c1, .slice A2 (mAt L k).W.length c2, .slice A3 (mAt L k).F.length c3] 28)) := HB.alloc HB.size _
            have HB2 : Below v.heap.size v (v.alloc (.cells #[.slice A1 (mAt L k).P.length c1, .slice A2 (mAt L k).W.length c2, .slice A3 (mAt L k).F.length c3] 28)) := Below.alloc (Below.refl _ _) (Nat.le_refl _) _
            have e1 : IntKind.i64.wrap (hgts L k + hgt (mAt L k).P) = hgts L k + hgt (mAt L k).P := IntWalk.i64_in _ (by omega)
            have rm1 := rm.below HB2 (Nat.le_refl _)
            go_wp2_with fail
            generalize v.alloc (.cells #[.slice A1 (mAt L k).P.length c1, .slice A2 (mAt L k).W.length c2, .slice A3 (mAt L k).F.length c3] 28) = u at *
            clear q1 q2 q3 q2' q3'
            refine (implArm_is _ _ _ _ _ _ _ _ _ _ ha _ rm1).mono ?_
            rintro e w5 ⟨rfl, b5⟩
            have HB5 := bUp HB1 b5 HB1.size
            obtain ⟨f0, f1, f2, fz⟩ := by1.below b5
            have r5 := (rm1.below b5 (Nat.le_refl _)).r1
            clear by1 HB1 HB2
            go_wp2_with fail
            refine (height_c A1 (mAt L k).P c1 A2 (mAt L k).W.length c2 A3 (mAt L k).F.length c3 _ r5 hpar hn1 hn2).mono ?_
            rintro e w6 ⟨rfl, b6⟩
            go_wp2_with fail
            go_roundw
            case rel => exact ⟨k + 1, by omega, by go_num, rfl, fun j hj => by
              rcases Nat.lt_or_ge j k with hj' | hj'
              · exact HO.out j hj'
              · obtain rfl : j = k := by omega
                exact ha, bUp HB5 b6 HB5.size⟩
            case measure => simp [intOf] <;> omega
        · obtain rfl : k = L.length := by omega
          have hall := armAll_yes HO.out
          rw [armsB_all hd h3 hall] at hq
          by_cases h8 : hgts L L.length ≤ 8
          · obtain rfl : q = true := by rw [← hq]; simp [h8]
            go_wp2
            go_ret
            exact ⟨rfl, HB⟩
          · obtain rfl : q = false := by rw [← hq]; simp [h8]
            go_wp2
            go_ret
            exact ⟨rfl, HB⟩
  · have g3 : (3 : Int) < (L.length : Int) := by omega
    rw [armsB_len h3] at hq
    subst hq
    go_enter Try.func71, Try.ntmps71
    go_wp2
    go_ret
    exact ⟨rfl, Below.refl _ _⟩

set_option maxRecDepth 20000 in
set_option maxHeartbeats 2000000 in
theorem l8Arms_is (A : Option Addr) (L : List Mkd) (c : Nat) (a b : Int) (q : Bool) (hq : armsB L a b = q) (w : World) (h : RdMs w A L) (hs : SzMs L) :
    Calls Try.prog 83 #[.slice A L.length c, .int .i64 a, .int .i64 b] w (Quietly w (.bool q)) := by
  have hn := hs.1
  have HR := Lib.hid hs.2
  clear hs
  go_enter Try.func83, Try.ntmps83
  go_wp2
  go_loopw [7, 8] (fun p i wr => ∃ k : Nat, k ≤ L.length ∧ i = .int .i64 (k : Int) ∧ p = .int .i64 (hgts L k) ∧ (∀ j, j < k → okAt L j = true) ∧ Below w.heap.size w wr) (fun _ i _ => L.length - (intOf i).toNat)
  case atStart => exact ⟨0, by omega, rfl, rfl, (fun j hj => by omega), Below.refl _ _⟩
  case round =>
    obtain ⟨v, rfl⟩ : ∃ v : World, v = wr := ⟨_, rfl⟩
    obtain ⟨k, hk, rfl, rfl, hok, HB⟩ := hrel
    have hh := hgts_bd k hok
    have HO := Lib.hid hok
    clear hok
    by_cases hlt : k < L.length
    · obtain ⟨ad, A1, c1, A2, c2, A3, c3, rfl, q1, q2, q3, r1, r2, r3⟩ := (h.below HB (Nat.le_refl _)) k hlt
      have hm := HR.out k hlt
      have p2 := cellOff 1 (by omega) q2
      have p3 := cellOff 2 (by omega) q3
      have rm := RdMs.rdM hm r1 r2 r3
      cases ha : okAt L k
      · have hno := armAll_no hlt ha
        rw [armsB_arm hno] at hq
        subst hq
        go_wp2_with fail
        refine (l8Arm_is _ _ _ _ _ _ _ _ _ _ ha _ rm).mono ?_
        rintro e w5 ⟨rfl, b5⟩
        go_wp2
        go_ret
        exact ⟨rfl, bUp HB b5 HB.size⟩
      · have hok := armB_iff.1 ha
        have hpar := hok.tree.par
        have hn1 := hok.tree.n1
        have hn2 := hok.tree.n2
        have h4 := hok.h4
        have h0 := hgt_bd (mAt L k).P
        have e1 : IntKind.i64.wrap (hgts L k + hgt (mAt L k).P) = hgts L k + hgt (mAt L k).P := IntWalk.i64_in _ (by omega)
        go_wp2_with fail
        refine (l8Arm_is _ _ _ _ _ _ _ _ _ _ ha _ rm).mono ?_
        rintro e w5 ⟨rfl, b5⟩
        have HB5 := bUp HB b5 HB.size
        have r5 := (rm.below b5 (Nat.le_refl _)).r1
        have q1' := (b5.cell (cell_lt q1)).trans q1
        have q2' := (b5.cell (cell_lt p2)).trans p2
        clear q1 q2 q3 p2 p3
        go_wp2_with fail
        refine (l8Deepest_c A1 (mAt L k).P c1 A2 (mAt L k).W.length c2 _ r5 hpar hn1 hn2).mono ?_
        rintro e w6 ⟨rfl, b6⟩
        go_wp2_with fail
        go_roundw
        case rel => exact ⟨k + 1, by omega, by go_num, rfl, fun j hj => by
          rcases Nat.lt_or_ge j k with hj' | hj'
          · exact HO.out j hj'
          · obtain rfl : j = k := by omega
            exact ha, bUp HB5 b6 HB5.size⟩
        case measure => simp [intOf] <;> omega
    · obtain rfl : k = L.length := by omega
      have hall := armAll_yes HO.out
      cases hd : discB a b
      · rw [armsB_disc hd] at hq
        subst hq
        go_wp2_with fail
        refine (l8Discount_is a b _ hd _).mono ?_
        rintro e w2 ⟨rfl, rfl⟩
        go_wp2
        go_ret
        exact ⟨rfl, HB⟩
      · by_cases h3 : L.length ≤ 3
        · have g3 : (L.length : Int) ≤ 3 := by omega
          rw [armsB_all hd h3 hall] at hq
          by_cases h8 : hgts L L.length ≤ 8
          · obtain rfl : q = true := by rw [← hq]; simp [h8]
            go_wp2_with fail
            refine (l8Discount_is a b _ hd _).mono ?_
            rintro e w2 ⟨rfl, rfl⟩
            go_wp2
            go_ret
            exact ⟨rfl, HB⟩
          · obtain rfl : q = false := by rw [← hq]; simp [h8]
            go_wp2_with fail
            refine (l8Discount_is a b _ hd _).mono ?_
            rintro e w2 ⟨rfl, rfl⟩
            go_wp2
            go_ret
            exact ⟨rfl, HB⟩
        · have g3 : ¬ (L.length : Int) ≤ 3 := by omega
          rw [armsB_len h3] at hq
          subst hq
          go_wp2_with fail
          refine (l8Discount_is a b _ hd _).mono ?_
          rintro e w2 ⟨rfl, rfl⟩
          go_wp2
          go_ret
          exact ⟨rfl, HB⟩


theorem hhead_info : (Try.prog.info? 68).map (fun i => (i.zero, i.size, i.bytes)) = some (some (.slice none 0 0), 1, 24) := by kernel_rfl
/-- The rows of the box: sums, what is left, children, of the first k arms. -/
structure Out3 (w : World) (g : Nat) (L : List Mkd) (k : Nat) (As : Option Addr) (cs : Nat) (Hs : List Value) (Al : Option Addr) (cl : Nat) (Hl : List Value) (Ak : Option Addr) (ck : Nat) (Hk : List Value) : Prop where
  os : OwnV 24 w (g + 1) As cs Hs
  ol : OwnV 24 w (g + 1) Al cl Hl
  ok : OwnV 68 w (g + 1) Ak ck Hk
  sl : As = none ∨ blk As ≠ blk Al
  sk : As = none ∨ blk As ≠ blk Ak
  lk : Al = none ∨ blk Al ≠ blk Ak
  hs : HeadsT Lies0 w (fun b => b = g ∨ blk As = some b ∨ blk Al = some b ∨ blk Ak = some b) Hs k fun j => sumRow (mAt L j)
  hl : HeadsT Lies0 w (fun b => b = g ∨ blk As = some b ∨ blk Al = some b ∨ blk Ak = some b) Hl k fun j => leftRow (mAt L j)
  hk : HeadsT (LiesR Lies0) w (fun b => b = g ∨ blk As = some b ∨ blk Al = some b ∨ blk Ak = some b) Hk k fun j => ((mAt L j).P.length, fun x => kids (mAt L j).P x)
theorem Out3.below {w w' : World} {g k : Nat} {L : List Mkd} {As : Option Addr} {cs : Nat} {Hs : List Value} {Al : Option Addr} {cl : Nat} {Hl : List Value} {Ak : Option Addr} {ck : Nat} {Hk : List Value}
    (h : Out3 w g L k As cs Hs Al cl Hl Ak ck Hk) (hb : Below w.heap.size w w') : Out3 w' g L k As cs Hs Al cl Hl Ak ck Hk :=
  ⟨h.os.below hb, h.ol.below hb, h.ok.below hb, h.sl, h.sk, h.lk, h.hs.keep stays0 (.of_below hb), h.hl.keep stays0 (.of_below hb), h.hk.keep stays0.row (.of_below hb)⟩
theorem Out3.start {w : World} {g : Nat} (_ : g < w.heap.size) (L : List Mkd) : Out3 w g L 0 none 0 [] none 0 [] none 0 [] :=
  ⟨OwnV.nil _ _ _, OwnV.nil _ _ _, OwnV.nil _ _ _, .inl rfl, .inl rfl, .inl rfl, HeadsT.nil _ _ _, HeadsT.nil _ _ _, HeadsT.nil _ _ _⟩
/-- A box of eight cells. -/
structure Bx8 (w : World) (g : Nat) (x0 x1 x2 x3 x4 x5 x6 x7 : Value) : Prop where
  c0 : w.cell? ⟨g, 0, none⟩ = some x0
  c1 : w.cell? ⟨g, 1, none⟩ = some x1
  c2 : w.cell? ⟨g, 2, none⟩ = some x2
  c3 : w.cell? ⟨g, 3, none⟩ = some x3
  c4 : w.cell? ⟨g, 4, none⟩ = some x4
  c5 : w.cell? ⟨g, 5, none⟩ = some x5
  c6 : w.cell? ⟨g, 6, none⟩ = some x6
  c7 : w.cell? ⟨g, 7, none⟩ = some x7
  z : ∀ j, w.frozen? ⟨g, j, none⟩ = false
  lt : g < w.heap.size
theorem Bx8.new (w : World) (x0 x1 x2 x3 x4 x5 x6 x7 : Value) (t : TypeId) : Bx8 (w.alloc (.cells #[x0, x1, x2, x3, x4, x5, x6, x7] t)) w.heap.size x0 x1 x2 x3 x4 x5 x6 x7 := by
  have h : (w.alloc (.cells #[x0, x1, x2, x3, x4, x5, x6, x7] t)).heap[w.heap.size]? = some (.cells #[x0, x1, x2, x3, x4, x5, x6, x7] t (0, 0)) := heap_alloc_new w _
  exact ⟨by simp, by simp, by simp, by simp, by simp, by simp, by simp, by simp, fun j => frozen_of_row _ _ j _ _ h, by simp⟩
section
variable {w w' : World} {g : Nat} {x0 x1 x2 x3 x4 x5 x6 x7 : Value}
theorem Bx8.same (h : Bx8 w g x0 x1 x2 x3 x4 x5 x6 x7) (hg : w'.heap[g]? = w.heap[g]?) (hs : w.heap.size ≤ w'.heap.size) : Bx8 w' g x0 x1 x2 x3 x4 x5 x6 x7 := by
  have hc : ∀ j, w'.cell? ⟨g, j, none⟩ = w.cell? ⟨g, j, none⟩ := fun j => World.cell?_of_block (a := ⟨g, j, none⟩) hg
  exact ⟨(hc _).trans h.c0, (hc _).trans h.c1, (hc _).trans h.c2, (hc _).trans h.c3, (hc _).trans h.c4, (hc _).trans h.c5, (hc _).trans h.c6, (hc _).trans h.c7,
    fun j => (World.frozen?_of_block (a := ⟨g, j, none⟩) hg).trans (h.z j), Nat.lt_of_lt_of_le h.lt hs⟩
theorem Bx8.below (h : Bx8 w g x0 x1 x2 x3 x4 x5 x6 x7) (hb : Below w.heap.size w w') : Bx8 w' g x0 x1 x2 x3 x4 x5 x6 x7 := h.same (hb.block g h.lt) hb.size
theorem Bx8.kept {D : Nat → Prop} (h : Bx8 w g x0 x1 x2 x3 x4 x5 x6 x7) (hk : Kept w w' D) (hd : ¬ D g) : Bx8 w' g x0 x1 x2 x3 x4 x5 x6 x7 := h.same (hk.block g h.lt hd) hk.size
theorem Bx8.set3 (h : Bx8 w g x0 x1 x2 x3 x4 x5 x6 x7) (a b c : Value) : Bx8 (((w.setCell ⟨g, 3, none⟩ a).setCell ⟨g, 4, none⟩ b).setCell ⟨g, 5, none⟩ c) g x0 x1 x2 a b c x6 x7 := by
  obtain ⟨h0, h1, h2, h3, h4, h5, h6, h7, hz, hl⟩ := h
  refine ⟨by simp [go_sem, h0], by simp [go_sem, h1], by simp [go_sem, h2], by simp [go_sem, h3], by simp [go_sem, h4], by simp [go_sem, h5], by simp [go_sem, h6], by simp [go_sem, h7], fun j => by simp [go_sem, hz], by simpa [World.size_setCell] using hl⟩
end
theorem take_len {m : Mkd} {x : Nat} (h : x < m.P.length) : x = ((leftRow m).take x).length := by rw [List.length_take, leftRow_length]; omega
theorem take_next {m : Mkd} {x : Nat} (h : x < m.P.length) : (leftRow m).take x ++ [hgt m.P - nth (dep m.P) x] = (leftRow m).take (x + 1) := by
  have h' : x < (leftRow m).length := by rw [leftRow_length]; exact h
  rw [List.take_succ_eq_append_getElem h', ← nth_eq h', leftRow_nth h]
/-- The lists of one arm, in the making: the first x numbers of what is left, the children of the first y nodes; dv is the depths' row. -/
structure In2 (w : World) (B : Nat) (m : Mkd) (x y : Nat) (A : Option Addr) (c : Nat) (Ak : Option Addr) (ck : Nat) (H : List Value) (dv : Value) : Prop where
  ol : Own w B A c ((leftRow m).take x)
  ok : OwnV 24 w B Ak ck H
  ne : A = none ∨ blk A ≠ blk Ak
  hk : HeadsT Lies0 w (fun b => b < B ∨ blk A = some b ∨ blk Ak = some b) H y fun y => kids m.P y
  dl : Lies0 w (fun b => b < B ∨ blk A = some b ∨ blk Ak = some b) dv (dep m.P)
theorem ne_symm {A B : Option Addr} (h : A = none ∨ blk A ≠ blk B) : B = none ∨ blk B ≠ blk A := by
  rcases B with _ | b
  · exact .inl rfl
  · rcases h with rfl | h
    · right
      intro h
      cases h
    · exact .inr (Ne.symm h)
theorem blk_none {A : Option Addr} (h : blk A = none) : A = none := by
  cases A with
  | none => rfl
  | some a => cases h
section
variable {w w' : World} {B x y : Nat} {m : Mkd} {A : Option Addr} {c : Nat} {Ak : Option Addr} {ck : Nat} {H : List Value} {dv : Value}
theorem own_grown' {xs : List Int} (h : Own w B A c xs) (g : w.grownBy w' (blk Ak)) (hne : A = none ∨ blk A ≠ blk Ak) : Own w' B A c xs := h.grown g hne
theorem In2.below (h : In2 w B m x y A c Ak ck H dv) (hb : Below w.heap.size w w') : In2 w' B m x y A c Ak ck H dv :=
  ⟨h.ol.below hb, h.ok.below hb, h.ne, h.hk.keep stays0 (.of_below hb), stays0.keep h.dl (.of_below hb)⟩
/-- A row has grown: what lay behind others' heads lies there still. -/
theorem push_keep {α : Type} {Lie : World → (Nat → Prop) → Value → α → Prop} (S : Stays Lie) {D D2 : Nat → Prop} {A A2 : Option Addr} {u : Value} {z : α} (h : Lie w D u z) (g : w.grownBy w' (blk A)) (hA : ∀ b, blk A = some b → D b) (t : blk A2 = blk A ∨ ∃ g, blk A2 = some g ∧ w.heap.size ≤ g)
    (hD : ∀ b, D2 b → D b ∨ blk A2 = some b) : Lie w' D2 u z := by
  have h1 : Lie w (fun b => D b ∨ blk A2 = some b) u z := S.wide h fun b hb hd => by
    rcases hd with hd | hd
    · exact hd
    · rcases t with t | ⟨g, t, hg⟩
      · exact hA b (by rw [← t]; exact hd)
      · rw [t] at hd
        injection hd with hd
        omega
  exact S.wide (S.keep h1 (.of_grown g fun b hb => .inl (hA b hb))) fun b _ hd => hD b hd
theorem HeadsT.push {α : Type} {Lie : World → (Nat → Prop) → Value → α → Prop} (S : Stays Lie) {D D2 : Nat → Prop} {A A2 : Option Addr} {G : List Value} {n : Nat} {f : Nat → α} (h : HeadsT Lie w D G n f) (g : w.grownBy w' (blk A)) (hA : ∀ b, blk A = some b → D b) (t : blk A2 = blk A ∨ ∃ g, blk A2 = some g ∧ w.heap.size ≤ g)
    (hD : ∀ b, D2 b → D b ∨ blk A2 = some b) : HeadsT Lie w' D2 G n f := ⟨h.len, fun j hj => by
  obtain ⟨v, h1, h2⟩ := h.at_ j hj
  exact ⟨v, h1, push_keep S h2 g hA t hD⟩⟩
theorem push_ne {A A2 Bk : Option Addr} (hne : A = none ∨ blk A ≠ blk Bk) (t : blk A2 = blk A ∨ ∃ g, blk A2 = some g ∧ w.heap.size ≤ g) (hB : ∀ b, blk Bk = some b → b < w.heap.size) : A2 = none ∨ blk A2 ≠ blk Bk := by
  rcases t with t | ⟨g, t, hg⟩
  · rcases hne with h0 | h0
    · left; rw [h0] at t; exact blk_none t
    · right; rw [t]; exact h0
  · right
    rw [t]
    intro e
    have := hB g e.symm
    omega
theorem In2.pushL (h : In2 w B m x y A c Ak ck H dv) (hx : x < m.P.length) {A2 : Option Addr} {c2 : Nat} (o : Own w' B A2 c2 ((leftRow m).take x ++ [hgt m.P - nth (dep m.P) x])) (g : w.grownBy w' (blk A)) (t : blk A2 = blk A ∨ ∃ g, blk A2 = some g ∧ w.heap.size ≤ g) :
    In2 w' B m (x + 1) y A2 c2 Ak ck H dv := by
  have hD : ∀ b, (b < B ∨ blk A2 = some b ∨ blk Ak = some b) → (b < B ∨ blk A = some b ∨ blk Ak = some b) ∨ blk A2 = some b := fun b h => by
    rcases h with h | h | h
    · exact .inl (.inl h)
    · exact .inr h
    · exact .inl (.inr (.inr h))
  exact ⟨by rw [← take_next hx]; exact o, h.ok.grown g (ne_symm h.ne), push_ne h.ne t fun b hb => (h.ok.ltk b hb).2, h.hk.push stays0 g (fun b hb => .inr (.inl hb)) t hD, push_keep stays0 h.dl g (fun b hb => .inr (.inl hb)) t hD⟩
theorem In2.pushK (h : In2 w B m x y A c Ak ck H dv) {v : Value} {A2 : Option Addr} {c2 : Nat} (o : OwnV 24 w' B A2 c2 (H ++ [v])) (g : w.grownBy w' (blk Ak)) (t : blk A2 = blk Ak ∨ ∃ g, blk A2 = some g ∧ w.heap.size ≤ g)
    (l : Lies0 w (fun b => b < B ∨ blk A = some b ∨ blk Ak = some b) v (kids m.P y)) : In2 w' B m x (y + 1) A c A2 c2 (H ++ [v]) dv := by
  have hD : ∀ b, (b < B ∨ blk A = some b ∨ blk A2 = some b) → (b < B ∨ blk A = some b ∨ blk Ak = some b) ∨ blk A2 = some b := fun b h => by
    rcases h with h | h | h
    · exact .inl (.inl h)
    · exact .inl (.inr (.inl h))
    · exact .inr h
  exact ⟨own_grown' h.ol g h.ne, o, ne_symm (push_ne (ne_symm h.ne) t fun b hb => h.ol.ltk b hb), (h.hk.push stays0 g (fun b hb => .inr (.inr hb)) t hD).snoc (push_keep stays0 l g (fun b hb => .inr (.inr hb)) t hD), push_keep stays0 h.dl g (fun b hb => .inr (.inr hb)) t hD⟩
/-- Before the first node: two empty rows. -/
structure In0 (w : World) (B : Nat) (A Ak : Option Addr) : Prop where
  ol : Own w B A 0 []
  ok : OwnV 24 w B Ak 0 []
  ne : A = none ∨ blk A ≠ blk Ak
theorem In0.below {A Ak : Option Addr} (h : In0 w B A Ak) (hb : Below w.heap.size w w') : In0 w' B A Ak := ⟨h.ol.below hb, h.ok.below hb, h.ne⟩
theorem In0.start {A Ak A5 : Option Addr} {c5 : Nat} (m : Mkd) (hB : B ≤ w.heap.size) (h : In0 w B A Ak) (hb : Below w.heap.size w w') (o5 : Own w' w.heap.size A5 c5 (dep m.P)) : In2 w' B m 0 0 A 0 Ak 0 [] (.slice A5 (dep m.P).length c5) := by
  have h' := h.below hb
  refine ⟨by rw [List.take_zero]; exact h'.ol, h'.ok, h.ne, HeadsT.nil _ _ _, o5.lies fun g hg hd => ?_⟩
  have h1 := o5.ge g hg
  rcases hd with hd | hd | hd
  · omega
  · have := h.ol.ltk _ hd
    omega
  · have := (h.ok.ltk _ hd).2
    omega
end
section
variable {o : Oper} {a : Act} {w : World} {K : Act → World → Prop} {Q : Exit → Act → World → Prop}
theorem op_litS (t : TypeId) {x : Operand} {A : Option Addr} {n c : Nat} {ts : TypeId} (hu : Try.prog.underlying ts = some (.slice t)) (hinf : (Try.prog.info? t).map (fun i => (i.zero, i.size, i.bytes)) = some (some (.slice none 0 0), 1, 24))
    (hop : o.op = Op.buildSlice ts 1 #[(0, x)]) (hx : a.eval x = .slice A n c) (h : K (a.put o.dst (.slice (some ⟨w.heap.size, 0, none⟩) 1 1)) (w.alloc (.cells #[.slice A n c] t))) : o.wp Try.prog a w K Q := by
  obtain ⟨i0, hi, hz0, hz1, hz2⟩ := info_parts hinf
  refine op_to ?_ h
  simp only [execOp, hop]
  simp [hx]
  go_simp
  rw [run_underlying hu]
  simp [zeroValue, typeInfo, sizeOf, hi, hz0, hz1, show Array.range 1 = #[0] from by decide]
end
/-! The appends of one round, in whatever order: what each operation leaves. -/
def f11 (V g k : Nat) (m : Mkd) (As : Option Addr) (Hs : List Value) (Al : Option Addr) (Hl : List Value) (Ak : Option Addr) (Hk : List Value) (lv kv : Value) : Nat → Value → World → Prop
  | 9 => fun u w => ∃ A c, u = .slice A m.P.length c ∧ Own w V A c (sumRow m)
  | 10 => fun u w => ∃ r A c, u = .slice (some ⟨r, 0, none⟩) 1 1 ∧ V ≤ r ∧ r < w.heap.size ∧ w.cell? ⟨r, 0, none⟩ = some (.slice A m.P.length c) ∧ Own w V A c (sumRow m)
  | 11 => fun u w => ∃ r c2 A c, u = .slice (some ⟨r, 0, none⟩) (k + 1) c2 ∧ OwnV 24 w (g + 1) (some ⟨r, 0, none⟩) c2 (Hs ++ [.slice A m.P.length c]) ∧ Own w V A c (sumRow m) ∧ (some r = blk As ∨ V ≤ r)
  | 17 => fun u w => ∃ r, u = .slice (some ⟨r, 0, none⟩) 1 1 ∧ V ≤ r ∧ r < w.heap.size ∧ w.cell? ⟨r, 0, none⟩ = some lv
  | 18 => fun u w => ∃ r c2, u = .slice (some ⟨r, 0, none⟩) (k + 1) c2 ∧ OwnV 24 w (g + 1) (some ⟨r, 0, none⟩) c2 (Hl ++ [lv]) ∧ (some r = blk Al ∨ V ≤ r)
  | 24 => fun u w => ∃ r, u = .slice (some ⟨r, 0, none⟩) 1 1 ∧ V ≤ r ∧ r < w.heap.size ∧ w.cell? ⟨r, 0, none⟩ = some kv
  | 25 => fun u w => ∃ r c2, u = .slice (some ⟨r, 0, none⟩) (k + 1) c2 ∧ OwnV 68 w (g + 1) (some ⟨r, 0, none⟩) c2 (Hk ++ [kv]) ∧ (some r = blk Ak ∨ V ≤ r)
  | _ => fun _ _ => True
def ms11 : List Nat := [9, 10, 11, 17, 18, 24, 25]
section
variable {V g k : Nat} {m : Mkd} {As : Option Addr} {cs : Nat} {Hs : List Value} {Al : Option Addr} {cl : Nat} {Hl : List Value} {Ak : Option Addr} {ck : Nat} {Hk : List Value} {lv kv : Value} {w v : World} {row : Option Nat}
theorem own_far {A : Option Addr} {c : Nat} {xs : List Int} (h : Own w V A c xs) (hg : w.grownBy v row) (hrow : ∀ b, row = some b → b < V) : Own v V A c xs := by
  refine h.grown hg ?_
  rcases A with _ | a
  · exact .inl rfl
  · right
    intro e
    have h1 := hrow a.block e.symm
    have h2 := h.ge a.block rfl
    omega
theorem cell_far {r : Nat} {x : Value} (h : w.cell? ⟨r, 0, none⟩ = some x) (hr : V ≤ r) (hl : r < w.heap.size) (hg : w.grownBy v row) (hrow : ∀ b, row = some b → b < V) : v.cell? ⟨r, 0, none⟩ = some x :=
  (World.cell?_of_block (a := ⟨r, 0, none⟩) (hg.block r hl fun e => by have := hrow r e.symm; omega)).trans h
theorem ownV_far {t : TypeId} {B r c2 : Nat} {X : Option Addr} {H : List Value} (h : OwnV t w B (some ⟨r, 0, none⟩) c2 H) (hr : some r = blk X ∨ V ≤ r) (hg : w.grownBy v row) (hrow : ∀ b, row = some b → b < V) (hX : ∀ b, row = some b → blk X ≠ some b) : OwnV t v B (some ⟨r, 0, none⟩) c2 H := by
  refine h.grown hg (.inr fun e => ?_)
  have e : some r = row := e
  rcases hr with hr | hr
  · exact hX r e.symm hr.symm
  · have := hrow r e.symm
    omega
theorem f11_keep {j : Nat} {x : Value} (hg : w.grownBy v row) (hrow : ∀ b, row = some b → b < V) (h1 : j = 11 → ∀ b, row = some b → blk As ≠ some b) (h2 : j = 18 → ∀ b, row = some b → blk Al ≠ some b) (h3 : j = 25 → ∀ b, row = some b → blk Ak ≠ some b)
    (hM : ms11.contains j = true) (h : f11 V g k m As Hs Al Hl Ak Hk lv kv j x w) : f11 V g k m As Hs Al Hl Ak Hk lv kv j x v := by
  have hx : j = 9 ∨ j = 10 ∨ j = 11 ∨ j = 17 ∨ j = 18 ∨ j = 24 ∨ j = 25 := by
    simp [ms11] at hM
    omega
  rcases hx with rfl | rfl | rfl | rfl | rfl | rfl | rfl
  · obtain ⟨A, c, rfl, o⟩ := h
    exact ⟨A, c, rfl, own_far o hg hrow⟩
  · obtain ⟨r, A, c, rfl, hr, hl, hc, o⟩ := h
    exact ⟨r, A, c, rfl, hr, Nat.lt_of_lt_of_le hl hg.size, cell_far hc hr hl hg hrow, own_far o hg hrow⟩
  · obtain ⟨r, c2, A, c, rfl, o, o2, hr⟩ := h
    exact ⟨r, c2, A, c, rfl, ownV_far o hr hg hrow (h1 rfl), own_far o2 hg hrow, hr⟩
  · obtain ⟨r, rfl, hr, hl, hc⟩ := h
    exact ⟨r, rfl, hr, Nat.lt_of_lt_of_le hl hg.size, cell_far hc hr hl hg hrow⟩
  · obtain ⟨r, c2, rfl, o, hr⟩ := h
    exact ⟨r, c2, rfl, ownV_far o hr hg hrow (h2 rfl), hr⟩
  · obtain ⟨r, rfl, hr, hl, hc⟩ := h
    exact ⟨r, rfl, hr, Nat.lt_of_lt_of_le hl hg.size, cell_far hc hr hl hg hrow⟩
  · obtain ⟨r, c2, rfl, o, hr⟩ := h
    exact ⟨r, c2, rfl, ownV_far o hr hg hrow (h3 rfl), hr⟩
/-- What holds of the world throughout: the old rows stand till their appends. -/
structure G11 (u0 : World) (g : Nat) (As : Option Addr) (cs : Nat) (Hs : List Value) (Al : Option Addr) (cl : Nat) (Hl : List Value) (Ak : Option Addr) (ck : Nat) (Hk : List Value) (done : Array Bool) (w : World) : Prop where
  bl : Below (g + 1) u0 w
  kp : Kept u0 w fun b => blk As = some b ∨ blk Al = some b ∨ blk Ak = some b
  os : done.getD 11 false = false → OwnV 24 w (g + 1) As cs Hs
  ol : done.getD 18 false = false → OwnV 24 w (g + 1) Al cl Hl
  ok : done.getD 25 false = false → OwnV 68 w (g + 1) Ak ck Hk
variable {u0 : World} {done : Array Bool} {q : Nat}
theorem og_ne {j : Nat} (hne : q ≠ j) (h : (done.setIfInBounds q true).getD j false = false) : done.getD j false = false := by rwa [getD_set_ne false hne] at h
theorem og_self {md : Region.Mode} {ops : Array Oper} (hk : q ∈ Region.ready md ops done) (h : (done.setIfInBounds q true).getD q false = false) : False := by
  have := (mem_ready.1 hk).1
  have hs : q < done.size := by
    rcases Nat.lt_or_ge q done.size with h' | h'
    · exact h'
    · rw [Array.getD_eq_getD_getElem?, Array.getElem?_eq_none h'] at this
      cases this
  simp [Array.getD_eq_getD_getElem?, hs] at h
theorem G11.quiet (h : G11 u0 g As cs Hs Al cl Hl Ak ck Hk done w) (hb : Below w.heap.size w v) (hg : g < u0.heap.size) (n1 : q ≠ 11) (n2 : q ≠ 18) (n3 : q ≠ 25) : G11 u0 g As cs Hs Al cl Hl Ak ck Hk (done.setIfInBounds q true) v :=
  ⟨bUp h.bl hb (by have := h.bl.size; omega), h.kp.trans (.of_below hb), fun e => (h.os (og_ne n1 e)).below hb, fun e => (h.ol (og_ne n2 e)).below hb, fun e => (h.ok (og_ne n3 e)).below hb⟩
theorem G11.app {md : Region.Mode} {ops : Array Oper} {X : Option Addr} (h : G11 u0 g As cs Hs Al cl Hl Ak ck Hk done w) (hk : q ∈ Region.ready md ops done) (hg : w.grownBy v (blk X)) (hgs : g < u0.heap.size) (hX : ∀ b, blk X = some b → g + 1 ≤ b)
    (hD : ∀ b, blk X = some b → blk As = some b ∨ blk Al = some b ∨ blk Ak = some b) (n1 : q = 11 ∨ (q ≠ 11 ∧ (As = none ∨ blk As ≠ blk X))) (n2 : q = 18 ∨ (q ≠ 18 ∧ (Al = none ∨ blk Al ≠ blk X))) (n3 : q = 25 ∨ (q ≠ 25 ∧ (Ak = none ∨ blk Ak ≠ blk X))) :
    G11 u0 g As cs Hs Al cl Hl Ak ck Hk (done.setIfInBounds q true) v := by
  refine ⟨h.bl.grown hg (by have := h.bl.size; omega) hX, h.kp.trans (.of_grown hg hD), fun e => ?_, fun e => ?_, fun e => ?_⟩
  · rcases n1 with rfl | ⟨n1, n1'⟩
    · exact (og_self hk e).elim
    · exact (h.os (og_ne n1 e)).grown hg n1'
  · rcases n2 with rfl | ⟨n2, n2'⟩
    · exact (og_self hk e).elim
    · exact (h.ol (og_ne n2 e)).grown hg n2'
  · rcases n3 with rfl | ⟨n3, n3'⟩
    · exact (og_self hk e).elim
    · exact (h.ok (og_ne n3 e)).grown hg n3'
end
/-- Rows of other kinds lie in other blocks. -/
theorem row_types {w : World} {B B' e e' s s' n n' r r' c c' : Nat} {H H' : List Value} (h : w.ownsRow B e s (.slice (some ⟨r, 0, none⟩) n c) n H) (h' : w.ownsRow B' e' s' (.slice (some ⟨r', 0, none⟩) n' c') n' H') (he : e ≠ e') : r ≠ r' := by
  rintro rfl
  rcases h.2 with ⟨h1, _⟩ | ⟨g, cap, cur, h1, _, hg, _⟩
  · cases h1
  rcases h'.2 with ⟨h2, _⟩ | ⟨g', cap', cur', h2, _, hg', _⟩
  · cases h2
  simp only [Value.slice.injEq, Option.some.injEq, Addr.mk.injEq, and_true, true_and] at h1 h2
  obtain ⟨rfl, _⟩ := h1
  obtain ⟨rfl, _⟩ := h2
  rw [hg] at hg'
  simp only [Option.some.injEq, Obj.cells.injEq] at hg'
  exact he hg'.2.1
theorem move_keep {α : Type} {Lie : World → (Nat → Prop) → Value → α → Prop} (S : Stays Lie) {u w1 : World} {D Dk D2 : Nat → Prop} {x : Value} {z : α} (h : Lie u D x z) (hk : Kept u w1 Dk) (h1 : ∀ b, b < u.heap.size → Dk b → D b) (h2 : ∀ b, b < u.heap.size → D2 b → D b) : Lie w1 D2 x z :=
  S.wide (S.keep (S.wide (D' := fun y => D y ∨ D2 y) h fun b hb hd => hd.elim id (h2 b hb)) (hk.to fun b hb hd => .inl (h1 b hb hd))) fun _ _ hd => .inr hd
theorem HeadsT.move {α : Type} {Lie : World → (Nat → Prop) → Value → α → Prop} (S : Stays Lie) {u w1 : World} {D Dk D2 : Nat → Prop} {H : List Value} {n : Nat} {f : Nat → α} (h : HeadsT Lie u D H n f) (hk : Kept u w1 Dk) (h1 : ∀ b, b < u.heap.size → Dk b → D b) (h2 : ∀ b, b < u.heap.size → D2 b → D b) : HeadsT Lie w1 D2 H n f := ⟨h.len, fun j hj => by
  obtain ⟨v, e1, e2⟩ := h.at_ j hj
  exact ⟨v, e1, move_keep S e2 hk h1 h2⟩⟩
theorem sumRow_len {m : Mkd} (h : TreeOk m.P m.W) : (sumRow m).length = m.P.length := by rw [sumRow, gath_length, h.len]
theorem out3_next {u w1 : World} {g k V1 : Nat} {L : List Mkd} {As : Option Addr} {cs : Nat} {Hs : List Value} {Al : Option Addr} {cl : Nat} {Hl : List Value} {Ak : Option Addr} {ck : Nat} {Hk : List Value} {B : Option Addr} {cb : Nat} {Bk : Option Addr} {cbk : Nat} {H : List Value} {dv : Value}
    (ho : Out3 u g L k As cs Hs Al cl Hl Ak ck Hk) (hi : In2 u V1 (mAt L k) (mAt L k).P.length (mAt L k).P.length B cb Bk cbk H dv) (hn : 1 ≤ (mAt L k).P.length) (ht : TreeOk (mAt L k).P (mAt L k).W)
    (hgV : g < V1) (hVu : V1 ≤ u.heap.size) (hold : ∀ b, (blk As = some b ∨ blk Al = some b ∨ blk Ak = some b) → b < V1) (kp : Kept u w1 fun b => blk As = some b ∨ blk Al = some b ∨ blk Ak = some b)
    {r1 d1 r2 d2 r3 d3 : Nat} {A : Option Addr} {c : Nat} (q1 : OwnV 24 w1 (g + 1) (some ⟨r1, 0, none⟩) d1 (Hs ++ [.slice A (mAt L k).P.length c])) (qA : Own w1 u.heap.size A c (sumRow (mAt L k))) (hr1 : some r1 = blk As ∨ u.heap.size ≤ r1)
    (q2 : OwnV 24 w1 (g + 1) (some ⟨r2, 0, none⟩) d2 (Hl ++ [.slice B (mAt L k).P.length cb])) (hr2 : some r2 = blk Al ∨ u.heap.size ≤ r2)
    (q3 : OwnV 68 w1 (g + 1) (some ⟨r3, 0, none⟩) d3 (Hk ++ [.slice Bk (mAt L k).P.length cbk])) (hr3 : some r3 = blk Ak ∨ u.heap.size ≤ r3) :
    Out3 w1 g L (k + 1) (some ⟨r1, 0, none⟩) d1 (Hs ++ [.slice A (mAt L k).P.length c]) (some ⟨r2, 0, none⟩) d2 (Hl ++ [.slice B (mAt L k).P.length cb]) (some ⟨r3, 0, none⟩) d3 (Hk ++ [.slice Bk (mAt L k).P.length cbk]) := by
  have hsl := sumRow_len ht
  have hll := leftRow_length (mAt L k)
  obtain ⟨gA, hgA, hA1, hA2⟩ := qA.form (by rw [hsl]; exact hn)
  subst hgA
  have hol := hi.ol
  rw [List.take_of_length_le (by rw [hll]; exact Nat.le_refl _)] at hol
  obtain ⟨gB, hgB, hB1, hB2⟩ := hol.form (by rw [hll]; exact hn)
  subst hgB
  have hnew : ∀ b, b < u.heap.size → (b = g ∨ blk (some (⟨r1, 0, none⟩ : Addr)) = some b ∨ blk (some (⟨r2, 0, none⟩ : Addr)) = some b ∨ blk (some (⟨r3, 0, none⟩ : Addr)) = some b) → b = g ∨ blk As = some b ∨ blk Al = some b ∨ blk Ak = some b := by
    intro b hb h
    rcases h with h | h | h | h
    · exact .inl h
    · injection h with h
      have h : r1 = b := h
      subst h
      rcases hr1 with hr1 | hr1
      · exact .inr (.inl hr1.symm)
      · omega
    · injection h with h
      have h : r2 = b := h
      subst h
      rcases hr2 with hr2 | hr2
      · exact .inr (.inr (.inl hr2.symm))
      · omega
    · injection h with h
      have h : r3 = b := h
      subst h
      rcases hr3 with hr3 | hr3
      · exact .inr (.inr (.inr hr3.symm))
      · omega
  have hnewV : ∀ b, b < u.heap.size → (b = g ∨ blk (some (⟨r1, 0, none⟩ : Addr)) = some b ∨ blk (some (⟨r2, 0, none⟩ : Addr)) = some b ∨ blk (some (⟨r3, 0, none⟩ : Addr)) = some b) → b < V1 := by
    intro b hb h
    rcases hnew b hb h with h | h
    · omega
    · exact hold b h
  have n12 : r1 ≠ r2 := by
    rintro rfl
    have e1 := q1.cell (k := k) (u := .slice (some ⟨gA, 0, none⟩) (mAt L k).P.length c) (by rw [← ho.hs.len]; simp)
    have e2 := q2.cell (k := k) (u := .slice (some ⟨gB, 0, none⟩) (mAt L k).P.length cb) (by rw [← ho.hl.len]; simp)
    rw [e1] at e2
    simp only [Option.some.injEq, Value.slice.injEq, Addr.mk.injEq] at e2
    have := e2.1.1
    omega
  have n13 := row_types q1 q3 (by decide)
  have n23 := row_types q2 q3 (by decide)
  have m1 := row_types qA q1 (by decide)
  have m2 := row_types qA q2 (by decide)
  have m3 := row_types qA q3 (by decide)
  have bne : ∀ {a b : Nat}, a ≠ b → (some (⟨a, 0, none⟩ : Addr) = none ∨ blk (some (⟨a, 0, none⟩ : Addr)) ≠ blk (some (⟨b, 0, none⟩ : Addr))) := fun h => .inr fun e => h (by simpa [blk] using e)
  refine ⟨q1, q2, q3, bne n12, bne n13, bne n23, ?_, ?_, ?_⟩
  · refine (ho.hs.move stays0 kp (fun b _ h => .inr h) hnew).snoc ?_
    rw [← hsl]
    refine qA.lies fun b hb h => ?_
    have hb : gA = b := by simpa [blk] using hb
    subst hb
    simp only [blk, Option.map_some, Option.some.injEq] at h
    omega
  · refine (ho.hl.move stays0 kp (fun b _ h => .inr h) hnew).snoc ?_
    have l1 : Lies0 u (fun b => b < V1) (.slice (some ⟨gB, 0, none⟩) (mAt L k).P.length cb) (leftRow (mAt L k)) := by
      rw [← hll]
      exact hol.lies fun b hb h => by
        have := hol.ge b hb
        omega
    exact move_keep stays0 l1 kp (fun b _ h => hold b h) hnewV
  · refine (ho.hk.move stays0.row kp (fun b _ h => .inr h) hnew).snoc ?_
    have l1 : LiesR Lies0 u (fun b => b < V1) (.slice Bk (mAt L k).P.length cbk) ((mAt L k).P.length, fun x => kids (mAt L k).P x) :=
      (hi.hk.to stays0 fun b _ h => .inl h).lies hi.ok fun b hb h => by
        have := hi.ok.ge b hb
        omega
    exact move_keep stays0.row l1 kp (fun b _ h => hold b h) hnewV
theorem Out3.set {w : World} {g k : Nat} {L : List Mkd} {As : Option Addr} {cs : Nat} {Hs : List Value} {Al : Option Addr} {cl : Nat} {Hl : List Value} {Ak : Option Addr} {ck : Nat} {Hk : List Value}
    (h : Out3 w g L k As cs Hs Al cl Hl Ak ck Hk) (j : Nat) (x : Value) : Out3 (w.setCell ⟨g, j, none⟩ x) g L k As cs Hs Al cl Hl Ak ck Hk := by
  have hg := grown_setCell w ⟨g, j, none⟩ x
  have hk : Kept w (w.setCell ⟨g, j, none⟩ x) fun b => b = g ∨ blk As = some b ∨ blk Al = some b ∨ blk Ak = some b := Kept.set _ _ (.inl rfl)
  have hne : ∀ {X : Option Addr}, (∀ b, blk X = some b → g + 1 ≤ b) → (X = none ∨ blk X ≠ some g) := fun {X} hX => .inr fun e => by
    have := hX g e
    omega
  exact ⟨h.os.grown hg (hne h.os.ge), h.ol.grown hg (hne h.ol.ge), h.ok.grown hg (hne h.ok.ge), h.sl, h.sk, h.lk, h.hs.keep stays0 hk, h.hl.keep stays0 hk, h.hk.keep stays0.row hk⟩
theorem map_set3 {w : World} {g : Nat} {o : Obj} (h : w.heap[g]? = some o) (a b c : Value) : (((w.setCell ⟨g + 1, 3, none⟩ a).setCell ⟨g + 1, 4, none⟩ b).setCell ⟨g + 1, 5, none⟩ c).heap[g]? = some o := by
  simp [World.setCell, Array.getElem?_modify, h]

theorem power12 (b e p : Int) (h0 : 0 ≤ b) (h4 : b ≤ 4) (he0 : 0 ≤ e) (he : e ≤ 12) (hp : pw b e.toNat = p) (w : World) :
    Calls Try.prog 54 #[.int .i64 b, .int .i64 e] w fun e w' => e = .returned (.int .i64 p) ∧ w = w' := by
  have C := power_c b e.toNat (by omega) h0 (fun j hj => by have := (pw_bd 4 12 16777216 (by decide) h0 h4 (by decide) (k := j) (by omega)).2; omega) w
  rw [Int.toNat_of_nonneg he0, hp] at C
  exact C
set_option maxRecDepth 20000 in
set_option maxHeartbeats 2000000 in
theorem scale_c (p n : Nat) (A : Option Addr) (c : Nat) (AS : Option Addr) (cS : Nat) (AL : Option Addr) (cL : Nat) (S T : List (List Int)) (b : Int) (X : Nat → Nat) (w : World)
    (f0 : w.cell? ⟨p, 0, none⟩ = some (.slice A n c)) (f2 : w.cell? ⟨p, 2, none⟩ = some (.int .i64 b)) (f3 : w.cell? ⟨p, 3, none⟩ = some (.slice AS n cS)) (f4 : w.cell? ⟨p, 4, none⟩ = some (.slice AL n cL))
    (rS : RdSS w AS S) (rT : RdSS w AL T) (hok : ScOk S T X n) (h0 : 0 ≤ b) (h4 : b ≤ 4) :
    Calls Try.prog 77 #[.pointer (some ⟨p, 0, none⟩), .agg #[.int .i64 (X 0 : Nat), .int .i64 (X 1 : Nat), .int .i64 (X 2 : Nat)]] w (Quietly w (.int .i64 (prTo S X n * pw b (suTo T X n).toNat))) := by
  have hn3 := hok.n3
  have HB1 : Below w.heap.size w (w.alloc (.cells #[.int .i64 (X 0 : Nat), .int .i64 (X 1 : Nat), .int .i64 (X 2 : Nat)] 95)) := (Below.refl _ _).alloc (Nat.le_refl _) _
  have bx := Bx3.new w (.int .i64 (X 0 : Nat)) (.int .i64 (X 1 : Nat)) (.int .i64 (X 2 : Nat)) 95
  have k0 := (HB1.cell (cell_lt f0)).trans f0
  have k2 := (HB1.cell (cell_lt f2)).trans f2
  have k3 := (HB1.cell (cell_lt f3)).trans f3
  have k4 := (HB1.cell (cell_lt f4)).trans f4
  have sS := rS.below HB1 (Nat.le_refl _)
  have sT := rT.below HB1 (Nat.le_refl _)
  clear f0 f2 f3 f4 rS rT
  go_enter Try.func77, Try.ntmps77
  go_wp2_with fail
  generalize hu : w.alloc (.cells #[.int .i64 (X 0 : Nat), .int .i64 (X 1 : Nat), .int .i64 (X 2 : Nat)] 95) = u at *
  have hx : w.heap.size < u.heap.size := bx.2.2.2
  have hX : ∀ k, k < n → u.cell? ⟨w.heap.size, k, none⟩ = some (.int .i64 (X k : Nat)) := fun k hk => by
    match k, Nat.lt_of_lt_of_le hk hn3 with
    | 0, _ => exact bx.1
    | 1, _ => exact bx.2.1
    | 2, _ => exact bx.2.2.1
  have HX := Lib.hid hX
  clear hu bx hX
  go_wp2_with fail
  go_loopw [5, 6, 13] (fun o l i wr => ∃ k : Nat, k ≤ n ∧ i = .int .i64 (k : Int) ∧ o = .int .i64 (prTo S X k) ∧ l = .int .i64 (suTo T X k) ∧ Below u.heap.size u wr) (fun _ _ i _ => n - (intOf i).toNat)
  case atStart => exact ⟨0, by omega, rfl, rfl, rfl, Below.refl _ _⟩
  case round =>
    obtain ⟨v, rfl⟩ : ∃ v : World, v = wr := ⟨_, rfl⟩
    obtain ⟨k, hk, rfl, rfl, rfl, HB⟩ := hrel
    have g1 := hok.pr k hk
    have g2 := hok.su k hk
    by_cases hlt : k < n
    · have hk3 : (k : Int) < 3 := by omega
      obtain ⟨hx1, hx2⟩ := hok.pl k hlt
      have bx := (HB.cell (p := ⟨w.heap.size, k, none⟩) hx).trans (HX.out k hlt)
      have k3' := (HB.cell (cell_lt k3)).trans k3
      have k4' := (HB.cell (cell_lt k4)).trans k4
      obtain ⟨az, R, cr, rfl, q1, r1⟩ := (sS.below HB (Nat.le_refl _)) k (by rw [hok.lS]; exact hlt)
      obtain ⟨ar, rfl, q2⟩ := r1.intN hx1
      obtain ⟨al, R2, cr2, rfl, q3, r2⟩ := (sT.below HB (Nat.le_refl _)) k (by rw [hok.lT]; exact hlt)
      obtain ⟨ar2, rfl, q4⟩ := r2.intN hx2
      have ep : prTo S X (k + 1) = prTo S X k * nth (rowAt S k) (X k) := rfl
      have eu : suTo T X (k + 1) = suTo T X k + nth (rowAt T k) (X k) := rfl
      have g1' := hok.pr (k + 1) hlt
      have g2' := hok.su (k + 1) hlt
      have e1 : IntKind.i64.wrap (prTo S X k * nth (rowAt S k) (X k)) = prTo S X k * nth (rowAt S k) (X k) := IntWalk.i64_in _ (by rw [← ep]; omega)
      have e2 : IntKind.i64.wrap (suTo T X k + nth (rowAt T k) (X k)) = suTo T X k + nth (rowAt T k) (X k) := IntWalk.i64_in _ (by rw [← eu]; omega)
      generalize hrl : (rowAt S k).length = rl at *
      generalize hrl2 : (rowAt T k).length = rl2 at *
      have K6 := Lib.hid (And.intro k4' (And.intro q3 (And.intro bx q4)))
      go_wp2
      have hd1 : Below v.heap.size v v.drew := Below.drew (Below.refl _ _)
      have SK1 : Hid (∀ w', Below v.heap.size v w' → w'.cell? ⟨p, 3, none⟩ = some (.slice (some az) n cS) ∧ w'.cell? (az.add k) = some (.slice (some ar) rl cr) ∧ w'.cell? ⟨w.heap.size, k, none⟩ = some (.int .i64 (X k : Nat)) ∧ w'.cell? (ar.add (X k)) = some (.int .i64 (nth (rowAt S k) (X k)))) := Lib.hid fun w' HV => ⟨(HV.cell (cell_lt k3')).trans k3', (HV.cell (cell_lt q1)).trans q1, (HV.cell (cell_lt bx)).trans bx, (HV.cell (cell_lt q2)).trans q2⟩
      clear k3' q1 bx q2 k4' q3 q4
      have hS1_0 := SK1.out _ hd1
      refine tamed_region (S := fun w' => w'.cell? ⟨p, 3, none⟩ = some (.slice (some az) n cS) ∧ w'.cell? (az.add k) = some (.slice (some ar) rl cr) ∧ w'.cell? ⟨w.heap.size, k, none⟩ = some (.int .i64 (X k : Nat)) ∧ w'.cell? (ar.add (X k)) = some (.int .i64 (nth (rowAt S k) (X k)))) (fun _ => false) (by kernel_rfl) ?_
      refine tame0 (k := 0) ?_ rfl (by kernel_rfl) (by kernel_rfl) (by kernel_rfl) (fun _ _ _ h => h) (by kernel_rfl) (fun v => ?_) ?_
      rotate_left
      · (go_simp; all_goals rfl)
      simp only [Act.put, List.setIfInBounds_toArray]
      refine tame0 (k := 1) ?_ rfl (by kernel_rfl) (by kernel_rfl) (by kernel_rfl) (fun _ _ _ h => h) (by kernel_rfl) (fun v => ?_) ?_
      rotate_left
      · (go_simp; all_goals rfl)
      simp only [Act.put]
      refine tame0 (k := 2) ?_ rfl (by kernel_rfl) (by kernel_rfl) (by kernel_rfl) (fun _ _ _ h => h) (by kernel_rfl) (fun v => ?_) ?_
      rotate_left
      · (go_simp; all_goals rfl)
      simp only [Act.put]
      refine tame0 (k := 3) ?_ rfl (by kernel_rfl) (by kernel_rfl) (by kernel_rfl) (fun _ _ _ h => h) (by kernel_rfl) (fun v => ?_) ?_
      rotate_left
      · (go_simp; all_goals rfl)
      simp only [Act.put]
      refine tame (k := 4) ?_ rfl (by kernel_rfl) (by kernel_rfl) (by kernel_rfl) (by kernel_rfl) (fun _ _ _ h => h) (by kernel_rfl) hS1_0 (fun v hv => ?_) ?_
      rotate_left
      · (obtain ⟨k1, k2, k3, k4⟩ := hv; go_simp; all_goals rfl)
      simp only [Act.put]
      refine tame0 (k := 5) ?_ rfl (by kernel_rfl) (by kernel_rfl) (by kernel_rfl) (fun _ _ _ h => h) (by kernel_rfl) (fun v => ?_) ?_
      rotate_left
      · (go_simp; all_goals rfl)
      simp only [Act.put]
      refine tame0 (k := 6) ?_ rfl (by kernel_rfl) (by kernel_rfl) (by kernel_rfl) (fun _ _ _ h => h) (by kernel_rfl) (fun v => ?_) ?_
      rotate_left
      · (go_simp; all_goals rfl)
      simp only [Act.put]
      refine tame (k := 7) ?_ rfl (by kernel_rfl) (by kernel_rfl) (by kernel_rfl) (by kernel_rfl) (fun _ _ _ h => h) (by kernel_rfl) hS1_0 (fun v hv => ?_) ?_
      rotate_left
      · (obtain ⟨k1, k2, k3, k4⟩ := hv; go_simp; all_goals rfl)
      simp only [Act.put]
      refine tame0 (k := 8) ?_ rfl (by kernel_rfl) (by kernel_rfl) (by kernel_rfl) (fun _ _ _ h => h) (by kernel_rfl) (fun v => ?_) ?_
      rotate_left
      · (go_simp; all_goals rfl)
      simp only [Act.put]
      refine tame0 (k := 9) ?_ rfl (by kernel_rfl) (by kernel_rfl) (by kernel_rfl) (fun _ _ _ h => h) (by kernel_rfl) (fun v => ?_) ?_
      rotate_left
      · (go_simp; all_goals rfl)
      simp only [Act.put]
      refine tame (k := 10) ?_ rfl (by kernel_rfl) (by kernel_rfl) (by kernel_rfl) (by kernel_rfl) (fun _ _ _ h => h) (by kernel_rfl) hS1_0 (fun v hv => ?_) ?_
      rotate_left
      · (obtain ⟨k1, k2, k3, k4⟩ := hv; go_simp; all_goals rfl)
      simp only [Act.put]
      refine tame0 (k := 11) ?_ rfl (by kernel_rfl) (by kernel_rfl) (by kernel_rfl) (fun _ _ _ h => h) (by kernel_rfl) (fun v => ?_) ?_
      rotate_left
      · (go_simp; all_goals rfl)
      simp only [Act.put]
      refine tame (k := 12) ?_ rfl (by kernel_rfl) (by kernel_rfl) (by kernel_rfl) (by kernel_rfl) (fun _ _ _ h => h) (by kernel_rfl) hS1_0 (fun v hv => ?_) ?_
      rotate_left
      · (obtain ⟨k1, k2, k3, k4⟩ := hv; go_simp; all_goals rfl)
      simp only [Act.put]
      refine tame0 (k := 13) ?_ rfl (by kernel_rfl) (by kernel_rfl) (by kernel_rfl) (fun _ _ _ h => h) (by kernel_rfl) (fun v => ?_) ?_
      rotate_left
      · (go_simp; all_goals rfl)
      simp only [Act.put]
      have hS1_0v := Lib.hid hS1_0
      clear hS1_0
      refine tame_one (k := 14) (by kernel_rfl) rfl (by kernel_rfl) ?_
      go_simp
      refine ⟨by first | exact hS1_0v | exact Hid.out hS1_0v, ?_⟩
      refine tame_end (by kernel_rfl) ?_
      have HB2 : Below u.heap.size u v.drew := bUp HB (Below.drew (Below.refl _ _)) HB.size
      obtain ⟨n1, n2, n3, n4⟩ : v.drew.cell? ⟨p, 4, none⟩ = some (.slice (some al) n cL) ∧ v.drew.cell? (al.add k) = some (.slice (some ar2) rl2 cr2) ∧ v.drew.cell? ⟨w.heap.size, k, none⟩ = some (.int .i64 (X k : Nat)) ∧ v.drew.cell? (ar2.add (X k)) = some (.int .i64 (nth (rowAt T k) (X k))) := K6.out
      generalize v.drew = v2 at *
      clear K6 HB
      go_wp2
      have hd2 : Below v2.heap.size v2 v2.drew := Below.drew (Below.refl _ _)
      have SK2 : Hid (∀ w', Below v2.heap.size v2 w' → w'.cell? ⟨p, 4, none⟩ = some (.slice (some al) n cL) ∧ w'.cell? (al.add k) = some (.slice (some ar2) rl2 cr2) ∧ w'.cell? ⟨w.heap.size, k, none⟩ = some (.int .i64 (X k : Nat)) ∧ w'.cell? (ar2.add (X k)) = some (.int .i64 (nth (rowAt T k) (X k)))) := Lib.hid fun w' HV => ⟨(HV.cell (cell_lt n1)).trans n1, (HV.cell (cell_lt n2)).trans n2, (HV.cell (cell_lt n3)).trans n3, (HV.cell (cell_lt n4)).trans n4⟩
      clear n1 n2 n3 n4
      have hS2_0 := SK2.out _ hd2
      refine tamed_region (S := fun w' => w'.cell? ⟨p, 4, none⟩ = some (.slice (some al) n cL) ∧ w'.cell? (al.add k) = some (.slice (some ar2) rl2 cr2) ∧ w'.cell? ⟨w.heap.size, k, none⟩ = some (.int .i64 (X k : Nat)) ∧ w'.cell? (ar2.add (X k)) = some (.int .i64 (nth (rowAt T k) (X k)))) (fun _ => false) (by kernel_rfl) ?_
      refine tame0 (k := 0) ?_ rfl (by kernel_rfl) (by kernel_rfl) (by kernel_rfl) (fun _ _ _ h => h) (by kernel_rfl) (fun v => ?_) ?_
      rotate_left
      · (go_simp; all_goals rfl)
      simp only [Act.put, List.setIfInBounds_toArray]
      refine tame0 (k := 1) ?_ rfl (by kernel_rfl) (by kernel_rfl) (by kernel_rfl) (fun _ _ _ h => h) (by kernel_rfl) (fun v => ?_) ?_
      rotate_left
      · (go_simp; all_goals rfl)
      simp only [Act.put]
      refine tame0 (k := 2) ?_ rfl (by kernel_rfl) (by kernel_rfl) (by kernel_rfl) (fun _ _ _ h => h) (by kernel_rfl) (fun v => ?_) ?_
      rotate_left
      · (go_simp; all_goals rfl)
      simp only [Act.put]
      refine tame0 (k := 3) ?_ rfl (by kernel_rfl) (by kernel_rfl) (by kernel_rfl) (fun _ _ _ h => h) (by kernel_rfl) (fun v => ?_) ?_
      rotate_left
      · (go_simp; all_goals rfl)
      simp only [Act.put]
      refine tame (k := 4) ?_ rfl (by kernel_rfl) (by kernel_rfl) (by kernel_rfl) (by kernel_rfl) (fun _ _ _ h => h) (by kernel_rfl) hS2_0 (fun v hv => ?_) ?_
      rotate_left
      · (obtain ⟨k1, k2, k3, k4⟩ := hv; go_simp; all_goals rfl)
      simp only [Act.put]
      refine tame0 (k := 5) ?_ rfl (by kernel_rfl) (by kernel_rfl) (by kernel_rfl) (fun _ _ _ h => h) (by kernel_rfl) (fun v => ?_) ?_
      rotate_left
      · (go_simp; all_goals rfl)
      simp only [Act.put]
      refine tame0 (k := 6) ?_ rfl (by kernel_rfl) (by kernel_rfl) (by kernel_rfl) (fun _ _ _ h => h) (by kernel_rfl) (fun v => ?_) ?_
      rotate_left
      · (go_simp; all_goals rfl)
      simp only [Act.put]
      refine tame (k := 7) ?_ rfl (by kernel_rfl) (by kernel_rfl) (by kernel_rfl) (by kernel_rfl) (fun _ _ _ h => h) (by kernel_rfl) hS2_0 (fun v hv => ?_) ?_
      rotate_left
      · (obtain ⟨k1, k2, k3, k4⟩ := hv; go_simp; all_goals rfl)
      simp only [Act.put]
      refine tame0 (k := 8) ?_ rfl (by kernel_rfl) (by kernel_rfl) (by kernel_rfl) (fun _ _ _ h => h) (by kernel_rfl) (fun v => ?_) ?_
      rotate_left
      · (go_simp; all_goals rfl)
      simp only [Act.put]
      refine tame0 (k := 9) ?_ rfl (by kernel_rfl) (by kernel_rfl) (by kernel_rfl) (fun _ _ _ h => h) (by kernel_rfl) (fun v => ?_) ?_
      rotate_left
      · (go_simp; all_goals rfl)
      simp only [Act.put]
      refine tame (k := 10) ?_ rfl (by kernel_rfl) (by kernel_rfl) (by kernel_rfl) (by kernel_rfl) (fun _ _ _ h => h) (by kernel_rfl) hS2_0 (fun v hv => ?_) ?_
      rotate_left
      · (obtain ⟨k1, k2, k3, k4⟩ := hv; go_simp; all_goals rfl)
      simp only [Act.put]
      refine tame0 (k := 11) ?_ rfl (by kernel_rfl) (by kernel_rfl) (by kernel_rfl) (fun _ _ _ h => h) (by kernel_rfl) (fun v => ?_) ?_
      rotate_left
      · (go_simp; all_goals rfl)
      simp only [Act.put]
      refine tame (k := 12) ?_ rfl (by kernel_rfl) (by kernel_rfl) (by kernel_rfl) (by kernel_rfl) (fun _ _ _ h => h) (by kernel_rfl) hS2_0 (fun v hv => ?_) ?_
      rotate_left
      · (obtain ⟨k1, k2, k3, k4⟩ := hv; go_simp; all_goals rfl)
      simp only [Act.put]
      refine tame0 (k := 13) ?_ rfl (by kernel_rfl) (by kernel_rfl) (by kernel_rfl) (fun _ _ _ h => h) (by kernel_rfl) (fun v => ?_) ?_
      rotate_left
      · (go_simp; all_goals rfl)
      simp only [Act.put]
      have hS2_0v := Lib.hid hS2_0
      clear hS2_0
      refine tame_one (k := 14) (by kernel_rfl) rfl (by kernel_rfl) ?_
      go_simp
      refine ⟨by first | exact hS2_0v | exact Hid.out hS2_0v, ?_⟩
      refine tame_end (by kernel_rfl) ?_
      have HB3 : Below u.heap.size u v2.drew := bUp HB2 (Below.drew (Below.refl _ _)) HB2.size
      generalize v2.drew = v3 at *
      go_wp2
      go_roundw
      case rel => exact ⟨k + 1, by omega, by go_num, rfl, rfl, HB3⟩
      case measure => simp [intOf] <;> omega
    · obtain rfl : k = n := by omega
      have hp := pw_bd 4 12 16777216 (by decide) h0 h4 (by decide) (k := (suTo T X k).toNat) (by omega)
      have hm := mul_bd _ _ 110592000 16777216 g1.1 g1.2 hp.1 hp.2
      have e1 : IntKind.i64.wrap (prTo S X k * pw b (suTo T X k).toNat) = prTo S X k * pw b (suTo T X k).toNat := IntWalk.i64_in _ (by omega)
      have k2' := (HB.cell (cell_lt k2)).trans k2
      generalize hpw : pw b (suTo T X k).toNat = pq at *
      clear hm hp
      go_wp2_with fail
      refine (power12 b _ pq h0 h4 g2.1 g2.2 hpw _).mono ?_
      rintro e w5 ⟨rfl, rfl⟩
      go_wp2
      go_ret
      exact ⟨rfl, bUp HB1 HB HB1.size⟩

/-- What lies at p: the arms, the discount, sums and what is left. (The children and the memo are still to come.) -/
structure PyAt (w : World) (p : Nat) (L : List Mkd) (a b : Int) : Prop where
  arms : ∃ A c, w.cell? ⟨p, 0, none⟩ = some (.slice A L.length c) ∧ RdMs w A L
  va : w.cell? ⟨p, 1, none⟩ = some (.int .i64 a)
  vb : w.cell? ⟨p, 2, none⟩ = some (.int .i64 b)
  sums : ∃ A c, w.cell? ⟨p, 3, none⟩ = some (.slice A L.length c) ∧ RdSS w A (rowsF sumRow L)
  left : ∃ A c, w.cell? ⟨p, 4, none⟩ = some (.slice A L.length c) ∧ RdSS w A (rowsF leftRow L)
def NewPy (L : List Mkd) (a b : Int) : Prop := ∀ (A : Option Addr) (c : Nat) (w : World), RdMs w A L → SzMs L →
  Calls Try.prog 76 #[.slice A L.length c, .int .i64 a, .int .i64 b, .nilFunc] w fun e w' => ∃ p, e = .returned (.pointer (some ⟨p, 0, none⟩)) ∧ PyAt w' p L a b ∧ Below w.heap.size w w'
theorem scaleAt_c {L : List Mkd} {a b : Int} (hok : ArmsOk L a b) {X : Nat → Nat} (hX : AtOk L X) {p : Nat} {w : World} (h : PyAt w p L a b) :
    Calls Try.prog 77 #[.pointer (some ⟨p, 0, none⟩), .agg #[.int .i64 (X 0 : Nat), .int .i64 (X 1 : Nat), .int .i64 (X 2 : Nat)]] w
      (Quietly w (.int .i64 (prTo (rowsF sumRow L) X L.length * pw b (suTo (rowsF leftRow L) X L.length).toNat))) := by
  obtain ⟨A, c, f0, _⟩ := h.arms
  obtain ⟨AS, cS, f3, rS⟩ := h.sums
  obtain ⟨AL, cL, f4, rT⟩ := h.left
  have h0 := hok.a1
  have h1 := hok.ab
  exact scale_c p L.length A c AS cS AL cL _ _ b X w f0 h.vb f3 f4 rS rT (hok.scOk hX) (by omega) hok.b4
set_option maxRecDepth 20000 in
theorem implSc_of (A : Option Addr) (L : List Mkd) (c : Nat) (a b : Int) (hN : ArmsOk L a b → NewPy L a b) (w : World) (h : RdMs w A L) (hs : SzMs L) :
    Calls Try.prog 21 #[.slice A L.length c, .int .i64 a, .int .i64 b] w (Quietly w (.tuple #[.int .i64 (scV L a b), .bool (armsB L a b)])) := by
  cases hq : armsB L a b
  · rw [scV_no hq]
    go_enter Try.func21, Try.ntmps21
    go_wp2_with fail
    refine (areArms_is A L c a b _ hq _ h hs).mono ?_
    rintro e w2 ⟨rfl, b2⟩
    go_wp2
    go_ret2
    exact ⟨rfl, b2⟩
  · rw [scV_yes hq]
    have hok := armsB_iff.1 hq
    have HN := Lib.hid (hN hok)
    have hsc := hok.scale0 L.length (Nat.le_refl _)
    rw [← hsc]
    clear hsc
    generalize hv : prTo (rowsF sumRow L) (fun _ => 0) L.length * pw b (suTo (rowsF leftRow L) (fun _ => 0) L.length).toNat = v
    go_enter Try.func21, Try.ntmps21
    go_wp2_with fail
    refine (areArms_is A L c a b _ hq _ h hs).mono ?_
    rintro e w2 ⟨rfl, b2⟩
    go_wp2_with fail
    refine (HN.out A c _ (h.below b2 (Nat.le_refl _)) hs).mono ?_
    rintro e w3 ⟨p, rfl, hp, b3⟩
    have HB3 := bUp b2 b3 b2.size
    go_wp2_with fail
    refine (scaleAt_c hok hok.at0 hp).mono ?_
    rintro e w4 ⟨rfl, b4⟩
    rw [hv]
    go_wp2
    go_ret2
    exact ⟨rfl, bUp HB3 b4 HB3.size⟩

set_option maxRecDepth 20000 in
set_option maxHeartbeats 8000000 in
theorem newPy {L : List Mkd} {a b : Int} {pl : Value} (hpl : pl = .nilFunc ∨ ∃ fn f cs, pl = .func fn f cs) (hok : ArmsOk L a b) (A : Option Addr) (c : Nat) (w : World) (h : RdMs w A L) (hs : SzMs L) :
    Calls Try.prog 76 #[.slice A L.length c, .int .i64 a, .int .i64 b, pl] w fun e w' => e = .returned (.pointer (some ⟨w.heap.size + 1, 0, none⟩)) ∧ ∃ As cs Hs Al cl Hl Ak ck Hk,
      Bx8 w' (w.heap.size + 1) (.slice A L.length c) (.int .i64 a) (.int .i64 b) (.slice As L.length cs) (.slice Al L.length cl) (.slice Ak L.length ck) (.map (some w.heap.size)) pl ∧
      Out3 w' (w.heap.size + 1) L L.length As cs Hs Al cl Hl Ak ck Hk ∧ w'.heap[w.heap.size]? = some (.map #[] 0) ∧ Below w.heap.size w w' := by
  have hn3 := hok.n3
  have HR := Lib.hid hs.2
  have hmm : (Sem.run Try.prog (Instr.makeMap 109 none) w) = .ok (.map (some w.heap.size)) (w.alloc (.map #[] 0)) := rfl
  go_enter Try.func76, Try.ntmps76
  go_upto_region 1 with fail
  go_cut [9] (fun s9 w1 => s9 = .pointer (some ⟨w.heap.size + 1, 0, none⟩) ∧ Bx8 w1 (w.heap.size + 1) (.slice A L.length c) (.int .i64 a) (.int .i64 b) (.slice none 0 0) (.slice none 0 0) (.slice none 0 0) (.map (some w.heap.size)) pl ∧ w1.heap[w.heap.size]? = some (.map #[] 0) ∧ Below w.heap.size w w1 ∧ w1.heap.size = w.heap.size + 2)
  case first =>
    have by8 := Bx8.new (w.alloc (.map #[] 0)) (.slice A L.length c) (.int .i64 a) (.int .i64 b) (.slice none 0 0) (.slice none 0 0) (.slice none 0 0) (.map (some w.heap.size)) pl 111
    rw [World.size_alloc] at by8
    have HB1 : Below w.heap.size w ((w.alloc (.map #[] 0)).alloc (.cells #[.slice A L.length c, .int .i64 a, .int .i64 b, .slice none 0 0, .slice none 0 0, .slice none 0 0, .map (some w.heap.size), pl] 111)) := ((Below.refl _ _).alloc (Nat.le_refl _) _).alloc (by simp) _
    have hm : ((w.alloc (.map #[] 0)).alloc (.cells #[.slice A L.length c, .int .i64 a, .int .i64 b, .slice none 0 0, .slice none 0 0, .slice none 0 0, .map (some w.heap.size), pl] 111)).heap[w.heap.size]? = some (.map #[] 0) := by
      rw [heap_alloc_old _ _ (by simp)]
      exact heap_alloc_new w _
    rcases hpl with rfl | ⟨fn, f, cs, rfl⟩
    · go_wp2_with fail
      clear hmm
      go_meet
      exact ⟨rfl, by8, hm, HB1, by simp⟩
    · go_wp2_with fail
      clear hmm
      go_meet
      exact ⟨rfl, by8, hm, HB1, by simp⟩
  case rest =>
    clear hmm
    obtain ⟨rfl, b8, hm, HB, hz⟩ := hcut
    have o0 := Out3.start b8.lt L
    go_wp2_with fail
    go_loopw [26] (fun i wr => ∃ (k : Nat) (As : Option Addr) (cs : Nat) (Hs : List Value) (Al : Option Addr) (cl : Nat) (Hl : List Value) (Ak : Option Addr) (ck : Nat) (Hk : List Value), k ≤ L.length ∧ i = .int .i64 (k : Int) ∧
      Bx8 wr (w.heap.size + 1) (.slice A L.length c) (.int .i64 a) (.int .i64 b) (.slice As k cs) (.slice Al k cl) (.slice Ak k ck) (.map (some w.heap.size)) pl ∧
      Out3 wr (w.heap.size + 1) L k As cs Hs Al cl Hl Ak ck Hk ∧ wr.heap[w.heap.size]? = some (.map #[] 0) ∧ Below w.heap.size w wr) (fun i _ => L.length - (intOf i).toNat)
    case atStart => exact ⟨0, none, 0, [], none, 0, [], none, 0, [], by omega, rfl, b8, o0, hm, HB⟩
    case round =>
      clear b8 hm HB hz o0
      obtain ⟨v, rfl⟩ : ∃ v : World, v = wr := ⟨_, rfl⟩
      obtain ⟨k, As, cs, Hs, Al, cl, Hl, Ak, ck, Hk, hk, rfl, b8, o3, hm, HB⟩ := hrel
      by_cases hlt : k < L.length
      · obtain ⟨ad, A1, c1, A2, c2, A3, c3, rfl, q1, q2, q3, r1, r2, r3⟩ := h k hlt
        replace q1 := (HB.cell (cell_lt q1)).trans q1
        replace q2 := (HB.cell (cell_lt q2)).trans q2
        replace q3 := (HB.cell (cell_lt q3)).trans q3
        have hmk := HR.out k hlt
        have q2' := cellOff 1 (by omega) q2
        have q3' := cellOff 2 (by omega) q3
        have rm0 := RdMs.rdM hmk r1 r2 r3
        have rm := rm0.below HB (Nat.le_refl _)
        have harm := armB_iff.1 (hok.all k hlt)
        have hpar := harm.tree.par
        have hn1 := harm.tree.n1
        have hn2 := harm.tree.n2
        have hv2 : w.heap.size + 1 < v.heap.size := b8.lt
        have by1 := Bx3.new v (.slice A1 (mAt L k).P.length c1) (.slice A2 (mAt L k).W.length c2) (.slice A3 (mAt L k).F.length c3) 28
        have HB2 : Below v.heap.size v (v.alloc (.cells #[.slice A1 (mAt L k).P.length c1, .slice A2 (mAt L k).W.length c2, .slice A3 (mAt L k).F.length c3] 28)) := Below.alloc (Below.refl _ _) (Nat.le_refl _) _
        have b8h := Lib.hid b8
        have o3h := Lib.hid o3
        have hmh := Lib.hid hm
        clear b8 o3 hm
        go_wp2_with fail
        have e1 : Own ((v.alloc (.cells #[.slice A1 (mAt L k).P.length c1, .slice A2 (mAt L k).W.length c2, .slice A3 (mAt L k).F.length c3] 28)).alloc (.cells #[] 3)) (v.heap.size + 1) (some ⟨v.heap.size + 1, 0, none⟩) 0 [] := by
          have := Own.lit (v.alloc (.cells #[.slice A1 (mAt L k).P.length c1, .slice A2 (mAt L k).W.length c2, .slice A3 (mAt L k).F.length c3] 28)) [] (by simp)
          rw [World.size_alloc] at this
          exact this
        have e1 := e1.alloc (.cells #[] 24)
        have k1 : OwnV 24 (((v.alloc (.cells #[.slice A1 (mAt L k).P.length c1, .slice A2 (mAt L k).W.length c2, .slice A3 (mAt L k).F.length c3] 28)).alloc (.cells #[] 3)).alloc (.cells #[] 24)) (v.heap.size + 1) (some ⟨v.heap.size + 2, 0, none⟩) 0 [] := by
          have := OwnV.lit 24 ((v.alloc (.cells #[.slice A1 (mAt L k).P.length c1, .slice A2 (mAt L k).W.length c2, .slice A3 (mAt L k).F.length c3] 28)).alloc (.cells #[] 3)) [] (by simp)
          rw [World.size_alloc, World.size_alloc] at this
          exact this.mono (by omega)
        have by3 := (by1.alloc (.cells #[] 3)).alloc (.cells #[] 24)
        have HB3 := (HB2.alloc (Nat.le_of_lt by1.2.2.2) (.cells #[] 3)).alloc (by simp <;> omega) (.cells #[] 24)
        have rm3 := rm.below HB3 (Nat.le_refl _)
        have i3 : In0 (((v.alloc (.cells #[.slice A1 (mAt L k).P.length c1, .slice A2 (mAt L k).W.length c2, .slice A3 (mAt L k).F.length c3] 28)).alloc (.cells #[] 3)).alloc (.cells #[] 24)) (v.heap.size + 1) (some ⟨v.heap.size + 1, 0, none⟩) (some ⟨v.heap.size + 2, 0, none⟩) := ⟨e1, k1, .inr (by simp [blk])⟩
        clear by1 HB2 q1 q2 q3 q2' q3' e1 k1
        generalize ((v.alloc (.cells #[.slice A1 (mAt L k).P.length c1, .slice A2 (mAt L k).W.length c2, .slice A3 (mAt L k).F.length c3] 28)).alloc (.cells #[] 3)).alloc (.cells #[] 24) = v3 at *
        refine (height_c A1 (mAt L k).P c1 A2 (mAt L k).W.length c2 A3 (mAt L k).F.length c3 _ rm3.r1 hpar hn1 hn2).mono ?_
        rintro e v4 ⟨rfl, b4⟩
        have by4 := by3.below b4
        have rm4 := rm3.below b4 (Nat.le_refl _)
        have i4 := i3.below b4
        have HB4 := bUp HB3 b4 HB3.size
        clear by3 rm3 i3 b4 HB3
        obtain ⟨f0, f1, f2, fz⟩ := id by4
        go_wp2_with fail
        refine (depthsN_c A1 (mAt L k).P c1 A2 (mAt L k).W.length c2 _ rm4.r1 hpar hn1 hn2).mono ?_
        rintro e v5 ⟨A5, c5, rfl, o5, b5⟩
        have by5 := by4.below b5
        have rm5 := rm4.below b5 (Nat.le_refl _)
        have i5 := i4.start (mAt L k) (by have := HB4.size; have := by4.2.2.2; omega) b5 o5
        rw [dep_length hn1] at i5
        have HB5 := bUp HB4 b5 HB4.size
        have hz5 : v.heap.size < v5.heap.size := by5.2.2.2
        clear f0 f1 f2 fz by4 rm4 i4 b5 HB4 o5
        go_wp2_with fail
        have L1 := Lib.hid hlt
        clear hlt
        go_loopw [12, 13, 38] (fun l q i wr => ∃ (x : Nat) (B : Option Addr) (cb : Nat) (Bk : Option Addr) (cbk : Nat) (H : List Value), x ≤ (mAt L k).P.length ∧ i = .int .i64 (x : Int) ∧ l = .slice B x cb ∧ q = .slice Bk x cbk ∧
          In2 wr (v.heap.size + 1) (mAt L k) x x B cb Bk cbk H (.slice A5 (mAt L k).P.length c5) ∧ Below (v.heap.size + 1) v5 wr) (fun _ _ i _ => (mAt L k).P.length - (intOf i).toNat)
        case atStart => exact ⟨0, _, 0, _, 0, [], by omega, rfl, rfl, rfl, i5, Below.refl _ _⟩
        case round =>
          clear i5
          obtain ⟨u, rfl⟩ : ∃ u : World, u = wr := ⟨_, rfl⟩
          obtain ⟨x, B, cb, Bk, cbk, H, hx, rfl, rfl, rfl, i2, HU⟩ := hrel
          by_cases hxl : x < (mAt L k).P.length
          · have hlen := Lib.hid (take_len hxl)
            obtain ⟨a5, _, e5, rd5, _⟩ := i2.dl
            injection e5 with e5 e7 e6
            clear e7
            subst e5 e6
            obtain ⟨ad5, rfl, qx⟩ := rd5.intN (k := x) (by rw [dep_length hn1]; exact hxl)
            have hdx := hgt_dep harm hxl
            have hgb := hgt_bd (mAt L k).P
            have hh4 := harm.h4
            have fu0 := (HU.cell (p := ⟨v.heap.size, 0, none⟩) (Nat.lt_succ_self _)).trans by5.1
            have fu1 := (HU.cell (p := ⟨v.heap.size, 1, none⟩) (Nat.lt_succ_self _)).trans by5.2.1
            have hzu : v.heap.size + 1 ≤ u.heap.size := Nat.le_trans hz5 HU.size
            have hw1 : IntKind.i64.wrap (hgt (mAt L k).P - nth (dep (mAt L k).P) x) = hgt (mAt L k).P - nth (dep (mAt L k).P) x := IntWalk.i64_in _ (by omega)
            go_upto_region 9 with fail
            clear qx rd5
            have hd : Below (v.heap.size + 1) u u.drew := Below.drew (Below.refl _ _)
            have SK : Hid (∀ w', Below (v.heap.size + 1) u w' → w'.cell? ⟨v.heap.size, 0, none⟩ = some (.slice A1 (mAt L k).P.length c1) ∧ w'.cell? ⟨v.heap.size, 1, none⟩ = some (.slice A2 (mAt L k).W.length c2)) := Lib.hid fun w' HV => ⟨(HV.cell (p := ⟨v.heap.size, 0, none⟩) (Nat.lt_succ_self _)).trans fu0, (HV.cell (p := ⟨v.heap.size, 1, none⟩) (Nat.lt_succ_self _)).trans fu1⟩
            clear fu0 fu1
            have hS := SK.out _ hd
            refine tamed_region (S := fun w' => w'.cell? ⟨v.heap.size, 0, none⟩ = some (.slice A1 (mAt L k).P.length c1) ∧ w'.cell? ⟨v.heap.size, 1, none⟩ = some (.slice A2 (mAt L k).W.length c2)) (fun _ => false) (by kernel_rfl) ?_
            refine tame0 (k := 0) ?_ rfl (by kernel_rfl) (by kernel_rfl) (by kernel_rfl) (fun _ _ _ h => h) (by kernel_rfl) (fun v => ?_) ?_
            rotate_left
            · (go_simp; all_goals rfl)
            simp only [Act.put, List.setIfInBounds_toArray]
            refine tame0 (k := 1) ?_ rfl (by kernel_rfl) (by kernel_rfl) (by kernel_rfl) (fun _ _ _ h => h) (by kernel_rfl) (fun v => ?_) ?_
            rotate_left
            · (go_simp; all_goals rfl)
            simp only [Act.put]
            refine tame0 (k := 2) ?_ rfl (by kernel_rfl) (by kernel_rfl) (by kernel_rfl) (fun _ _ _ h => h) (by kernel_rfl) (fun v => ?_) ?_
            rotate_left
            · (go_simp; all_goals rfl)
            simp only [Act.put]
            refine tame0 (k := 3) ?_ rfl (by kernel_rfl) (by kernel_rfl) (by kernel_rfl) (fun _ _ _ h => h) (by kernel_rfl) (fun v => ?_) ?_
            rotate_left
            · (go_simp; all_goals rfl)
            simp only [Act.put]
            refine tame0 (k := 6) ?_ rfl (by kernel_rfl) (by kernel_rfl) (by kernel_rfl) (fun _ _ _ h => h) (by kernel_rfl) (fun v => ?_) ?_
            rotate_left
            · (go_simp; all_goals rfl)
            simp only [Act.put]
            refine tame0 (k := 7) ?_ rfl (by kernel_rfl) (by kernel_rfl) (by kernel_rfl) (fun _ _ _ h => h) (by kernel_rfl) (fun v => ?_) ?_
            rotate_left
            · (go_simp; all_goals rfl)
            simp only [Act.put]
            refine tame (k := 8) ?_ rfl (by kernel_rfl) (by kernel_rfl) (by kernel_rfl) (by kernel_rfl) (fun _ _ _ h => h) (by kernel_rfl) hS (fun v hv => ?_) ?_
            rotate_left
            · (obtain ⟨k1, k2⟩ := hv; go_simp; all_goals rfl)
            simp only [Act.put]
            refine tame0 (k := 9) ?_ rfl (by kernel_rfl) (by kernel_rfl) (by kernel_rfl) (fun _ _ _ h => h) (by kernel_rfl) (fun v => ?_) ?_
            rotate_left
            · (go_simp; all_goals rfl)
            simp only [Act.put]
            clear hS
            refine tame_one (k := 4) (by kernel_rfl) rfl (by kernel_rfl) ?_
            go_simp
            have H1 : Below (v.heap.size + 1) u (u.drew.alloc (.cells #[.int .i64 (hgt (mAt L k).P - nth (dep (mAt L k).P) x)] 3)) := hd.alloc hzu _
            have H1u : Below (v.heap.size + 1) u (u.alloc (.cells #[.int .i64 (hgt (mAt L k).P - nth (dep (mAt L k).P) x)] 3)) := (Below.refl _ _).alloc hzu _
            refine ⟨SK.out _ H1u, ?_⟩
            refine tame_one (k := 5) (by kernel_rfl) rfl (by kernel_rfl) ?_
            refine op_append_ints _ (.tmp 43) (.tmp 47) rfl (v.heap.size + 1) B x cb ((leftRow (mAt L k)).take x) rfl hlen.out (i2.ol.alloc _).drew (some ⟨u.heap.size, 0, none⟩) 1 1 [hgt (mAt L k).P - nth (dep (mAt L k).P) x] rfl rfl (Rd.box u _ _).drew (by rw [← hlen.out]; simp; omega) (by simp; omega) ?_
            intro A6 c6 u6 o6 g6 t6
            have G6 : u.grownBy u6 (blk B) := grown_of_alloc_drew g6
            have T6 : blk A6 = blk B ∨ ∃ g, blk A6 = some g ∧ u.heap.size ≤ g := by
              rcases t6 with t | t
              · exact .inl t
              · exact .inr ⟨_, t, by simp⟩
            have j6 := i2.pushL hxl o6 G6 T6
            have H6 : Below (v.heap.size + 1) u u6 := (Below.refl _ _).grown G6 hzu i2.ol.ge
            clear o6 g6 t6 G6 T6 i2
            have hz6 := H6.size
            refine ⟨fun _ => SK.out _ H6, ?_⟩
            simp only [Act.put]
            refine tame_one (k := 10) (by kernel_rfl) rfl (by kernel_rfl) ?_
            go_simp
            refine (children_c A1 (mAt L k).P c1 A2 (mAt L k).W.length c2 x _ (rm.r1.below (HB5.trans ((HU.trans H6).mono (Nat.le_succ _))) (Nat.le_refl _)) hn2).mono ?_
            rintro e u7 ⟨A7, c7, rfl, o7, b7⟩
            have j7 := j6.below b7
            have l7 : Lies0 u7 (fun b => b < v.heap.size + 1 ∨ blk A6 = some b ∨ blk Bk = some b) (.slice A7 (kids (mAt L k).P x).length c7) (kids (mAt L k).P x) := o7.lies fun g hg hd => by
              have h1 := o7.ge g hg
              rcases hd with hd | hd | hd
              · omega
              · have := j6.ol.ltk _ hd
                omega
              · have := (j6.ok.ltk _ hd).2
                omega
            have H7 := bUp H6 b7 (by omega)
            have hz7 := H7.size
            clear j6 o7 b7
            refine ⟨SK.out _ H7, ?_⟩
            refine tame_one (k := 11) (by kernel_rfl) rfl (by kernel_rfl) ?_
            refine op_litS 24 Try.underlying68 head_info rfl rfl ?_
            have H8 := H7.alloc (by omega) (.cells #[.slice A7 (kids (mAt L k).P x).length c7] 24)
            have j8 := j7.below (Below.alloc (Below.refl _ _) (Nat.le_refl _) (.cells #[.slice A7 (kids (mAt L k).P x).length c7] 24))
            have l8 := stays0.keep l7 (.of_below (Below.alloc (Below.refl _ _) (Nat.le_refl _) (.cells #[.slice A7 (kids (mAt L k).P x).length c7] 24)))
            refine ⟨fun _ => SK.out _ H8, ?_⟩
            simp only [Act.put]
            refine tame_one (k := 12) (by kernel_rfl) rfl (by kernel_rfl) ?_
            refine op_append_one 68 24 Try.underlying68 head_info _ (.tmp 49) (.tmp 54) rfl (v.heap.size + 1) Bk x cbk H rfl j8.hk.len.symm j8.ok u7.heap.size 1 (.slice A7 (kids (mAt L k).P x).length c7) rfl (by simp) rfl (by rw [j8.hk.len]; omega) (by simp; omega) ?_
            intro g9 c9 u9 o9 G9 t9
            have j9 := j8.pushK o9 G9 (by rcases t9 with t | t
                                          · exact .inl t
                                          · exact .inr ⟨_, by rw [t]; rfl, Nat.le_refl _⟩) l8
            have H9 := H8.grown G9 (by have := H8.size; omega) j8.ok.ge
            clear j7 l7 j8 l8 o9 G9 t9
            refine ⟨fun _ => SK.out _ H9, ?_⟩
            simp only [Act.put]
            refine tame_one (k := 13) (by kernel_rfl) rfl (by kernel_rfl) ?_
            go_simp
            refine ⟨SK.out _ H9, ?_⟩
            refine tame_one (k := 14) (by kernel_rfl) rfl (by kernel_rfl) ?_
            go_simp
            refine ⟨SK.out _ H9, ?_⟩
            refine tame_end (by kernel_rfl) ?_
            go_wp2_with fail
            go_roundw
            case rel => exact ⟨x + 1, A6, c6, _, c9, _, by omega, by go_num, rfl, rfl, j9, HU.trans H9⟩
            case measure => simp [intOf] <;> omega
          · obtain rfl : x = (mAt L k).P.length := by omega
            clear hx
            have HVu : Below v.heap.size v u := HB5.trans (HU.mono (Nat.le_succ _))
            have b8u := b8h.out.below HVu
            have o3u := o3h.out.below HVu
            have o3v := o3h.out
            have hmu : u.heap[w.heap.size]? = some (.map #[] 0) := (HVu.block _ (by omega)).trans hmh.out
            have fu0 := (HU.cell (p := ⟨v.heap.size, 0, none⟩) (Nat.lt_succ_self _)).trans by5.1
            have fu1 := (HU.cell (p := ⟨v.heap.size, 1, none⟩) (Nat.lt_succ_self _)).trans by5.2.1
            have hzu : v.heap.size + 1 ≤ u.heap.size := Nat.le_trans hz5 HU.size
            have hold : ∀ b, (blk As = some b ∨ blk Al = some b ∨ blk Ak = some b) → b < v.heap.size := fun b hb => by
              rcases hb with hb | hb | hb
              · exact (o3v.os.ltk b hb).2
              · exact (o3v.ol.ltk b hb).2
              · exact (o3v.ok.ltk b hb).2
            have hgo : ∀ b, (blk As = some b ∨ blk Al = some b ∨ blk Ak = some b) → w.heap.size + 2 ≤ b := fun b hb => by
              rcases hb with hb | hb | hb
              · exact o3v.os.ge b hb
              · exact o3v.ol.ge b hb
              · exact o3v.ok.ge b hb
            have HBW : Below w.heap.size w u := HB.trans (HVu.mono HB.size)
            have b8k := Lib.hid b8u
            have o3k := Lib.hid o3u
            have hmk2 := Lib.hid hmu
            have i2k := Lib.hid i2
            have fu3 := b8u.c3
            have fu4 := b8u.c4
            have fu5 := b8u.c5
            have L2 := Lib.hid o3u.hs.len
            have L3 := Lib.hid o3u.hl.len
            have L4 := Lib.hid o3u.hk.len
            clear b8u o3u hmu i2 o3v b8h o3h hmh
            go_upto_region 11 with fail
            have SK : Hid (∀ w', Kept u w' (fun b => blk As = some b ∨ blk Al = some b ∨ blk Ak = some b) → w'.cell? ⟨v.heap.size, 0, none⟩ = some (.slice A1 (mAt L k).P.length c1) ∧ w'.cell? ⟨v.heap.size, 1, none⟩ = some (.slice A2 (mAt L k).W.length c2) ∧ w'.cell? ⟨w.heap.size + 1, 3, none⟩ = some (.slice As k cs) ∧ w'.cell? ⟨w.heap.size + 1, 4, none⟩ = some (.slice Al k cl) ∧ w'.cell? ⟨w.heap.size + 1, 5, none⟩ = some (.slice Ak k ck)) := Lib.hid fun w' hK => ⟨(hK.cell (p := ⟨v.heap.size, 0, none⟩) (cell_lt fu0) (fun h => by first | (have := hold _ h; simp at this; done) | (have := hgo _ h; simp at this; done) | (have := hgo _ h; simp at this; omega))).trans fu0, (hK.cell (p := ⟨v.heap.size, 1, none⟩) (cell_lt fu1) (fun h => by first | (have := hold _ h; simp at this; done) | (have := hgo _ h; simp at this; done) | (have := hgo _ h; simp at this; omega))).trans fu1, (hK.cell (p := ⟨w.heap.size + 1, 3, none⟩) (cell_lt fu3) (fun h => by first | (have := hold _ h; simp at this; done) | (have := hgo _ h; simp at this; done) | (have := hgo _ h; simp at this; omega))).trans fu3, (hK.cell (p := ⟨w.heap.size + 1, 4, none⟩) (cell_lt fu4) (fun h => by first | (have := hold _ h; simp at this; done) | (have := hgo _ h; simp at this; done) | (have := hgo _ h; simp at this; omega))).trans fu4, (hK.cell (p := ⟨w.heap.size + 1, 5, none⟩) (cell_lt fu5) (fun h => by first | (have := hold _ h; simp at this; done) | (have := hgo _ h; simp at this; done) | (have := hgo _ h; simp at this; omega))).trans fu5⟩
            clear fu0 fu1 fu3 fu4 fu5
            have hS := SK.out u.drew ⟨Nat.le_refl _, fun _ _ _ => rfl⟩
            refine tamed_region (S := fun w' => w'.cell? ⟨v.heap.size, 0, none⟩ = some (.slice A1 (mAt L k).P.length c1) ∧ w'.cell? ⟨v.heap.size, 1, none⟩ = some (.slice A2 (mAt L k).W.length c2) ∧ w'.cell? ⟨w.heap.size + 1, 3, none⟩ = some (.slice As k cs) ∧ w'.cell? ⟨w.heap.size + 1, 4, none⟩ = some (.slice Al k cl) ∧ w'.cell? ⟨w.heap.size + 1, 5, none⟩ = some (.slice Ak k ck)) (fun k => k == 28 || k == 31 || k == 34) (by kernel_rfl) ?_
            refine tame0 (k := 0) ?_ rfl (by kernel_rfl) (by kernel_rfl) (by kernel_rfl) (fun _ _ _ h => h) (by kernel_rfl) (fun v => ?_) ?_
            rotate_left
            · (go_simp; all_goals rfl)
            simp only [Act.put, List.setIfInBounds_toArray]
            refine tame0 (k := 1) ?_ rfl (by kernel_rfl) (by kernel_rfl) (by kernel_rfl) (fun _ _ _ h => h) (by kernel_rfl) (fun v => ?_) ?_
            rotate_left
            · (go_simp; all_goals rfl)
            simp only [Act.put]
            refine tame0 (k := 2) ?_ rfl (by kernel_rfl) (by kernel_rfl) (by kernel_rfl) (fun _ _ _ h => h) (by kernel_rfl) (fun v => ?_) ?_
            rotate_left
            · (go_simp; all_goals rfl)
            simp only [Act.put]
            refine tame0 (k := 3) ?_ rfl (by kernel_rfl) (by kernel_rfl) (by kernel_rfl) (fun _ _ _ h => h) (by kernel_rfl) (fun v => ?_) ?_
            rotate_left
            · (go_simp; all_goals rfl)
            simp only [Act.put]
            refine tame0 (k := 4) ?_ rfl (by kernel_rfl) (by kernel_rfl) (by kernel_rfl) (fun _ _ _ h => h) (by kernel_rfl) (fun v => ?_) ?_
            rotate_left
            · (go_simp; all_goals rfl)
            simp only [Act.put]
            refine tame0 (k := 5) ?_ rfl (by kernel_rfl) (by kernel_rfl) (by kernel_rfl) (fun _ _ _ h => h) (by kernel_rfl) (fun v => ?_) ?_
            rotate_left
            · (go_simp; all_goals rfl)
            simp only [Act.put]
            refine tameT (k := 6) ?_ rfl (by kernel_rfl) (by kernel_rfl) (by kernel_rfl) (by kernel_rfl) (by kernel_rfl) (fun _ _ _ h => h) (by kernel_rfl) hS (fun v hv => ?_) ?_
            rotate_left
            · (obtain ⟨k1, k2, k3, k4, k5⟩ := hv; go_simp; all_goals rfl)
            simp only [Act.put]
            refine tame0 (k := 7) ?_ rfl (by kernel_rfl) (by kernel_rfl) (by kernel_rfl) (fun _ _ _ h => h) (by kernel_rfl) (fun v => ?_) ?_
            rotate_left
            · (go_simp; all_goals rfl)
            simp only [Act.put]
            refine tameT (k := 8) ?_ rfl (by kernel_rfl) (by kernel_rfl) (by kernel_rfl) (by kernel_rfl) (by kernel_rfl) (fun _ _ _ h => h) (by kernel_rfl) hS (fun v hv => ?_) ?_
            rotate_left
            · (obtain ⟨k1, k2, k3, k4, k5⟩ := hv; go_simp; all_goals rfl)
            simp only [Act.put]
            refine tame0 (k := 12) ?_ rfl (by kernel_rfl) (by kernel_rfl) (by kernel_rfl) (fun _ _ _ h => h) (by kernel_rfl) (fun v => ?_) ?_
            rotate_left
            · (go_simp; all_goals rfl)
            simp only [Act.put]
            refine tame0 (k := 13) ?_ rfl (by kernel_rfl) (by kernel_rfl) (by kernel_rfl) (fun _ _ _ h => h) (by kernel_rfl) (fun v => ?_) ?_
            rotate_left
            · (go_simp; all_goals rfl)
            simp only [Act.put]
            refine tame0 (k := 14) ?_ rfl (by kernel_rfl) (by kernel_rfl) (by kernel_rfl) (fun _ _ _ h => h) (by kernel_rfl) (fun v => ?_) ?_
            rotate_left
            · (go_simp; all_goals rfl)
            simp only [Act.put]
            refine tameT (k := 15) ?_ rfl (by kernel_rfl) (by kernel_rfl) (by kernel_rfl) (by kernel_rfl) (by kernel_rfl) (fun _ _ _ h => h) (by kernel_rfl) hS (fun v hv => ?_) ?_
            rotate_left
            · (obtain ⟨k1, k2, k3, k4, k5⟩ := hv; go_simp; all_goals rfl)
            simp only [Act.put]
            refine tame0 (k := 16) ?_ rfl (by kernel_rfl) (by kernel_rfl) (by kernel_rfl) (fun _ _ _ h => h) (by kernel_rfl) (fun v => ?_) ?_
            rotate_left
            · (go_simp; all_goals rfl)
            simp only [Act.put]
            refine tame0 (k := 19) ?_ rfl (by kernel_rfl) (by kernel_rfl) (by kernel_rfl) (fun _ _ _ h => h) (by kernel_rfl) (fun v => ?_) ?_
            rotate_left
            · (go_simp; all_goals rfl)
            simp only [Act.put]
            refine tame0 (k := 20) ?_ rfl (by kernel_rfl) (by kernel_rfl) (by kernel_rfl) (fun _ _ _ h => h) (by kernel_rfl) (fun v => ?_) ?_
            rotate_left
            · (go_simp; all_goals rfl)
            simp only [Act.put]
            refine tame0 (k := 21) ?_ rfl (by kernel_rfl) (by kernel_rfl) (by kernel_rfl) (fun _ _ _ h => h) (by kernel_rfl) (fun v => ?_) ?_
            rotate_left
            · (go_simp; all_goals rfl)
            simp only [Act.put]
            refine tameT (k := 22) ?_ rfl (by kernel_rfl) (by kernel_rfl) (by kernel_rfl) (by kernel_rfl) (by kernel_rfl) (fun _ _ _ h => h) (by kernel_rfl) hS (fun v hv => ?_) ?_
            rotate_left
            · (obtain ⟨k1, k2, k3, k4, k5⟩ := hv; go_simp; all_goals rfl)
            simp only [Act.put]
            refine tame0 (k := 23) ?_ rfl (by kernel_rfl) (by kernel_rfl) (by kernel_rfl) (fun _ _ _ h => h) (by kernel_rfl) (fun v => ?_) ?_
            rotate_left
            · (go_simp; all_goals rfl)
            simp only [Act.put]
            clear hS
            have hV1 : ∀ {X : Option Addr}, (∀ b, blk X = some b → blk As = some b ∨ blk Al = some b ∨ blk Ak = some b) → ∀ b, blk X = some b → b < u.heap.size := fun hX b hb => by
              have := hold b (hX b hb)
              omega
            have ap : ∀ {X Y : Option Addr}, (X = none ∨ blk X ≠ blk Y) → ∀ b, blk X = some b → blk Y ≠ some b := fun h b hb e => by
              rcases h with rfl | h
              · cases hb
              · exact h (by rw [hb, e])
            go_simp
            refine tamed_facts (F := f11 u.heap.size (w.heap.size + 1) k (mAt L k) As Hs Al Hl Ak Hk (.slice B (mAt L k).P.length cb) (.slice Bk (mAt L k).P.length cbk)) ms11 (G11 u (w.heap.size + 1) As cs Hs Al cl Hl Ak ck Hk)
              #[true, true, true, true, true, true, true, true, true, true, true, true, true, true, true, true, true, true, true, true, true, true, true, true, true, true, false, false, false, false, false, false, false, false, false] 9 (by decide) (by kernel_rfl) (by kernel_rfl) (fun _ w' h => SK.out w' h.kp) (by kernel_rfl) (by kernel_rfl) (by kernel_rfl) (by kernel_rfl) (by kernel_rfl)
              ⟨Below.drew (Below.refl _ _), ⟨Nat.le_refl _, fun _ _ _ => rfl⟩, fun _ => o3k.out.os, fun _ => o3k.out.ol, fun _ => o3k.out.ok⟩ ?_ ?_
            · intro q o hq hqo done a1 w2 I hk
              have hV : u.heap.size ≤ w2.heap.size := I.grow.bl.size
              have bl1 : ∀ o, Below w2.heap.size w2 (w2.alloc o) := fun o => (Below.refl _ _).alloc (Nat.le_refl _) o
              have hx : q = 9 ∨ q = 10 ∨ q = 11 ∨ q = 17 ∨ q = 18 ∨ q = 24 ∨ q = 25 := by
                simp [ms11] at hq
                omega
              rcases hx with rfl | rfl | rfl | rfl | rfl | rfl | rfl
              · have := Option.some.inj hqo
                subst this
                have e := restT_at I (s := 65) (x := .agg #[.slice A1 (mAt L k).P.length c1, .slice A2 (mAt L k).W.length c2]) (by kernel_rfl) rfl
                have hBw2 : Below w.heap.size w w2 := HBW.trans (I.grow.bl.mono (by omega))
                refine op_call1 rfl e (by go_simp) (sums_c A1 (mAt L k).P c1 A2 (mAt L k).W c2 w2 (rm0.r1.below hBw2 (Nat.le_refl _)) (rm0.r2.below hBw2 (Nat.le_refl _)) harm.tree hn1 hn2) ?_
                rintro e w3 ⟨A9, c9, rfl, o9, b9⟩
                refine ⟨_, rfl, ?_⟩
                exact ⟨_, rfl, ⟨A9, c9, rfl, o9.mono hV⟩, I.grow.quiet b9 (by omega) (by decide) (by decide) (by decide), fun j x _ hM _ hF => f11_keep (grown_of_below b9 none) (fun _ h => by cases h) (fun _ _ h => by cases h) (fun _ _ h => by cases h) (fun _ _ h => by cases h) hM hF⟩
              · have := Option.some.inj hqo
                subst this
                obtain ⟨x1, hx1, A9, c9, rfl, o9⟩ := I.at hk (j := 9) (d := 66) (by kernel_rfl) rfl rfl rfl
                refine op_litS 24 Try.underlying68 head_info rfl (eval_tmp hx1) ?_
                exact ⟨_, rfl, ⟨_, A9, c9, rfl, hV, by simp, by simp, o9.alloc _⟩, I.grow.quiet (bl1 _) (by omega) (by decide) (by decide) (by decide), fun j x _ hM _ hF => f11_keep (grown_of_below (bl1 _) none) (fun _ h => by cases h) (fun _ _ h => by cases h) (fun _ _ h => by cases h) (fun _ _ h => by cases h) hM hF⟩
              · have := Option.some.inj hqo
                subst this
                obtain ⟨x1, hx1, r, A9, c9, rfl, hr, hl, hc, o9⟩ := I.at hk (j := 10) (d := 67) (by kernel_rfl) rfl rfl rfl
                have e := restT_at I (s := 63) (x := .slice As k cs) (by kernel_rfl) rfl
                refine op_append_one 68 24 Try.underlying68 head_info w2 (.tmp 63) (.tmp 67) rfl (w.heap.size + 2) As k cs Hs (eval_tmp e) L2.out.symm (I.grow.os (ready_new hk)) r 1 (.slice A9 (mAt L k).P.length c9) (eval_tmp hx1) hc rfl (by rw [L2.out]; omega) (by omega) ?_
                intro r2 c2 w3 q2 g2 t2
                have hrow := hV1 (X := As) fun b hb => .inl hb
                exact ⟨_, rfl, ⟨r2, c2, A9, c9, rfl, q2, own_far o9 g2 hrow, t2.imp id fun h => by omega⟩, I.grow.app hk g2 (by omega) (fun b hb => hgo b (.inl hb)) (fun b hb => .inl hb) (.inl rfl) (.inr ⟨by decide, ne_symm o3k.out.sl⟩) (.inr ⟨by decide, ne_symm o3k.out.sk⟩),
                  fun j x hj hM _ hF => f11_keep g2 hrow (fun h => absurd h hj) (fun _ => ap o3k.out.sl) (fun _ => ap o3k.out.sk) hM hF⟩
              · have := Option.some.inj hqo
                subst this
                have e := restT_at I (s := 73) (x := .slice B (mAt L k).P.length cb) (by kernel_rfl) rfl
                refine op_litS 24 Try.underlying68 head_info rfl (eval_tmp e) ?_
                exact ⟨_, rfl, ⟨_, rfl, hV, by simp, by simp⟩, I.grow.quiet (bl1 _) (by omega) (by decide) (by decide) (by decide), fun j x _ hM _ hF => f11_keep (grown_of_below (bl1 _) none) (fun _ h => by cases h) (fun _ _ h => by cases h) (fun _ _ h => by cases h) (fun _ _ h => by cases h) hM hF⟩
              · have := Option.some.inj hqo
                subst this
                obtain ⟨x1, hx1, r, rfl, hr, hl, hc⟩ := I.at hk (j := 17) (d := 74) (by kernel_rfl) rfl rfl rfl
                have e := restT_at I (s := 72) (x := .slice Al k cl) (by kernel_rfl) rfl
                refine op_append_one 68 24 Try.underlying68 head_info w2 (.tmp 72) (.tmp 74) rfl (w.heap.size + 2) Al k cl Hl (eval_tmp e) L3.out.symm (I.grow.ol (ready_new hk)) r 1 (.slice B (mAt L k).P.length cb) (eval_tmp hx1) hc rfl (by rw [L3.out]; omega) (by omega) ?_
                intro r2 c2 w3 q2 g2 t2
                have hrow := hV1 (X := Al) fun b hb => .inr (.inl hb)
                exact ⟨_, rfl, ⟨r2, c2, rfl, q2, t2.imp id fun h => by omega⟩, I.grow.app hk g2 (by omega) (fun b hb => hgo b (.inr (.inl hb))) (fun b hb => .inr (.inl hb)) (.inr ⟨by decide, o3k.out.sl⟩) (.inl rfl) (.inr ⟨by decide, ne_symm o3k.out.lk⟩),
                  fun j x hj hM _ hF => f11_keep g2 hrow (fun _ => ap (ne_symm o3k.out.sl)) (fun h => absurd h hj) (fun _ => ap o3k.out.lk) hM hF⟩
              · have := Option.some.inj hqo
                subst this
                have e := restT_at I (s := 80) (x := .slice Bk (mAt L k).P.length cbk) (by kernel_rfl) rfl
                refine op_litS 68 Try.underlying108 hhead_info rfl (eval_tmp e) ?_
                exact ⟨_, rfl, ⟨_, rfl, hV, by simp, by simp⟩, I.grow.quiet (bl1 _) (by omega) (by decide) (by decide) (by decide), fun j x _ hM _ hF => f11_keep (grown_of_below (bl1 _) none) (fun _ h => by cases h) (fun _ _ h => by cases h) (fun _ _ h => by cases h) (fun _ _ h => by cases h) hM hF⟩
              · have := Option.some.inj hqo
                subst this
                obtain ⟨x1, hx1, r, rfl, hr, hl, hc⟩ := I.at hk (j := 24) (d := 81) (by kernel_rfl) rfl rfl rfl
                have e := restT_at I (s := 79) (x := .slice Ak k ck) (by kernel_rfl) rfl
                refine op_append_one 108 68 Try.underlying108 hhead_info w2 (.tmp 79) (.tmp 81) rfl (w.heap.size + 2) Ak k ck Hk (eval_tmp e) L4.out.symm (I.grow.ok (ready_new hk)) r 1 (.slice Bk (mAt L k).P.length cbk) (eval_tmp hx1) hc rfl (by rw [L4.out]; omega) (by omega) ?_
                intro r2 c2 w3 q2 g2 t2
                have hrow := hV1 (X := Ak) fun b hb => .inr (.inr hb)
                exact ⟨_, rfl, ⟨r2, c2, rfl, q2, t2.imp id fun h => by omega⟩, I.grow.app hk g2 (by omega) (fun b hb => hgo b (.inr (.inr hb))) (fun b hb => .inr (.inr hb)) (.inr ⟨by decide, o3k.out.sk⟩) (.inr ⟨by decide, o3k.out.lk⟩) (.inl rfl),
                  fun j x hj hM _ hF => f11_keep g2 hrow (fun _ => ap (ne_symm o3k.out.sk)) (fun _ => ap (ne_symm o3k.out.lk)) (fun h => absurd h hj) hM hF⟩
            · intro a1 w2 I
              obtain ⟨x1, hx1, r1, d1, A9, c9, rfl, q1, qA, t1⟩ := I.done (j := 11) (d := 68) rfl rfl rfl rfl
              obtain ⟨x2, hx2, r2, d2, rfl, q2, t2⟩ := I.done (j := 18) (d := 75) rfl rfl rfl rfl
              obtain ⟨x3, hx3, r3, d3, rfl, q3, t3⟩ := I.done (j := 25) (d := 82) rfl rfl rfl rfl
              have O := out3_next o3k.out i2k.out hn1 harm.tree (by omega) hzu (fun b hb => by have := hold b hb; omega) I.grow.kp q1 qA t1 q2 t2 q3 t3
              have b8w := b8k.out.kept I.grow.kp fun h => by have := hgo _ h; omega
              have HW := I.grow.bl
              have E := actT_put I [66, 67, 68, 74, 75, 81, 82] (by kernel_rfl)
              have D := I.defs
              have hm2 : w2.heap[w.heap.size]? = some (.map #[] 0) := (HW.block _ (by omega)).trans hmk2.out
              obtain ⟨ts, ds⟩ := a1
              simp only at E D hx1 hx2 hx3
              subst D
              have h68 : ts.getD 68 undef = .slice (some ⟨r1, 0, none⟩) (k + 1) d1 := by rw [Array.getD_eq_getD_getElem?, hx1]; rfl
              have h75 : ts.getD 75 undef = .slice (some ⟨r2, 0, none⟩) (k + 1) d2 := by rw [Array.getD_eq_getD_getElem?, hx2]; rfl
              have h82 : ts.getD 82 undef = .slice (some ⟨r3, 0, none⟩) (k + 1) d3 := by rw [Array.getD_eq_getD_getElem?, hx3]; rfl
              simp only [List.foldl, h68, h75, h82] at E
              generalize ts.getD 66 undef = v66 at E
              generalize ts.getD 67 undef = v67 at E
              generalize ts.getD 74 undef = v74 at E
              generalize ts.getD 81 undef = v81 at E
              clear I hx1 hx2 hx3 h68 h75 h82 q1 qA t1 q2 t2 q3 t3 o3k b8k i2k SK hV1 ap
              subst E
              have y3 := b8w.c3
              have y4 := b8w.c4
              have y5 := b8w.c5
              have yz3 := b8w.z 3
              have yz4 := b8w.z 4
              have yz5 := b8w.z 5
              refine tame0 (k := 26) ?_ rfl (by kernel_rfl) (by kernel_rfl) (by kernel_rfl) (fun _ _ _ h => h) (by kernel_rfl) (fun v => ?_) ?_
              rotate_left
              · (go_simp; all_goals rfl)
              simp only [Act.put, List.setIfInBounds_toArray]
              refine tame0 (k := 27) ?_ rfl (by kernel_rfl) (by kernel_rfl) (by kernel_rfl) (fun _ _ _ h => h) (by kernel_rfl) (fun v => ?_) ?_
              rotate_left
              · (go_simp; all_goals rfl)
              simp only [Act.put]
              refine tame_one (k := 28) (by kernel_rfl) rfl (by kernel_rfl) ?_
              go_simp
              try (refine ⟨fun h => absurd h (by decide), ?_⟩)
              refine tame0 (k := 29) ?_ rfl (by kernel_rfl) (by kernel_rfl) (by kernel_rfl) (fun _ _ _ h => h) (by kernel_rfl) (fun v => ?_) ?_
              rotate_left
              · (go_simp; all_goals rfl)
              simp only [Act.put, List.setIfInBounds_toArray]
              refine tame0 (k := 30) ?_ rfl (by kernel_rfl) (by kernel_rfl) (by kernel_rfl) (fun _ _ _ h => h) (by kernel_rfl) (fun v => ?_) ?_
              rotate_left
              · (go_simp; all_goals rfl)
              simp only [Act.put]
              refine tame_one (k := 31) (by kernel_rfl) rfl (by kernel_rfl) ?_
              go_simp
              try (refine ⟨fun h => absurd h (by decide), ?_⟩)
              refine tame0 (k := 32) ?_ rfl (by kernel_rfl) (by kernel_rfl) (by kernel_rfl) (fun _ _ _ h => h) (by kernel_rfl) (fun v => ?_) ?_
              rotate_left
              · (go_simp; all_goals rfl)
              simp only [Act.put, List.setIfInBounds_toArray]
              refine tame0 (k := 33) ?_ rfl (by kernel_rfl) (by kernel_rfl) (by kernel_rfl) (fun _ _ _ h => h) (by kernel_rfl) (fun v => ?_) ?_
              rotate_left
              · (go_simp; all_goals rfl)
              simp only [Act.put]
              refine tame_one (k := 34) (by kernel_rfl) rfl (by kernel_rfl) ?_
              go_simp
              try (refine ⟨fun h => absurd h (by decide), ?_⟩)
              refine tame_end (by kernel_rfl) ?_
              have b9 := b8w.set3 (.slice (some ⟨r1, 0, none⟩) (k + 1) d1) (.slice (some ⟨r2, 0, none⟩) (k + 1) d2) (.slice (some ⟨r3, 0, none⟩) (k + 1) d3)
              have O9 := ((O.set 3 (.slice (some ⟨r1, 0, none⟩) (k + 1) d1)).set 4 (.slice (some ⟨r2, 0, none⟩) (k + 1) d2)).set 5 (.slice (some ⟨r3, 0, none⟩) (k + 1) d3)
              have HBw2 : Below w.heap.size w w2 := HBW.trans (HW.mono (by omega))
              have HB9 := ((HBw2.setCell (p := ⟨w.heap.size + 1, 3, none⟩) (Nat.le_succ _) (.slice (some ⟨r1, 0, none⟩) (k + 1) d1)).setCell (p := ⟨w.heap.size + 1, 4, none⟩) (Nat.le_succ _) (.slice (some ⟨r2, 0, none⟩) (k + 1) d2)).setCell (p := ⟨w.heap.size + 1, 5, none⟩) (Nat.le_succ _) (.slice (some ⟨r3, 0, none⟩) (k + 1) d3)
              have hm9 := map_set3 hm2 (.slice (some ⟨r1, 0, none⟩) (k + 1) d1) (.slice (some ⟨r2, 0, none⟩) (k + 1) d2) (.slice (some ⟨r3, 0, none⟩) (k + 1) d3)
              clear y3 y4 y5 yz3 yz4 yz5 b8w O HBw2 hm2
              go_wp2_with fail
              go_roundw
              case rel => exact ⟨k + 1, _, _, _, _, _, _, _, _, _, L1.out, by go_num, b9, O9, hm9, HB9⟩
              case measure => have := L1.out; simp [intOf] <;> omega
      · obtain rfl : k = L.length := by omega
        go_wp2_with fail
        go_ret
        exact ⟨rfl, As, cs, Hs, Al, cl, Hl, Ak, ck, Hk, b8, o3, hm, HB⟩

theorem heads_ss {w : World} {t : TypeId} {B c n : Nat} {A : Option Addr} {D : Nat → Prop} {H : List Value} {xss : List (List Int)} {f : Nat → List Int} (ho : OwnV t w B A c H) (hh : HeadsT Lies0 w D H n f) (hl : xss.length = n) (hf : ∀ k, k < n → rowAt xss k = f k) : RdSS w A xss := by
  intro k hk
  have hk' : k < n := by omega
  obtain ⟨g, rfl, _, _⟩ := ho.form (by rw [hh.len]; omega)
  obtain ⟨v, h1, a, c', rfl, h3, _⟩ := hh.at_ k hk'
  exact ⟨_, a, c', rfl, by rw [Addr.add_lit, Nat.zero_add, hf k hk']; exact ho.cell h1, by rw [hf k hk']; exact h3⟩
theorem newPyAt {L : List Mkd} {a b : Int} (hok : ArmsOk L a b) : NewPy L a b := by
  intro A c w h hs
  refine (newPy (.inl rfl) hok A c w h hs).mono ?_
  rintro e w' ⟨rfl, As, cs, Hs, Al, cl, Hl, Ak, ck, Hk, b8, o3, _, hb⟩
  exact ⟨_, rfl, ⟨⟨A, c, b8.c0, h.below hb (Nat.le_refl _)⟩, b8.c1, b8.c2, ⟨As, cs, b8.c3, heads_ss o3.os o3.hs (rowsF_length _ _) fun k hk => rowsF_at hk⟩, ⟨Al, cl, b8.c4, heads_ss o3.ol o3.hl (rowsF_length _ _) fun k hk => rowsF_at hk⟩⟩, hb⟩
theorem implSc_c (A : Option Addr) (L : List Mkd) (c : Nat) (a b : Int) (w : World) (h : RdMs w A L) (hs : SzMs L) :
    Calls Try.prog 21 #[.slice A L.length c, .int .i64 a, .int .i64 b] w (Quietly w (.tuple #[.int .i64 (scV L a b), .bool (armsB L a b)])) := implSc_of A L c a b newPyAt w h hs


end Go.Proofs.Ytfobjkdkjlbkfaa
