/- Slices of structs of three lists (Arm): how they lie in memory; the laws own helpers on them. -/
import Derived.Test.YthhpioohdkglkaaMk2
import Derived.Test.YthhpioohdkglkaaButA
namespace Go.Proofs.Ythhpioohdkglkaa
open Go.RowKit

/-- One struct's three lists. -/
structure Mkd where
  P : List Int
  W : List Int
  F : List Int
instance : Inhabited Mkd := ⟨⟨[], [], []⟩⟩
def mAt (L : List Mkd) (k : Nat) : Mkd := L.getD k ⟨[], [], []⟩
/-- The structs from an address on read as the lists' list. -/
def RdMs (w : World) (A : Option Addr) (L : List Mkd) : Prop :=
  ∀ k, k < L.length → ∃ (ad : Addr) (A1 : Option Addr) (c1 : Nat) (A2 : Option Addr) (c2 : Nat) (A3 : Option Addr) (c3 : Nat), A = some ad ∧
    w.cell? (ad.add (k * 3)) = some (.slice A1 (mAt L k).P.length c1) ∧ w.cell? (ad.add (k * 3 + 1)) = some (.slice A2 (mAt L k).W.length c2) ∧ w.cell? (ad.add (k * 3 + 2)) = some (.slice A3 (mAt L k).F.length c3) ∧
    Rd w A1 (ints (mAt L k).P) ∧ Rd w A2 (ints (mAt L k).W) ∧ Rd w A3 (ints (mAt L k).F)
section
variable {w w' : World} {A : Option Addr} {L : List Mkd}
theorem RdMs.keep (h : RdMs w A L) (hk : ∀ p : Addr, p.block < w.heap.size → w'.cell? p = w.cell? p) : RdMs w' A L := by
  intro k hk'
  obtain ⟨ad, A1, c1, A2, c2, A3, c3, rfl, h1, h2, h3, r1, r2, r3⟩ := h k hk'
  exact ⟨ad, A1, c1, A2, c2, A3, c3, rfl, (hk _ (cell_lt h1)).trans h1, (hk _ (cell_lt h2)).trans h2, (hk _ (cell_lt h3)).trans h3, r1.keep fun p hp _ => hk p hp, r2.keep fun p hp _ => hk p hp, r3.keep fun p hp _ => hk p hp⟩
theorem RdMs.below {B : Nat} (h : RdMs w A L) (hb : Below B w w') (hB : w.heap.size ≤ B) : RdMs w' A L := h.keep fun _ hp => hb.cell (by omega)
theorem RdMs.drewN (h : RdMs w A L) (n : Nat) : RdMs (w.drewN n) A L := h
theorem RdMs.dr (h : RdMs w A L) (hd : Dr w w') : RdMs w' A L := by
  obtain ⟨n, rfl⟩ := hd
  exact h
theorem RdMs.nil (w : World) (A : Option Addr) : RdMs w A [] := fun k hk => by simp at hk
end
theorem adOff (a : Addr) (i j : Nat) (hj : 0 < j) : ({ block := (a.add i).block, off := (a.add i).off + j } : Addr) = a.add (i + j) := by
  unfold Addr.add
  by_cases hi : i = 0 <;> simp [hi, Nat.add_assoc] <;> omega
theorem cellOff {w : World} {a : Addr} {i : Nat} {v : Value} (j : Nat) (hj : 0 < j) (h : w.cell? (a.add (i + j)) = some v) : w.cell? { block := (a.add i).block, off := (a.add i).off + j } = some v := by
  rw [adOff a i j hj]
  exact h
/-- No list is long. -/
def SzMs (L : List Mkd) : Prop := L.length ≤ 1048576 ∧ ∀ k, k < L.length → (mAt L k).P.length ≤ 1048576 ∧ (mAt L k).W.length ≤ 1048576 ∧ (mAt L k).F.length ≤ 1048576
/-- It answers less than 0, or the lists are not long. -/
def SzMsPost (w : World) (L : List Mkd) (e : Ending) (w' : World) : Prop := ∃ r : Int, e = .returned (.int .i64 r) ∧ (r < 0 ∨ (0 ≤ r ∧ SzMs L)) ∧ Below w.heap.size w w'
def LgMs (L : List Mkd) : Prop := ∀ k, k < L.length → (mAt L k).P.length ≤ 9223372036854775807 ∧ (mAt L k).W.length ≤ 9223372036854775807 ∧ (mAt L k).F.length ≤ 9223372036854775807
set_option maxRecDepth 20000 in
set_option maxHeartbeats 1000000 in
theorem szArmS_c (A : Option Addr) (L : List Mkd) (c : Nat) (w : World) (ha : RdMs w A L) (hn : L.length ≤ 9223372036854775807) (hr : LgMs L) :
    Calls Try.prog 8 #[.slice A L.length c, .int .i64 1048576] w (SzMsPost w L) := by
  have HR := Lib.hid hr
  clear hr
  by_cases h : (1048576 : Int) < (L.length : Int)
  · have h' : 1048576 - (L.length : Int) < 0 := by omega
    go_enter Try.func8, Try.ntmps8
    go_wp2
    go_ret
    exact ⟨-1, rfl, .inl (by decide), Below.refl _ _⟩
  · have h0 : L.length ≤ 1048576 := by omega
    have h' : ¬ 1048576 - (L.length : Int) < 0 := by omega
    go_enter Try.func8, Try.ntmps8
    go_wp2
    go_loopw [1, 5] (fun l i wr => ∃ (k : Nat) (r : Int), k ≤ L.length ∧ i = .int .i64 (k : Int) ∧ l = .int .i64 r ∧ 0 ≤ r ∧ r ≤ 1048576 ∧ (∀ j, j < k → (mAt L j).P.length ≤ 1048576 ∧ (mAt L j).W.length ≤ 1048576 ∧ (mAt L j).F.length ≤ 1048576) ∧ Below w.heap.size w wr) (fun _ i _ => L.length - (intOf i).toNat)
    case atStart => exact ⟨0, _, Nat.zero_le _, rfl, rfl, by omega, by omega, fun j hj => by omega, Below.refl _ _⟩
    case round =>
      obtain ⟨k, r, hk, rfl, rfl, hr0, hr1, hall, hB⟩ := hrel
      obtain ⟨wo, rfl⟩ : ∃ wo : World, wo = wr := ⟨_, rfl⟩
      have HA := Lib.hid hall
      clear hall
      by_cases hlt : k < L.length
      · obtain ⟨a, A1, c1, A2, c2, A3, c3, rfl, q1, q2, q3, _, _, _⟩ := (ha.below hB (Nat.le_refl _)) k hlt
        have hm := HR.out k hlt
        have q2' := cellOff 1 (by omega) q2
        have q3' := cellOff 2 (by omega) q3
        go_wp2_with fail
        refine (szArm_c A1 (mAt L k).P.length c1 A2 (mAt L k).W.length c2 A3 (mAt L k).F.length c3 r _ hr0 hr1 hm.1 hm.2.1 hm.2.2).mono ?_
        rintro e w2 ⟨⟨r2, rfl, hr2⟩, b2⟩
        have HB2 := bUp hB b2 hB.size
        rcases hr2 with hr2 | ⟨hr2, he⟩
        · go_wp2
          go_ret
          exact ⟨-1, rfl, .inl (by decide), HB2⟩
        · have HE := Lib.hid he
          clear he
          go_wp2
          go_roundw
          case rel => exact ⟨k + 1, r2, by omega, by go_num, rfl, hr2, by have := HE.out; omega, fun j hj => by
            rcases Nat.lt_or_ge j k with hj' | hj'
            · exact HA.out j hj'
            · obtain rfl : j = k := by omega
              have := HE.out
              omega, HB2⟩
          case measure => simp [intOf] <;> omega
      · obtain rfl : k = L.length := by omega
        go_wp2
        go_ret
        exact ⟨r, rfl, .inr ⟨hr0, h0, HA.out⟩, hB⟩

theorem mk_info : (Try.prog.info? 39).map (fun i => (i.zero, i.size, i.bytes)) = some (some (.agg #[.slice none 0 0, .slice none 0 0, .slice none 0 0]), 3, 72) := by kernel_rfl
/-- The first k structs are copied: their heads lie in the row, their lists behind it. -/
def HalfMs (w : World) (B : Nat) (L : List Mkd) (k : Nat) (cur : List Value) : Prop :=
  ∀ j, j < k → ∃ g1 g2 g3, cur[j * 3]? = some (.slice (some ⟨g1, 0, none⟩) (mAt L j).P.length (mAt L j).P.length) ∧ cur[j * 3 + 1]? = some (.slice (some ⟨g2, 0, none⟩) (mAt L j).W.length (mAt L j).W.length) ∧
    cur[j * 3 + 2]? = some (.slice (some ⟨g3, 0, none⟩) (mAt L j).F.length (mAt L j).F.length) ∧ OwnM w (B + 1) g1 g2 g3 (mAt L j).P (mAt L j).W (mAt L j).F
theorem OwnM.setOther {w : World} {B g1 g2 g3 : Nat} {P W F : List Int} (h : OwnM w B g1 g2 g3 P W F) (p : Addr) (u : Value) (hp : p.block < B) : OwnM (w.setCell p u) B g1 g2 g3 P W F := by
  have b1 : B ≤ g1 := (h.o1.lt _ rfl).1
  have b2 : B ≤ g2 := (h.o2.lt _ rfl).1
  have b3 : B ≤ g3 := (h.o3.lt _ rfl).1
  exact ⟨h.o1.setOther p u (.inr (by simp [blk] <;> omega)), h.o2.setOther p u (.inr (by simp [blk] <;> omega)), h.o3.setOther p u (.inr (by simp [blk] <;> omega)), h.l1, h.l2⟩
theorem HalfMs.step {w w2 : World} {B : Nat} {L : List Mkd} {k : Nat} {cur : List Value} {g1 g2 g3 : Nat} (h : HalfMs w B L k cur) (hc : k * 3 + 2 < cur.length) (hb : Below w.heap.size w w2) (hB : B < w.heap.size)
    (ho : OwnM w2 w.heap.size g1 g2 g3 (mAt L k).P (mAt L k).W (mAt L k).F) (x y z : Value) (hx : x = .slice (some ⟨g1, 0, none⟩) (mAt L k).P.length (mAt L k).P.length) (hy : y = .slice (some ⟨g2, 0, none⟩) (mAt L k).W.length (mAt L k).W.length) (hz : z = .slice (some ⟨g3, 0, none⟩) (mAt L k).F.length (mAt L k).F.length) :
    HalfMs (((w2.setCell ⟨B, k * 3, none⟩ x).setCell ⟨B, k * 3 + 1, none⟩ y).setCell ⟨B, k * 3 + 2, none⟩ z) B L (k + 1) (((cur.set (k * 3) x).set (k * 3 + 1) y).set (k * 3 + 2) z) := by
  intro j hj
  rcases Nat.lt_or_ge j k with hlt | hge
  · obtain ⟨a1, a2, a3, e1, e2, e3, o⟩ := h j hlt
    refine ⟨a1, a2, a3, ?_, ?_, ?_, (((o.below hb).setOther _ _ (Nat.lt_succ_self B)).setOther _ _ (Nat.lt_succ_self B)).setOther _ _ (Nat.lt_succ_self B)⟩
    · rw [List.getElem?_set_ne (by omega), List.getElem?_set_ne (by omega), List.getElem?_set_ne (by omega), e1]
    · rw [List.getElem?_set_ne (by omega), List.getElem?_set_ne (by omega), List.getElem?_set_ne (by omega), e2]
    · rw [List.getElem?_set_ne (by omega), List.getElem?_set_ne (by omega), List.getElem?_set_ne (by omega), e3]
  · obtain rfl : j = k := by omega
    refine ⟨g1, g2, g3, ?_, ?_, ?_, ((((ho.mono (by omega)).setOther _ _ (Nat.lt_succ_self B)).setOther _ _ (Nat.lt_succ_self B)).setOther _ _ (Nat.lt_succ_self B))⟩
    · rw [List.getElem?_set_ne (by omega), List.getElem?_set_ne (by omega), List.getElem?_set_self (by omega), hx]
    · rw [List.getElem?_set_ne (by omega), List.getElem?_set_self (by simp; omega), hy]
    · rw [List.getElem?_set_self (by simp; omega), hz]
set_option maxRecDepth 20000 in
set_option maxHeartbeats 1000000 in
theorem toArmS_c (A : Option Addr) (L : List Mkd) (c : Nat) (w : World) (ha : RdMs w A L) (hs : SzMs L) :
    Calls Try.prog 10 #[.slice A L.length c] w fun e w' => ∃ g, e = .returned (.slice (some ⟨g, 0, none⟩) L.length L.length) ∧ RdMs w' (some ⟨g, 0, none⟩) L ∧ Below w.heap.size w w' := by
  obtain ⟨i0, hi, hz0, hz1, hz2⟩ := info_parts mk_info
  have hn := hs.1
  have HR := Lib.hid hs.2
  clear hs
  go_enter Try.func10, Try.ntmps10
  go_wp2_with (at_make; refine wpList_make_full _ rfl _ _ _ rfl w.heap.size 39 i0 _ 3 Try.underlying26 hi hz0 hz1 _ _ _ _ L.length rfl rfl rfl rfl (by rw [hz2]; omega) (by unfold maxLen; omega) (Nat.le_refl _) ?_)
  intro w1 hown hg
  have hb1 : Below w.heap.size w w1 := (Below.refl _ _).grown hg (Nat.le_refl _) (by simp)
  clear hg
  go_wp2
  go_loopw [4] (fun i wr => ∃ (k : Nat) (cur : List Value), k ≤ L.length ∧ i = .int .i64 k ∧
      wr.ownsRow w.heap.size 39 3 (.slice (some ⟨w.heap.size, 0, none⟩) L.length L.length) L.length cur ∧ HalfMs wr w.heap.size L k cur ∧ Below w.heap.size w wr)
    (fun i _ => L.length - (intOf i).toNat)
  case atStart => exact ⟨0, _, by omega, rfl, hown, fun j hj => by omega, hb1⟩
  case round =>
    obtain ⟨wo, rfl⟩ : ∃ wo : World, wo = wr := ⟨_, rfl⟩
    obtain ⟨k, cur, hk, rfl, ho, hh, hb⟩ := hrel
    clear hown hb1
    by_cases hlt : k < L.length
    · obtain ⟨a, A1, c1, A2, c2, A3, c3, rfl, q1, q2, q3, r1, r2, r3⟩ := (ha.below hb (Nat.le_refl _)) k hlt
      have hm := HR.out k hlt
      have q2' := cellOff 1 (by omega) q2
      have q3' := cellOff 2 (by omega) q3
      go_wp2_with fail
      refine (toArm_c A1 (mAt L k).P c1 A2 (mAt L k).W c2 A3 (mAt L k).F c3 _ r1 r2 r3 (by omega) (by omega) (by omega)).mono ?_
      rintro e w2 ⟨g1, g2, g3, rfl, om, hb2⟩
      have hlo := row_lt ho
      have hlen := ho.1
      have HS := hh.step (by omega) hb2 hlo.2 om _ _ _ rfl rfl rfl
      have R0 := row_below ho hb2
      have R1 := (R0.stored (k * 3) (.slice (some ⟨g1, 0, none⟩) (mAt L k).P.length (mAt L k).P.length)).1
      have R2 := (R1.stored (k * 3 + 1) (.slice (some ⟨g2, 0, none⟩) (mAt L k).W.length (mAt L k).W.length)).1
      have R3 := (R2.stored (k * 3 + 2) (.slice (some ⟨g3, 0, none⟩) (mAt L k).F.length (mAt L k).F.length)).1
      have HB := (((bUp hb hb2 hb.size).setCell (p := ⟨w.heap.size, k * 3, none⟩) (Nat.le_refl _) (.slice (some ⟨g1, 0, none⟩) (mAt L k).P.length (mAt L k).P.length)).setCell (p := ⟨w.heap.size, k * 3 + 1, none⟩) (Nat.le_refl _) (.slice (some ⟨g2, 0, none⟩) (mAt L k).W.length (mAt L k).W.length)).setCell (p := ⟨w.heap.size, k * 3 + 2, none⟩) (Nat.le_refl _) (.slice (some ⟨g3, 0, none⟩) (mAt L k).F.length (mAt L k).F.length)
      have c0 := R0.cellAt (k * 3) (by omega)
      rw [List.getElem?_eq_getElem (by omega)] at c0
      have c1' := R0.cellAt (k * 3 + 1) (by omega)
      rw [List.getElem?_eq_getElem (by omega)] at c1'
      have c2' := R0.cellAt (k * 3 + 2) (by omega)
      rw [List.getElem?_eq_getElem (by omega)] at c2'
      have f0 := R0.frozenAt (k * 3)
      have f1 := R0.frozenAt (k * 3 + 1)
      have f2 := R0.frozenAt (k * 3 + 2)
      clear hh om R0 R1 R2
      go_wp2
      go_roundw
      case rel => exact ⟨k + 1, _, by omega, by go_num, R3, HS, HB⟩
      case measure => simp [intOf] <;> omega
    · have hkn : k = L.length := by omega
      subst hkn
      go_wp2
      go_ret
      refine ⟨w.heap.size, rfl, fun j hj => ?_, hb⟩
      obtain ⟨g1, g2, g3, e1, e2, e3, om⟩ := hh j hj
      exact ⟨⟨w.heap.size, 0, none⟩, _, _, _, _, _, _, rfl, ho.cells rfl _ _ e1, ho.cells rfl _ _ e2, ho.cells rfl _ _ e3, om.o1.rd, om.o2.rd, om.o3.rd⟩

set_option maxRecDepth 20000 in
set_option maxHeartbeats 1000000 in
theorem eqArmS_same (A B : Option Addr) (L : List Mkd) (ca cb : Nat) (w : World) (ha : RdMs w A L) (hb : RdMs w B L) (hs : SzMs L) :
    Calls Try.prog 12 #[.slice A L.length ca, .slice B L.length cb] w (Quietly w (.bool true)) := by
  have hn := hs.1
  have HR := Lib.hid hs.2
  clear hs
  have hl1 : ((L.length : Int) != (L.length : Int)) = false := by simp
  go_enter Try.func12, Try.ntmps12
  go_wp2
  go_loopw [5] (fun i wr => ∃ k : Nat, k ≤ L.length ∧ i = .int .i64 k ∧ Below w.heap.size w wr) (fun i _ => L.length - (intOf i).toNat)
  case atStart => exact ⟨0, by omega, rfl, Below.refl _ _⟩
  case round =>
    obtain ⟨wo, rfl⟩ : ∃ wo : World, wo = wr := ⟨_, rfl⟩
    obtain ⟨k, hk, rfl, HB⟩ := hrel
    by_cases hlt : k < L.length
    · obtain ⟨a, A1, c1, A2, c2, A3, c3, rfl, q1, q2, q3, r1, r2, r3⟩ := (ha.below HB (Nat.le_refl _)) k hlt
      obtain ⟨b, B1, d1, B2, d2, B3, d3, rfl, p1, p2, p3, s1, s2, s3⟩ := (hb.below HB (Nat.le_refl _)) k hlt
      have hm := HR.out k hlt
      have q2' := cellOff 1 (by omega) q2
      have q3' := cellOff 2 (by omega) q3
      have p2' := cellOff 1 (by omega) p2
      have p3' := cellOff 2 (by omega) p3
      go_wp2
      have hd1 : Below wo.heap.size wo wo.drew := Below.drew (Below.refl _ _)
      have SK1 : Hid (∀ w', Below wo.heap.size wo w' → w'.cell? (a.add (k * 3)) = some (.slice A1 (mAt L k).P.length c1) ∧ w'.cell? { block := (a.add (k * 3)).block, off := (a.add (k * 3)).off + 1 } = some (.slice A2 (mAt L k).W.length c2) ∧ w'.cell? { block := (a.add (k * 3)).block, off := (a.add (k * 3)).off + 2 } = some (.slice A3 (mAt L k).F.length c3) ∧ w'.cell? (b.add (k * 3)) = some (.slice B1 (mAt L k).P.length d1) ∧ w'.cell? { block := (b.add (k * 3)).block, off := (b.add (k * 3)).off + 1 } = some (.slice B2 (mAt L k).W.length d2) ∧ w'.cell? { block := (b.add (k * 3)).block, off := (b.add (k * 3)).off + 2 } = some (.slice B3 (mAt L k).F.length d3)) := Lib.hid fun w' HV => ⟨(HV.cell (cell_lt q1)).trans q1, (HV.cell (cell_lt q2')).trans q2', (HV.cell (cell_lt q3')).trans q3', (HV.cell (cell_lt p1)).trans p1, (HV.cell (cell_lt p2')).trans p2', (HV.cell (cell_lt p3')).trans p3'⟩
      clear q1 q2 q3 q2' q3' p1 p2 p3 p2' p3'
      have hS1_0 := SK1.out _ hd1
      refine tamed_region (S := fun w' => w'.cell? (a.add (k * 3)) = some (.slice A1 (mAt L k).P.length c1) ∧ w'.cell? { block := (a.add (k * 3)).block, off := (a.add (k * 3)).off + 1 } = some (.slice A2 (mAt L k).W.length c2) ∧ w'.cell? { block := (a.add (k * 3)).block, off := (a.add (k * 3)).off + 2 } = some (.slice A3 (mAt L k).F.length c3) ∧ w'.cell? (b.add (k * 3)) = some (.slice B1 (mAt L k).P.length d1) ∧ w'.cell? { block := (b.add (k * 3)).block, off := (b.add (k * 3)).off + 1 } = some (.slice B2 (mAt L k).W.length d2) ∧ w'.cell? { block := (b.add (k * 3)).block, off := (b.add (k * 3)).off + 2 } = some (.slice B3 (mAt L k).F.length d3)) (fun _ => false) (by kernel_rfl) ?_
      refine tame0 (k := 0) ?_ rfl (by kernel_rfl) (by kernel_rfl) (by kernel_rfl) (fun _ _ _ h => h) (by kernel_rfl) (fun v => ?_) ?_
      rotate_left
      · (go_simp; all_goals rfl)
      simp only [Act.put, List.setIfInBounds_toArray]
      refine tame0 (k := 1) ?_ rfl (by kernel_rfl) (by kernel_rfl) (by kernel_rfl) (fun _ _ _ h => h) (by kernel_rfl) (fun v => ?_) ?_
      rotate_left
      · (go_simp; all_goals rfl)
      simp only [Act.put]
      refine tame0 (k := 2) ?_ rfl (by kernel_rfl) (by kernel_rfl) (by kernel_rfl) (fun _ _ _ h => h) (by kernel_rfl) (fun v => ?_) ?_
      rotate_left
      · (go_simp; all_goals rfl)
      simp only [Act.put]
      refine tame (k := 3) ?_ rfl (by kernel_rfl) (by kernel_rfl) (by kernel_rfl) (by kernel_rfl) (fun _ _ _ h => h) (by kernel_rfl) hS1_0 (fun v hv => ?_) ?_
      rotate_left
      · (obtain ⟨k1, k2, k3, k4, k5, k6⟩ := hv; go_simp; all_goals rfl)
      simp only [Act.put]
      refine tame0 (k := 4) ?_ rfl (by kernel_rfl) (by kernel_rfl) (by kernel_rfl) (fun _ _ _ h => h) (by kernel_rfl) (fun v => ?_) ?_
      rotate_left
      · (go_simp; all_goals rfl)
      simp only [Act.put]
      refine tame0 (k := 5) ?_ rfl (by kernel_rfl) (by kernel_rfl) (by kernel_rfl) (fun _ _ _ h => h) (by kernel_rfl) (fun v => ?_) ?_
      rotate_left
      · (go_simp; all_goals rfl)
      simp only [Act.put]
      refine tame0 (k := 6) ?_ rfl (by kernel_rfl) (by kernel_rfl) (by kernel_rfl) (fun _ _ _ h => h) (by kernel_rfl) (fun v => ?_) ?_
      rotate_left
      · (go_simp; all_goals rfl)
      simp only [Act.put]
      refine tame (k := 7) ?_ rfl (by kernel_rfl) (by kernel_rfl) (by kernel_rfl) (by kernel_rfl) (fun _ _ _ h => h) (by kernel_rfl) hS1_0 (fun v hv => ?_) ?_
      rotate_left
      · (obtain ⟨k1, k2, k3, k4, k5, k6⟩ := hv; go_simp; all_goals rfl)
      simp only [Act.put]
      refine tame_one (k := 8) (by kernel_rfl) rfl (by kernel_rfl) ?_
      go_simp
      refine (eqArm_same A1 (mAt L k).P c1 A2 (mAt L k).W c2 A3 (mAt L k).F c3 B1 d1 B2 d2 B3 d3 _ (r1.below hd1 (Nat.le_refl _)) (r2.below hd1 (Nat.le_refl _)) (r3.below hd1 (Nat.le_refl _)) (s1.below hd1 (Nat.le_refl _)) (s2.below hd1 (Nat.le_refl _)) (s3.below hd1 (Nat.le_refl _)) (by omega) (by omega) (by omega)).mono ?_
      rintro e w2 ⟨rfl, b2⟩
      have hd1_1 := bUp hd1 b2 (Nat.le_refl _)
      have hS1_1 := Lib.hid (SK1.out _ hd1_1)
      refine ⟨by first | exact hS1_1 | exact Hid.out hS1_1, ?_⟩
      refine tame_one (k := 9) (by kernel_rfl) rfl (by kernel_rfl) ?_
      go_simp
      refine ⟨by first | exact hS1_1 | exact Hid.out hS1_1, ?_⟩
      refine tame_end (by kernel_rfl) ?_
      go_wp2
      go_roundw
      case rel => exact ⟨k + 1, by omega, by go_num, bUp HB hd1_1 HB.size⟩
      case measure => simp [intOf] <;> omega
    · go_wp2
      go_ret
      exact ⟨rfl, HB⟩

end Go.Proofs.Ythhpioohdkglkaa
