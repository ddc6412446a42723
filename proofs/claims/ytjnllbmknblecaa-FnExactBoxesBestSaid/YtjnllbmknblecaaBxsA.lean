/- Slices of boxes: how they lie in memory; the laws' helpers on them; both packages' tests. (Written by gen_bxs.py.) -/
import Derived.Test.YtjnllbmknblecaaBox
import Derived.Test.YtjnllbmknblecaaHol
import Derived.Test.YtjnllbmknblecaaButA
import Derived.Deep.DeepCutAuto
import Derived.Maps.AppendAt
namespace Go.Proofs.Ytjnllbmknblecaa
open Go.RowKit

structure Bxd where
  w : List Int
  fee : Int
instance : Inhabited Bxd := ⟨⟨[], 0⟩⟩
def bAt (L : List Bxd) (k : Nat) : Bxd := L.getD k ⟨[], 0⟩
/-- Cells that hold boxes. -/
def BsAt (w : World) (cs : List Value) (L : List Bxd) : Prop := cs.length = L.length * 2 ∧ ∀ k, k < L.length → ∃ (A1 : Option Addr) (c1 : Nat), cs[k * 2]? = some (.slice A1 (bAt L k).w.length c1) ∧ cs[k * 2 + 1]? = some (.int .i64 (bAt L k).fee) ∧ Rd w A1 (ints (bAt L k).w)
/-- Boxes from an address on. -/
def RdBs (w : World) (A : Option Addr) (L : List Bxd) : Prop := ∃ cs, BsAt w cs L ∧ Rd w A cs
section
variable {w w' : World} {A : Option Addr} {L M : List Bxd} {cs ds : List Value}
theorem BsAt.keep (h : BsAt w cs L) (hk : ∀ p : Addr, p.block < w.heap.size → w'.cell? p = w.cell? p) : BsAt w' cs L := ⟨h.1, fun k hl => by
  obtain ⟨A1, c1, h1, h2, h3⟩ := h.2 k hl
  exact ⟨A1, c1, h1, h2, h3.keep fun p hp _ => hk p hp⟩⟩
theorem RdBs.keep (h : RdBs w A L) (hk : ∀ p : Addr, p.block < w.heap.size → w'.cell? p = w.cell? p) : RdBs w' A L := by
  obtain ⟨cs, h1, h2⟩ := h
  exact ⟨cs, h1.keep hk, h2.keep fun p hp _ => hk p hp⟩
theorem RdBs.below (h : RdBs w A L) (hb : Below w.heap.size w w') : RdBs w' A L := h.keep fun _ hp => hb.cell hp
theorem BsAt.below (h : BsAt w cs L) (hb : Below w.heap.size w w') : BsAt w' cs L := h.keep fun _ hp => hb.cell hp
theorem RdBs.at_ (h : RdBs w A L) {k : Nat} (hk : k < L.length) : ∃ (ad : Addr) (A1 : Option Addr) (c1 : Nat), A = some ad ∧ w.cell? (ad.add (k * 2)) = some (.slice A1 (bAt L k).w.length c1) ∧ w.cell? (ad.add (k * 2 + 1)) = some (.int .i64 (bAt L k).fee) ∧ Rd w A1 (ints (bAt L k).w) := by
  obtain ⟨cs, h1, h2⟩ := h
  obtain ⟨A1, c1, e1, e2, r⟩ := h1.2 k hk
  obtain ⟨ad, rfl, q1⟩ := h2 _ _ e1
  obtain ⟨_, e, q2⟩ := h2 _ _ e2
  injection e with e
  subst e
  exact ⟨_, A1, c1, rfl, q1, q2, r⟩
theorem bAt_take {i k : Nat} (h : k < i) : bAt (L.take i) k = bAt L k := by simp [bAt, List.getD, h]
theorem bAt_drop (i k : Nat) : bAt (L.drop i) k = bAt L (i + k) := by simp [bAt, List.getD]
theorem bAt_app_l {k : Nat} (h : k < L.length) : bAt (L ++ M) k = bAt L k := by simp [bAt, List.getD, List.getElem?_append_left h]
theorem bAt_app_r (k : Nat) : bAt (L ++ M) (L.length + k) = bAt M k := by simp [bAt, List.getD, List.getElem?_append_right]
theorem BsAt.take (h : BsAt w cs L) {i : Nat} (hi : i ≤ L.length) : BsAt w (cs.take (i * 2)) (L.take i) := by
  have hl := h.1
  refine ⟨by simp only [List.length_take]; omega, fun k hk => ?_⟩
  rw [List.length_take] at hk
  obtain ⟨A1, c1, e1, e2, r⟩ := h.2 k (by omega)
  rw [bAt_take (by omega)]
  exact ⟨A1, c1, by rw [List.getElem?_take, if_pos (by omega)]; exact e1, by rw [List.getElem?_take, if_pos (by omega)]; exact e2, r⟩
theorem BsAt.drop (h : BsAt w cs L) {i : Nat} : BsAt w (cs.drop (i * 2)) (L.drop i) := by
  have hl := h.1
  refine ⟨by simp only [List.length_drop]; omega, fun k hk => ?_⟩
  rw [List.length_drop] at hk
  obtain ⟨A1, c1, e1, e2, r⟩ := h.2 (i + k) (by omega)
  rw [bAt_drop]
  exact ⟨A1, c1, by rw [List.getElem?_drop, ← e1]; congr 1; omega, by rw [List.getElem?_drop, ← e2]; congr 1; omega, r⟩
theorem BsAt.app (h : BsAt w cs L) (h' : BsAt w ds M) : BsAt w (cs ++ ds) (L ++ M) := by
  have hl := h.1
  have hl' := h'.1
  refine ⟨by simp only [List.length_append]; omega, fun k hk => ?_⟩
  rw [List.length_append] at hk
  rcases Nat.lt_or_ge k L.length with h1 | h1
  · obtain ⟨A1, c1, e1, e2, r⟩ := h.2 k h1
    rw [bAt_app_l h1]
    exact ⟨A1, c1, by rw [List.getElem?_append_left (by omega)]; exact e1, by rw [List.getElem?_append_left (by omega)]; exact e2, r⟩
  · obtain ⟨j, rfl⟩ : ∃ j, k = L.length + j := ⟨k - L.length, by omega⟩
    obtain ⟨A1, c1, e1, e2, r⟩ := h'.2 j (by omega)
    rw [bAt_app_r]
    exact ⟨A1, c1, by rw [List.getElem?_append_right (by omega), ← e1]; congr 1; omega, by rw [List.getElem?_append_right (by omega), ← e2]; congr 1; omega, r⟩
theorem BsAt.one (h : BsAt w cs L) : ∀ u ∈ cs, u.oneCell' = true := by
  intro u hu
  obtain ⟨j, hj, rfl⟩ := List.mem_iff_getElem.1 hu
  have hl := h.1
  obtain ⟨A1, c1, e1, e2, _⟩ := h.2 (j / 2) (by omega)
  rcases Nat.mod_two_eq_zero_or_one j with hm | hm
  · rw [show j / 2 * 2 = j by omega, List.getElem?_eq_getElem hj] at e1
    injection e1 with e1
    rw [e1]; rfl
  · rw [show j / 2 * 2 + 1 = j by omega, List.getElem?_eq_getElem hj] at e2
    injection e2 with e2
    rw [e2]; rfl
theorem RdBs.nil (w : World) (A : Option Addr) : RdBs w A [] := ⟨[], ⟨rfl, fun k hk => by simp at hk⟩, Rd.nil _ _⟩
end
theorem adOffB (a : Addr) (i j : Nat) (hj : 0 < j) : ({ block := (a.add i).block, off := (a.add i).off + j } : Addr) = a.add (i + j) := by
  unfold Addr.add
  by_cases hi : i = 0 <;> simp [hi, Nat.add_assoc] <;> omega
theorem cellOffB {w : World} {a : Addr} {i : Nat} {v : Value} (j : Nat) (hj : 0 < j) (h : w.cell? (a.add (i + j)) = some v) : w.cell? { block := (a.add i).block, off := (a.add i).off + j } = some v := by
  rw [adOffB a i j hj]
  exact h
/-- No list is long. -/
def SzBs (L : List Bxd) : Prop := L.length ≤ 1048576 ∧ ∀ k, k < L.length → (bAt L k).w.length ≤ 1048576
def SzBsPost (w : World) (L : List Bxd) (e : Ending) (w' : World) : Prop := ∃ r : Int, e = .returned (.int .i64 r) ∧ (r < 0 ∨ (0 ≤ r ∧ SzBs L)) ∧ Below w.heap.size w w'
def LgBs (L : List Bxd) : Prop := ∀ k, k < L.length → (bAt L k).w.length ≤ 9223372036854775807
theorem szBoxL_c (A : Option Addr) (n c : Nat) (fee l : Int) (w : World) (h0 : 0 ≤ l) (h1 : l ≤ 1048576) (hn : n ≤ 9223372036854775807) :
    Calls Try.prog 45 #[boxV A n c fee, .int .i64 l] w fun e w' => (∃ r : Int, e = .returned (.int .i64 r) ∧ (r < 0 ∨ (0 ≤ r ∧ r + n = l))) ∧ Below w.heap.size w w' := by
  have HB1 : Below w.heap.size w (w.alloc (.cells #[.slice A n c, .int .i64 fee] 51)) := (Below.refl _ _).alloc (Nat.le_refl _) _
  by_cases h : l < (n : Int)
  · have C := fun w => szIntS_c A n c l w h0 h1 hn
    rw [if_pos h] at C
    go_enter Try.func45, Try.ntmps45
    go_wp2_with (go_at_call 71; refine (C _).mono ?_; rintro e w' ⟨rfl, rfl⟩)
    go_ret
    exact ⟨⟨_, rfl, .inl (by decide)⟩, HB1⟩
  · have C := fun w => szIntS_c A n c l w h0 h1 hn
    rw [if_neg h] at C
    have h2 : ¬ l - (n : Int) < 0 := by omega
    go_enter Try.func45, Try.ntmps45
    go_wp2_with (go_at_call 71; refine (C _).mono ?_; rintro e w' ⟨rfl, rfl⟩)
    go_ret
    exact ⟨⟨_, rfl, .inr ⟨by omega, by omega⟩⟩, HB1⟩
set_option maxRecDepth 20000 in
set_option maxHeartbeats 1000000 in
theorem szBoxS_c (A : Option Addr) (L : List Bxd) (c : Nat) (w : World) (ha : RdBs w A L) (hn : L.length ≤ 9223372036854775807) (hr : LgBs L) :
    Calls Try.prog 50 #[.slice A L.length c, .int .i64 1048576] w (SzBsPost w L) := by
  have HR := Lib.hid hr
  clear hr
  by_cases h : (1048576 : Int) < (L.length : Int)
  · have h' : 1048576 - (L.length : Int) < 0 := by omega
    go_enter Try.func50, Try.ntmps50
    go_wp2
    go_ret
    exact ⟨-1, rfl, .inl (by decide), Below.refl _ _⟩
  · have h0 : L.length ≤ 1048576 := by omega
    have h' : ¬ 1048576 - (L.length : Int) < 0 := by omega
    go_enter Try.func50, Try.ntmps50
    go_wp2
    go_loopw [1, 5] (fun l i wr => ∃ (k : Nat) (r : Int), k ≤ L.length ∧ i = .int .i64 (k : Int) ∧ l = .int .i64 r ∧ 0 ≤ r ∧ r ≤ 1048576 ∧ (∀ j, j < k → (bAt L j).w.length ≤ 1048576) ∧ Below w.heap.size w wr) (fun _ i _ => L.length - (intOf i).toNat)
    case atStart => exact ⟨0, _, Nat.zero_le _, rfl, rfl, by omega, by omega, fun j hj => by omega, Below.refl _ _⟩
    case round =>
      obtain ⟨k, r, hk, rfl, rfl, hr0, hr1, hall, hB⟩ := hrel
      obtain ⟨wo, rfl⟩ : ∃ wo : World, wo = wr := ⟨_, rfl⟩
      have HA := Lib.hid hall
      clear hall
      by_cases hlt : k < L.length
      · obtain ⟨a, A1, c1, rfl, q1, q2, _⟩ := (ha.below hB).at_ hlt
        have hm := HR.out k hlt
        have q2' := cellOffB 1 (by omega) q2
        go_wp2_with fail
        refine (szBoxL_c A1 (bAt L k).w.length c1 (bAt L k).fee r _ hr0 hr1 hm).mono ?_
        rintro e w2 ⟨⟨r2, rfl, hr2⟩, b2⟩
        have HB2 := bUp hB b2 hB.size
        rcases hr2 with hr2 | ⟨hr2, he⟩
        · go_wp2
          go_ret
          exact ⟨-1, rfl, .inl (by decide), HB2⟩
        · have HE := Lib.hid he
          clear he
          go_wp2
          go_roundw
          case rel => exact ⟨k + 1, r2, by omega, by go_num, rfl, hr2, by have := HE.out; omega, fun j hj => by
            rcases Nat.lt_or_ge j k with hj' | hj'
            · exact HA.out j hj'
            · obtain rfl : j = k := by omega
              have := HE.out
              omega, HB2⟩
          case measure => simp [intOf] <;> omega
      · obtain rfl : k = L.length := by omega
        go_wp2
        go_ret
        exact ⟨r, rfl, .inr ⟨hr0, h0, HA.out⟩, hB⟩

theorem box_info : (Try.prog.info? 54).map (fun i => (i.zero, i.size, i.bytes)) = some (some (.agg #[.slice none 0 0, .int .i64 0]), 2, 32) := by kernel_rfl
/-- A row of boxes' cells of the call's own. -/
def OwnX (w : World) (B : Nat) (A : Option Addr) (n c : Nat) (cs : List Value) : Prop := w.ownsRow B 54 2 (.slice A n c) n cs
theorem OwnX.rd {w : World} {B n c : Nat} {A : Option Addr} {cs : List Value} (h : OwnX w B A n c cs) : Rd w A cs := Rd.of_own h
theorem OwnX.cap {w : World} {B n c : Nat} {A : Option Addr} {cs : List Value} (h : OwnX w B A n c cs) : n ≤ c := by
  rcases h.2 with ⟨h, rfl⟩ | ⟨g, cap, cur, h, _, _, hc, _⟩
  · exact Nat.zero_le _
  · injection h with _ _ h
    omega
/-- The first k boxes are copied: their heads lie in the row, their lists behind it. -/
def HalfBs (w : World) (B : Nat) (L : List Bxd) (k : Nat) (cur : List Value) : Prop :=
  ∀ j, j < k → ∃ A1 c1, cur[j * 2]? = some (.slice A1 (bAt L j).w.length c1) ∧ cur[j * 2 + 1]? = some (.int .i64 (bAt L j).fee) ∧ Own w (B + 1) A1 c1 (bAt L j).w
theorem HalfBs.step {w w2 : World} {B : Nat} {L : List Bxd} {k : Nat} {cur : List Value} {A1 : Option Addr} {c1 : Nat} (h : HalfBs w B L k cur) (hc : k * 2 + 1 < cur.length) (hb : Below w.heap.size w w2) (hB : B < w.heap.size)
    (ho : Own w2 w.heap.size A1 c1 (bAt L k).w) (x y : Value) (hx : x = .slice A1 (bAt L k).w.length c1) (hy : y = .int .i64 (bAt L k).fee) :
    HalfBs ((w2.setCell ⟨B, k * 2, none⟩ x).setCell ⟨B, k * 2 + 1, none⟩ y) B L (k + 1) ((cur.set (k * 2) x).set (k * 2 + 1) y) := by
  have so : ∀ {B' : Nat} {A : Option Addr} {c : Nat} {xs : List Int} {v : World}, Own v B' A c xs → B < B' → ∀ (j : Nat) (u : Value), Own (v.setCell ⟨B, j, none⟩ u) B' A c xs := fun {B' A c xs v} o hB' j u => o.setOther _ _ (by
    rcases A with _ | a
    · exact .inl rfl
    · right
      have := (o.lt a rfl).1
      simp [blk]
      omega)
  intro j hj
  rcases Nat.lt_or_ge j k with hlt | hge
  · obtain ⟨a1, d1, e1, e2, o⟩ := h j hlt
    refine ⟨a1, d1, ?_, ?_, so (so (o.below hb) (Nat.lt_succ_self B) _ _) (Nat.lt_succ_self B) _ _⟩
    · rw [List.getElem?_set_ne (by omega), List.getElem?_set_ne (by omega), e1]
    · rw [List.getElem?_set_ne (by omega), List.getElem?_set_ne (by omega), e2]
  · obtain rfl : j = k := by omega
    refine ⟨A1, c1, ?_, ?_, so (so (ho.mono (by omega)) (Nat.lt_succ_self B) _ _) (Nat.lt_succ_self B) _ _⟩
    · rw [List.getElem?_set_ne (by omega), List.getElem?_set_self (by omega), hx]
    · rw [List.getElem?_set_self (by simp; omega), hy]
set_option maxRecDepth 20000 in
set_option maxHeartbeats 1000000 in
theorem toBoxS_c (A : Option Addr) (L : List Bxd) (c : Nat) (w : World) (ha : RdBs w A L) (hs : SzBs L) :
    Calls Try.prog 52 #[.slice A L.length c] w fun e w' => ∃ g, e = .returned (.slice (some ⟨g, 0, none⟩) L.length L.length) ∧ RdBs w' (some ⟨g, 0, none⟩) L ∧ Below w.heap.size w w' := by
  obtain ⟨i0, hi, hz0, hz1, hz2⟩ := info_parts box_info
  have hn := hs.1
  have HR := Lib.hid hs.2
  clear hs
  go_enter Try.func52, Try.ntmps52
  go_wp2_with (at_make; refine wpList_make_full _ rfl _ _ _ rfl w.heap.size 54 i0 _ 2 Try.underlying61 hi hz0 hz1 _ _ _ _ L.length rfl rfl rfl rfl (by rw [hz2]; omega) (by unfold maxLen; omega) (Nat.le_refl _) ?_)
  intro w1 hown hg
  have hb1 : Below w.heap.size w w1 := (Below.refl _ _).grown hg (Nat.le_refl _) (by simp)
  clear hg
  go_wp2
  go_loopw [4] (fun i wr => ∃ (k : Nat) (cur : List Value), k ≤ L.length ∧ i = .int .i64 k ∧
      wr.ownsRow w.heap.size 54 2 (.slice (some ⟨w.heap.size, 0, none⟩) L.length L.length) L.length cur ∧ HalfBs wr w.heap.size L k cur ∧ Below w.heap.size w wr)
    (fun i _ => L.length - (intOf i).toNat)
  case atStart => exact ⟨0, _, by omega, rfl, hown, fun j hj => by omega, hb1⟩
  case round =>
    obtain ⟨wo, rfl⟩ : ∃ wo : World, wo = wr := ⟨_, rfl⟩
    obtain ⟨k, cur, hk, rfl, ho, hh, hb⟩ := hrel
    clear hown hb1
    by_cases hlt : k < L.length
    · obtain ⟨a, A1, c1, rfl, q1, q2, r1⟩ := (ha.below hb).at_ hlt
      have hm := HR.out k hlt
      have q2' := cellOffB 1 (by omega) q2
      go_wp2_with fail
      refine (toBox_c A1 (bAt L k).w c1 (bAt L k).fee _ r1 (by omega)).mono ?_
      rintro e w2 ⟨A2, c2, rfl, om, hb2⟩
      have hlo := row_lt ho
      have hlen := ho.1
      have HS := hh.step (by omega) hb2 hlo.2 om _ _ rfl rfl
      have R0 := row_below ho hb2
      have R1 := (R0.stored (k * 2) (.slice A2 (bAt L k).w.length c2)).1
      have R2 := (R1.stored (k * 2 + 1) (.int .i64 (bAt L k).fee)).1
      have HB := ((bUp hb hb2 hb.size).setCell (p := ⟨w.heap.size, k * 2, none⟩) (Nat.le_refl _) (.slice A2 (bAt L k).w.length c2)).setCell (p := ⟨w.heap.size, k * 2 + 1, none⟩) (Nat.le_refl _) (.int .i64 (bAt L k).fee)
      have c0 := R0.cellAt (k * 2) (by omega)
      rw [List.getElem?_eq_getElem (by omega)] at c0
      have c1' := R0.cellAt (k * 2 + 1) (by omega)
      rw [List.getElem?_eq_getElem (by omega)] at c1'
      have f0 := R0.frozenAt (k * 2)
      have f1 := R0.frozenAt (k * 2 + 1)
      clear hh om R0 R1
      go_wp2
      go_roundw
      case rel => exact ⟨k + 1, _, by omega, by go_num, R2, HS, HB⟩
      case measure => simp [intOf] <;> omega
    · have hkn : k = L.length := by omega
      subst hkn
      go_wp2
      go_ret
      refine ⟨w.heap.size, rfl, ⟨cur, ⟨ho.1, fun j hj => ?_⟩, Rd.of_own ho⟩, hb⟩
      obtain ⟨A1, c1, e1, e2, om⟩ := hh j hj
      exact ⟨A1, c1, e1, e2, om.rd⟩
set_option maxRecDepth 20000 in
set_option maxHeartbeats 1000000 in
theorem eqBoxS_same (A B : Option Addr) (L : List Bxd) (ca cb : Nat) (w : World) (ha : RdBs w A L) (hb : RdBs w B L) (hs : SzBs L) :
    Calls Try.prog 54 #[.slice A L.length ca, .slice B L.length cb] w (Quietly w (.bool true)) := by
  have hn := hs.1
  have HR := Lib.hid hs.2
  clear hs
  have hl1 : ((L.length : Int) != (L.length : Int)) = false := by simp
  go_enter Try.func54, Try.ntmps54
  go_wp2
  go_loopw [5] (fun i wr => ∃ k : Nat, k ≤ L.length ∧ i = .int .i64 k ∧ Below w.heap.size w wr) (fun i _ => L.length - (intOf i).toNat)
  case atStart => exact ⟨0, by omega, rfl, Below.refl _ _⟩
  case round =>
    obtain ⟨wo, rfl⟩ : ∃ wo : World, wo = wr := ⟨_, rfl⟩
    obtain ⟨k, hk, rfl, HB⟩ := hrel
    by_cases hlt : k < L.length
    · obtain ⟨a, A1, c1, rfl, q1, q2, r1⟩ := (ha.below HB).at_ hlt
      obtain ⟨b, B1, d1, rfl, p1, p2, s1⟩ := (hb.below HB).at_ hlt
      have hm := HR.out k hlt
      have q2' := cellOffB 1 (by omega) q2
      have p2' := cellOffB 1 (by omega) p2
      clear q2 p2
      go_wp2
      have hd1 : Below wo.heap.size wo wo.drew := Below.drew (Below.refl _ _)
      have SK1 : Hid (∀ w', Below wo.heap.size wo w' → w'.cell? (a.add (k * 2)) = some (.slice A1 (bAt L k).w.length c1) ∧ w'.cell? ⟨(a.add (k * 2)).block, (a.add (k * 2)).off + 1, none⟩ = some (.int .i64 (bAt L k).fee) ∧ w'.cell? (b.add (k * 2)) = some (.slice B1 (bAt L k).w.length d1) ∧ w'.cell? ⟨(b.add (k * 2)).block, (b.add (k * 2)).off + 1, none⟩ = some (.int .i64 (bAt L k).fee)) := Lib.hid fun w' HV => ⟨(HV.cell (cell_lt q1)).trans q1, (HV.cell (cell_lt q2')).trans q2', (HV.cell (cell_lt p1)).trans p1, (HV.cell (cell_lt p2')).trans p2'⟩
      clear q1 q2' p1 p2'
      have hS1_0 := SK1.out _ hd1
      refine tamed_region (S := fun w' => w'.cell? (a.add (k * 2)) = some (.slice A1 (bAt L k).w.length c1) ∧ w'.cell? ⟨(a.add (k * 2)).block, (a.add (k * 2)).off + 1, none⟩ = some (.int .i64 (bAt L k).fee) ∧ w'.cell? (b.add (k * 2)) = some (.slice B1 (bAt L k).w.length d1) ∧ w'.cell? ⟨(b.add (k * 2)).block, (b.add (k * 2)).off + 1, none⟩ = some (.int .i64 (bAt L k).fee)) (fun _ => false) (by kernel_rfl) ?_
      refine tame0 (k := 0) ?_ rfl (by kernel_rfl) (by kernel_rfl) (by kernel_rfl) (fun _ _ _ h => h) (by kernel_rfl) (fun v => ?_) ?_
      rotate_left
      · (go_simp; all_goals rfl)
      simp only [Act.put, List.setIfInBounds_toArray]
      refine tame0 (k := 1) ?_ rfl (by kernel_rfl) (by kernel_rfl) (by kernel_rfl) (fun _ _ _ h => h) (by kernel_rfl) (fun v => ?_) ?_
      rotate_left
      · (go_simp; all_goals rfl)
      simp only [Act.put]
      refine tame0 (k := 2) ?_ rfl (by kernel_rfl) (by kernel_rfl) (by kernel_rfl) (fun _ _ _ h => h) (by kernel_rfl) (fun v => ?_) ?_
      rotate_left
      · (go_simp; all_goals rfl)
      simp only [Act.put]
      refine tame (k := 3) ?_ rfl (by kernel_rfl) (by kernel_rfl) (by kernel_rfl) (by kernel_rfl) (fun _ _ _ h => h) (by kernel_rfl) hS1_0 (fun v hv => ?_) ?_
      rotate_left
      · (obtain ⟨k1, k2, k3, k4⟩ := hv; go_simp; all_goals rfl)
      simp only [Act.put]
      refine tame0 (k := 4) ?_ rfl (by kernel_rfl) (by kernel_rfl) (by kernel_rfl) (fun _ _ _ h => h) (by kernel_rfl) (fun v => ?_) ?_
      rotate_left
      · (go_simp; all_goals rfl)
      simp only [Act.put]
      refine tame0 (k := 5) ?_ rfl (by kernel_rfl) (by kernel_rfl) (by kernel_rfl) (fun _ _ _ h => h) (by kernel_rfl) (fun v => ?_) ?_
      rotate_left
      · (go_simp; all_goals rfl)
      simp only [Act.put]
      refine tame0 (k := 6) ?_ rfl (by kernel_rfl) (by kernel_rfl) (by kernel_rfl) (fun _ _ _ h => h) (by kernel_rfl) (fun v => ?_) ?_
      rotate_left
      · (go_simp; all_goals rfl)
      simp only [Act.put]
      refine tame (k := 7) ?_ rfl (by kernel_rfl) (by kernel_rfl) (by kernel_rfl) (by kernel_rfl) (fun _ _ _ h => h) (by kernel_rfl) hS1_0 (fun v hv => ?_) ?_
      rotate_left
      · (obtain ⟨k1, k2, k3, k4⟩ := hv; go_simp; all_goals rfl)
      simp only [Act.put]
      refine tame_one (k := 8) (by kernel_rfl) rfl (by kernel_rfl) ?_
      go_simp
      refine (eqBox_same A1 B1 (bAt L k).w c1 d1 (bAt L k).fee _ (r1.below hd1 (Nat.le_refl _)) (s1.below hd1 (Nat.le_refl _)) (by omega)).mono ?_
      rintro e w2 ⟨rfl, b2⟩
      have hd1_1 := bUp hd1 b2 (Nat.le_refl _)
      have hS1_1 := Lib.hid (SK1.out _ hd1_1)
      refine ⟨by first | exact hS1_1 | exact Hid.out hS1_1, ?_⟩
      refine tame_one (k := 9) (by kernel_rfl) rfl (by kernel_rfl) ?_
      go_simp
      refine ⟨by first | exact hS1_1 | exact Hid.out hS1_1, ?_⟩
      refine tame_end (by kernel_rfl) ?_
      go_wp2
      go_roundw
      case rel => exact ⟨k + 1, by omega, by go_num, bUp HB hd1_1 HB.size⟩
      case measure => simp [intOf] <;> omega
    · go_wp2
      go_ret
      exact ⟨rfl, HB⟩

/-- Boxes that are valid. -/
def bxsB (L : List Bxd) : Bool := decide (L.length ≤ 4) && L.all fun b => boxB b.w b.fee
def bxsTo (L : List Bxd) (k : Nat) : Bool := (L.take k).all fun b => boxB b.w b.fee
theorem bAt_get {L : List Bxd} {k : Nat} (h : k < L.length) : bAt L k = L[k] := by simp [bAt, List.getD, h]
theorem bxsTo_succ {L : List Bxd} {k : Nat} (hk : k < L.length) (h : bxsTo L k = true) (hx : boxB (bAt L k).w (bAt L k).fee = true) : bxsTo L (k + 1) = true := by
  unfold bxsTo at *
  rw [List.take_succ_eq_append_getElem hk, List.all_append, h, ← bAt_get hk]
  simp [hx]
theorem bxsB_no {L : List Bxd} {k : Nat} (hk : k < L.length) (h : boxB (bAt L k).w (bAt L k).fee = false) : bxsB L = false := by
  cases hq : bxsB L
  · rfl
  · unfold bxsB at hq
    simp only [Bool.and_eq_true, List.all_eq_true] at hq
    have := hq.2 (bAt L k) (by rw [bAt_get hk]; exact List.getElem_mem hk)
    rw [h] at this
    cases this
theorem bxsTo_end {L : List Bxd} {k : Nat} (hk : ¬ k < L.length) (h : bxsTo L k = true) : bxsB L = decide ((L.length : Int) ≤ 4) := by
  unfold bxsTo at h
  rw [List.take_of_length_le (by omega)] at h
  unfold bxsB
  rw [h, Bool.and_true]
  congr 1
  apply propext
  omega
theorem bxsB_yes {L : List Bxd} (h : bxsB L = true) : L.length ≤ 4 ∧ ∀ k, k < L.length → boxB (bAt L k).w (bAt L k).fee = true := by
  unfold bxsB at h
  simp only [Bool.and_eq_true, List.all_eq_true, decide_eq_true_eq] at h
  exact ⟨h.1, fun k hk => h.2 _ (by rw [bAt_get hk]; exact List.getElem_mem hk)⟩
set_option maxRecDepth 20000 in
set_option maxHeartbeats 1000000 in
theorem areBoxes_c (A : Option Addr) (L : List Bxd) (c : Nat) (q : Bool) (hq : bxsB L = q) (w : World) (h : RdBs w A L) (hs : SzBs L) :
    Calls Try.prog 88 #[.slice A L.length c] w (Quietly w (.bool q)) := by
  have hn := hs.1
  have HR := Lib.hid hs.2
  have HQ := Lib.hid hq
  clear hs hq
  go_enter Try.func88, Try.ntmps88
  go_wp2
  go_loopw [7] (fun i wr => ∃ k : Nat, k ≤ L.length ∧ i = .int .i64 k ∧ bxsTo L k = true ∧ Below w.heap.size w wr) (fun i _ => L.length - (intOf i).toNat)
  case atStart => exact ⟨0, by omega, rfl, by simp [bxsTo], Below.refl _ _⟩
  case round =>
    obtain ⟨wo, rfl⟩ : ∃ wo : World, wo = wr := ⟨_, rfl⟩
    obtain ⟨k, hk, rfl, hto, HB⟩ := hrel
    have HT := Lib.hid hto
    clear hto
    by_cases hlt : k < L.length
    · obtain ⟨a, A1, c1, rfl, q1, q2, r1⟩ := (h.below HB).at_ hlt
      have hm := HR.out k hlt
      have q2' := cellOffB 1 (by omega) q2
      have HB1 : Below wo.heap.size wo (wo.alloc (.cells #[.slice A1 (bAt L k).w.length c1, .int .i64 (bAt L k).fee] 54)) := (Below.refl _ _).alloc (Nat.le_refl _) _
      have C := implBox_c A1 (bAt L k).w c1 (bAt L k).fee _ (r1.below HB1 (Nat.le_refl _)) (by omega)
      clear q2
      cases hb : boxB (bAt L k).w (bAt L k).fee
      · have HN := Lib.hid (bxsB_no hlt hb)
        rw [hb] at C
        clear hb
        go_wp2_with fail
        refine C.mono ?_
        rintro e w2 ⟨rfl, b2⟩
        go_wp2
        go_ret
        exact ⟨by rw [← HQ.out, HN.out] <;> rfl, bUp HB (bUp HB1 b2 HB1.size) HB.size⟩
      · have HN := Lib.hid (bxsTo_succ hlt HT.out hb)
        rw [hb] at C
        clear hb
        go_wp2_with fail
        refine C.mono ?_
        rintro e w2 ⟨rfl, b2⟩
        go_wp2
        go_roundw
        case rel => exact ⟨k + 1, by omega, by go_num, HN.out, bUp HB (bUp HB1 b2 HB1.size) HB.size⟩
        case measure => simp [intOf] <;> omega
    · have HE := Lib.hid (bxsTo_end hlt HT.out)
      obtain rfl : k = L.length := by omega
      go_wp2
      go_ret
      exact ⟨by rw [← HQ.out, HE.out] <;> rfl, HB⟩
set_option maxRecDepth 20000 in
set_option maxHeartbeats 1000000 in
theorem l7Boxes_c (A : Option Addr) (L : List Bxd) (c : Nat) (q : Bool) (hq : bxsB L = q) (w : World) (h : RdBs w A L) (hs : SzBs L) :
    Calls Try.prog 86 #[.slice A L.length c] w (Quietly w (.bool q)) := by
  have hn := hs.1
  have HR := Lib.hid hs.2
  have HQ := Lib.hid hq
  clear hs hq
  go_enter Try.func86, Try.ntmps86
  go_wp2
  go_loopw [3] (fun i wr => ∃ k : Nat, k ≤ L.length ∧ i = .int .i64 k ∧ bxsTo L k = true ∧ Below w.heap.size w wr) (fun i _ => L.length - (intOf i).toNat)
  case atStart => exact ⟨0, by omega, rfl, by simp [bxsTo], Below.refl _ _⟩
  case round =>
    obtain ⟨wo, rfl⟩ : ∃ wo : World, wo = wr := ⟨_, rfl⟩
    obtain ⟨k, hk, rfl, hto, HB⟩ := hrel
    have HT := Lib.hid hto
    clear hto
    by_cases hlt : k < L.length
    · obtain ⟨a, A1, c1, rfl, q1, q2, r1⟩ := (h.below HB).at_ hlt
      have hm := HR.out k hlt
      have q2' := cellOffB 1 (by omega) q2
      have C := l7Box_c A1 (bAt L k).w c1 (bAt L k).fee _ r1 (by omega)
      clear q2
      cases hb : boxB (bAt L k).w (bAt L k).fee
      · have HN := Lib.hid (bxsB_no hlt hb)
        rw [hb] at C
        clear hb
        go_wp2_with fail
        refine C.mono ?_
        rintro e w2 ⟨rfl, b2⟩
        go_wp2
        go_ret
        exact ⟨by rw [← HQ.out, HN.out] <;> rfl, bUp HB b2 HB.size⟩
      · have HN := Lib.hid (bxsTo_succ hlt HT.out hb)
        rw [hb] at C
        clear hb
        go_wp2_with fail
        refine C.mono ?_
        rintro e w2 ⟨rfl, b2⟩
        go_wp2
        go_roundw
        case rel => exact ⟨k + 1, by omega, by go_num, HN.out, bUp HB b2 HB.size⟩
        case measure => simp [intOf] <;> omega
    · have HE := Lib.hid (bxsTo_end hlt HT.out)
      obtain rfl : k = L.length := by omega
      go_wp2
      go_ret
      exact ⟨by rw [← HQ.out, HE.out] <;> rfl, HB⟩
end Go.Proofs.Ytjnllbmknblecaa
