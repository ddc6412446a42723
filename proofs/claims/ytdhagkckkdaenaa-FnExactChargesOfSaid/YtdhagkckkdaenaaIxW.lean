/- Rows of pairs made and set; IndexOf: both packages' walks. -/
import Derived.Test.YtdhagkckkdaenaaPairs
import Derived.Test.YtdhagkckkdaenaaBeW
namespace Go.Proofs.Ytdhagkckkdaenaa
open Go.RowKit

theorem madePairs (n : Nat) : (madeCells (Value.agg #[.int .i64 0, .int .i64 0]).cells (n * 2)).toList = pcells (List.replicate n (0, 0)) := by
  have hr : ∀ u ∈ pcells (List.replicate n (0, 0)), u = Value.int .i64 0 := by
    intro u hu
    simp only [pcells, List.mem_flatMap, List.mem_replicate, List.mem_cons, List.not_mem_nil, or_false] at hu
    obtain ⟨p, ⟨_, rfl⟩, rfl | rfl⟩ := hu <;> rfl
  apply List.ext_getElem
  · rw [pcells_length]; simp [madeCells]
  · intro i h1 h2
    rw [hr _ (List.getElem_mem h2)]
    have hz : (Value.agg #[.int .i64 0, .int .i64 0]).cells = #[.int .i64 0, .int .i64 0] := rfl
    simp only [madeCells, hz]
    have : i % 2 = 0 ∨ i % 2 = 1 := by omega
    rcases this with h | h <;> simp [h]
section
variable {o : Oper} {a : Act} {Q : Exit → Act → World → Prop}
theorem op_make_pairs {K : Act → World → Prop} (w : World) (l c : Operand) (hop : o.op = Op.makeSlice 43 l c) (kl kc : IntKind) (L C : Int) (n : Nat)
    (hl : a.eval l = .int kl L) (hc : a.eval c = .int kc C) (hL : L = (n : Int)) (hC : C = (n : Int)) (hn : n ≤ 16777216)
    (hK : ∀ w', OwnP w' w.heap.size (some ⟨w.heap.size, 0, none⟩) n (List.replicate n (0, 0)) → Below w.heap.size w w' → K (a.put o.dst (.slice (some ⟨w.heap.size, 0, none⟩) n n)) w') :
    o.wp Try.prog a w K Q := by
  obtain ⟨i0, hi, hz0, hz1, hz2⟩ := info_parts pair_info
  obtain ⟨w', hrun, r1, r2⟩ := run_make_full (P := Try.prog) w w.heap.size 43 28 i0 _ 2 Try.underlying43 hi hz0 hz1 kl kc n (by rw [hz2]; omega) (by unfold maxLen; omega) (Nat.le_refl _)
  subst hL
  subst hC
  unfold Oper.wp
  simp [execOp, hop, hl, hc, hrun, Result.andThen]
  refine hK w' ?_ (below_of_grown r2)
  unfold OwnP
  rw [← madePairs, List.length_replicate]
  exact r1
end
/-- A pair is stored. -/
theorem OwnP.set2 {w : World} {B g c : Nat} {ps : List (Int × Int)} (h : OwnP w B (some ⟨g, 0, none⟩) c ps) {k : Nat} (x y : Int) (hk : k < ps.length) :
    OwnP ((w.setCell ⟨g, k * 2, none⟩ (.int .i64 x)).setCell ⟨g, k * 2 + 1, none⟩ (.int .i64 y)) B (some ⟨g, 0, none⟩) c (ps.set k (x, y)) ∧ w.grownBy ((w.setCell ⟨g, k * 2, none⟩ (.int .i64 x)).setCell ⟨g, k * 2 + 1, none⟩ (.int .i64 y)) (some g) := by
  have h1 := h.set (j := 0) x hk (by decide)
  have h2 := h1.1.set (k := k) (j := 1) y (by rw [pset_length]; exact hk) (by decide)
  refine ⟨?_, h1.2.trans h2.2⟩
  have e : pset (pset ps k 0 x) k 1 y = ps.set k (x, y) := by
    unfold pset
    simp [pT, hk]
  rw [← e]
  exact h2.1
theorem OwnP.some2 {w : World} {B g c : Nat} {ps : List (Int × Int)} (h : OwnP w B (some ⟨g, 0, none⟩) c ps) {k : Nat} (hk : k < ps.length) : ∃ u v, w.cell? ⟨g, k * 2, none⟩ = some u ∧ w.cell? ⟨g, k * 2 + 1, none⟩ = some v := ⟨_, _, h.cells hk⟩
structure PrR (w wr : World) (go co : Nat) (out : List (Int × Int)) (x y z : Value) : Prop where
  o : OwnP wr (w.heap.size + 1) (some ⟨go, 0, none⟩) co out
  b : Bx3 wr w.heap.size x y z
  hb : Below w.heap.size w wr
theorem PrR.below {w wr w' : World} {go co : Nat} {out : List (Int × Int)} {x y z : Value} (R : PrR w wr go co out x y z) (h : Below wr.heap.size wr w') : PrR w w' go co out x y z := ⟨R.o.below h, R.b.below h, bUp R.hb h R.hb.size⟩
theorem PrR.lt {w wr : World} {go co : Nat} {out : List (Int × Int)} {x y z : Value} (R : PrR w wr go co out x y z) : go < wr.heap.size ∧ w.heap.size + 1 ≤ go ∧ w.heap.size < wr.heap.size := ⟨R.o.ltk go rfl, R.o.ge go rfl, R.b.2.2.2⟩
theorem PrR.set {w wr : World} {go co k : Nat} {out : List (Int × Int)} {x y z : Value} (R : PrR w wr go co out x y z) (s t : Int) (hk : k < out.length) : PrR w ((wr.setCell ⟨go, k * 2, none⟩ (.int .i64 s)).setCell ⟨go, k * 2 + 1, none⟩ (.int .i64 t)) go co (out.set k (s, t)) x y z := by
  have hge : w.heap.size + 1 ≤ go := R.o.ge go rfl
  have h2 := R.o.set2 s t hk
  exact ⟨h2.1, R.b.grown h2.2 (by omega), R.hb.grown h2.2 R.hb.size (fun j hj => by cases hj; omega)⟩
theorem PrR.other {w wr w' : World} {go co r : Nat} {out : List (Int × Int)} {x y z : Value} (R : PrR w wr go co out x y z) (hg : wr.grownBy w' (some r)) (hr : go < r) : PrR w w' go co out x y z := by
  have hl := R.lt
  exact ⟨R.o.grown hg (.inr (by simp [blk]; omega)), R.b.grown hg (by omega), R.hb.grown hg R.hb.size (fun j hj => by cases hj; omega)⟩
section
variable {ops : Array Oper} {rest : List Oper} {o : Oper} {a : Act} {Q : Exit → Act → World → Prop}
theorem wp_make_pairs (w : World) (H : Nat) (hH : w.heap.size = H) (hg : o.guard = none) (l c : Operand) (hop : o.op = Op.makeSlice 43 l c) (kl kc : IntKind) (L C : Int) (n : Nat)
    (hl : a.eval l = .int kl L) (hc : a.eval c = .int kc C) (hL : L = (n : Int)) (hC : C = (n : Int)) (hn : n ≤ 16777216)
    (hK : ∀ w', OwnP w' H (some ⟨H, 0, none⟩) n (List.replicate n (0, 0)) → Below w.heap.size w w' → wpList Try.prog ops Q rest (a.put o.dst (.slice (some ⟨H, 0, none⟩) n n)) w') :
    wpList Try.prog ops Q (o :: rest) a w := by
  subst hH
  exact wpList_plain hg fun _ h => op_make_pairs w l c hop kl kc L C n hl hc hL hC hn fun w' h1 h2 => h _ _ (hK w' h1 h2)
end

section
variable {P W F : List Int} {a b : Int}
/-- All indices. -/
def ixL (P W F : List Int) (a b : Int) : List (Int × Int) := (List.range P.length).map (idxP P W F a b)
/-- The indices from k on. -/
def ixD (P W F : List Int) (a b : Int) (k : Nat) : List (Int × Int) := (List.range P.length).map fun z => if k ≤ z then idxP P W F a b z else (0, 0)
/-- The indices below k. -/
def ixU (P W F : List Int) (a b : Int) (k : Nat) : List (Int × Int) := (List.range k).map (idxP P W F a b)
theorem ixL_len : (ixL P W F a b).length = P.length := by simp [ixL]
theorem ixD_len (k : Nat) : (ixD P W F a b k).length = P.length := by simp [ixD]
theorem ixU_len (k : Nat) : (ixU P W F a b k).length = k := by simp [ixU]
theorem ixD_all : ixD P W F a b 0 = ixL P W F a b := by simp [ixD, ixL]
theorem ixU_all : ixU P W F a b P.length = ixL P W F a b := rfl
theorem ixU_succ (k : Nat) : ixU P W F a b (k + 1) = ixU P W F a b k ++ [idxP P W F a b k] := by simp [ixU, List.range_succ]
theorem ixD_start : ixD P W F a b P.length = List.replicate P.length (0, 0) := by
  apply List.ext_getElem
  · simp [ixD]
  · intro i h1 h2
    simp only [ixD, List.getElem_map, List.getElem_range, List.getElem_replicate]
    rw [if_neg (by simp [ixD] at h1; omega)]
theorem ixD_nP {k z : Nat} (hz : z < P.length) (hk : k ≤ z) : nP (ixD P W F a b k) z = idxP P W F a b z := by
  simp [nP, ixD, List.getD_eq_getElem?_getD, hz, hk]
theorem ixD_step (k : Nat) : (ixD P W F a b (k + 1)).set k (idxP P W F a b k) = ixD P W F a b k := by
  apply List.ext_getElem
  · simp [ixD]
  · intro i h1 h2
    rw [List.getElem_set]
    simp only [ixD, List.getElem_map, List.getElem_range]
    by_cases h : k = i
    · subst h
      rw [if_pos rfl, if_pos (Nat.le_refl _)]
    · rw [if_neg h]
      by_cases h' : k ≤ i
      · rw [if_pos (by omega), if_pos h']
      · rw [if_neg (by omega), if_neg h']
theorem idx_end {x : Nat} (he : endB P x = true) : idxP P W F a b x = (0, 1) := by rw [idxP, he]; rfl
theorem ixL_nP {z : Nat} (hz : z < P.length) : nP (ixL P W F a b) z = idxP P W F a b z := by simp [nP, ixL, List.getD_eq_getElem?_getD, hz]
def ixB (P W F : List Int) (a b : Int) : Bool := armB P W F && discB a b
def ixV (P W F : List Int) (a b : Int) : List (Int × Int) := if ixB P W F a b then ixL P W F a b else []
theorem ixV_no (h : ixB P W F a b = false) : ixV P W F a b = [] := by rw [ixV, h]; rfl
theorem ixV_yes (h : ixB P W F a b = true) : ixV P W F a b = ixL P W F a b := by rw [ixV, h]; rfl
theorem ixV_len : (ixV P W F a b).length ≤ 9 := by
  unfold ixV
  split
  · next h =>
    have := (armAB_iff.1 h).arm.n9
    rw [ixL_len]
    exact this
  · exact Nat.zero_le _
end
theorem OwnP.lit0 (w : World) : OwnP (w.alloc (.cells #[] 28)) w.heap.size (some ⟨w.heap.size, 0, none⟩) 0 [] := by
  have := OwnP.lit w [] (by simp)
  simpa [pcells] using this
set_option maxRecDepth 20000 in
set_option maxHeartbeats 2000000 in
theorem l8Index_c (A1 : Option Addr) (P : List Int) (c1 : Nat) (A2 : Option Addr) (W : List Int) (c2 : Nat) (A3 : Option Addr) (F : List Int) (c3 : Nat) (a b : Int) (hk : ArmAB P W F a b) (w : World) (h : RdM w A1 P A2 W A3 F) :
    Calls Try.prog 49 #[mkV A1 P.length c1 A2 W.length c2 A3 F.length c3, .int .i64 a, .int .i64 b] w fun e w' => ∃ g c, e = .returned (.slice (some ⟨g, 0, none⟩) P.length c) ∧ OwnP w' w.heap.size (some ⟨g, 0, none⟩) c (ixL P W F a b) ∧ Below w.heap.size w w' := by
  have hok := hk.arm
  have hn1 := hok.tree.n1
  have hn9 := hok.n9
  have HWL := Lib.hid hok.tree.len
  obtain ⟨a2, rfl, _⟩ := h.r2.intN (k := 0) (by rw [HWL.out]; omega)
  have HB1 : Below w.heap.size w (w.alloc (.cells #[.slice A1 P.length c1, .slice (some a2) W.length c2, .slice A3 F.length c3] 33)) := (Below.refl _ _).alloc (Nat.le_refl _) _
  have bx := Bx3.new w (.slice A1 P.length c1) (.slice (some a2) W.length c2) (.slice A3 F.length c3) 33
  have HFL := Lib.hid hok.len
  have hfl : (F.length : Int) = (P.length : Int) := by rw [hok.len]
  go_enter Try.func49, Try.ntmps49
  go_wp2_with (at_make; refine wp_make_pairs _ (w.heap.size + 1) (by simp) rfl _ _ rfl _ _ _ _ P.length rfl rfl (by first | rfl | exact hfl) (by first | rfl | exact hfl) (by omega) ?_; intro w2 ho hb2)
  have R0 := PrR.mk (w := w) ho (bx.below hb2) (bUp HB1 hb2 HB1.size)
  rw [← ixD_start (W := W) (F := F) (a := a) (b := b)] at R0
  clear ho hb2 bx HB1 hfl
  have hk9 : P.length ≤ 16777216 := by omega
  go_loopw [8] (fun i wr => ∃ (k : Nat) (j : Int), k ≤ P.length ∧ j + 1 = (k : Int) ∧ i = .int .i64 j ∧ PrR w wr (w.heap.size + 1) P.length (ixD P W F a b k) (.slice A1 P.length c1) (.slice (some a2) W.length c2) (.slice A3 F.length c3)) (fun i _ => (intOf i + 1).toNat)
  case atStart => exact ⟨P.length, (P.length : Int) - 1, Nat.le_refl _, by omega, rfl, R0⟩
  case round =>
    clear R0
    obtain ⟨k, j, hkl, hj, rfl, R⟩ := hrel
    obtain ⟨wo, rfl⟩ : ∃ wo : World, wo = wr := ⟨_, rfl⟩
    rcases k with _ | x
    · obtain rfl : j = -1 := by omega
      rw [ixD_all] at R
      go_wp2
      go_ret
      exact ⟨_, _, rfl, R.o.mono (by omega), R.hb⟩
    · obtain rfl : j = (x : Int) := by omega
      clear hj
      have hx : x < P.length := by omega
      obtain ⟨f0, f1, f2, fz⟩ := id R.b
      have HDL := Lib.hid (ixD_len (P := P) (W := W) (F := F) (a := a) (b := b) (x + 1))
      obtain ⟨d0, d1⟩ := R.o.cells (k := x) (by rw [HDL.out]; exact hx)
      have z0 := R.o.frozen (x * 2)
      have z1 := R.o.frozen (x * 2 + 1)
      have R2 := R.set 0 1 (k := x) (by rw [HDL.out]; exact hx)
      obtain ⟨aq, eq, q2⟩ := (h.below R2.hb (Nat.le_refl _)).r2.intN (k := x) (by rw [HWL.out]; exact hx)
      injection eq with eq
      subst eq
      obtain ⟨e0, e1, e2, ez⟩ := id R2.b
      have i1 : (x : Int) < (W.length : Int) := by rw [HWL.out]; omega
      have i0 : (0 : Int) ≤ (x : Int) := by omega
      have i2 : (x : Int) < (P.length : Int) := by omega
      have i3 : x < W.length := by omega
      cases he : endB P x
      · have ew := neB_wt hok hx he
        have HS : Hid (((ixD P W F a b (x + 1)).set x (0, 1)).set x ((idxP P W F a b x).1, (idxP P W F a b x).2) = ixD P W F a b x) := Lib.hid (by rw [List.set_set]; exact ixD_step x)
        have HL2 := Lib.hid (show ((ixD P W F a b (x + 1)).set x (0, 1)).length = P.length by rw [List.length_set, HDL.out])
        have HPS : Hid (∀ z, x < z → z < P.length → endB P z = false → nP ((ixD P W F a b (x + 1)).set x (0, 1)) z = idxP P W F a b z) := Lib.hid fun z h1 h2 _ => by
          rw [nP_set_ne (by omega)]
          exact ixD_nP h2 h1
        have HE := Lib.hid he
        clear he
        go_wp2_with fail
        refine (l8Best_c A1 P c1 (some a2) W c2 A3 F c3 a b hk (w.heap.size + 1) P.length _ _ x _ (h.below R2.hb (Nat.le_refl _)) hx HE.out R2.o HL2.out HPS.out).mono ?_
        rintro e w3 ⟨rfl, b3⟩
        have R3 := R2.below b3
        clear R R2 b3 d0 d1 z0 z1 f0 f1 f2 fz e0 e1 e2 ez q2
        obtain ⟨d0, d1⟩ := R3.o.cells (k := x) (by rw [HL2.out]; exact hx)
        have z0 := R3.o.frozen (x * 2)
        have z1 := R3.o.frozen (x * 2 + 1)
        have R4 := R3.set (idxP P W F a b x).1 (idxP P W F a b x).2 (k := x) (by rw [HL2.out]; exact hx)
        rw [HS.out] at R4
        go_wp2
        go_roundw
        case rel => exact ⟨x, (x : Int) - 1, by omega, by omega, by go_num, R4⟩
        case measure => simp [intOf] <;> omega
      · have ew := neB_wt hok hx he
        have HS := Lib.hid (ixD_step (P := P) (W := W) (F := F) (a := a) (b := b) x)
        have HE := Lib.hid (idx_end (W := W) (F := F) (a := a) (b := b) he)
        clear he
        rw [show ((0 : Int), (1 : Int)) = idxP P W F a b x from HE.out.symm, HS.out] at R2
        go_wp2
        go_roundw
        case rel => exact ⟨x, (x : Int) - 1, by omega, by omega, by go_num, R2⟩
        case measure => simp [intOf] <;> omega
set_option maxRecDepth 20000 in
set_option maxHeartbeats 1000000 in
theorem specIx_c (A1 : Option Addr) (P : List Int) (c1 : Nat) (A2 : Option Addr) (W : List Int) (c2 : Nat) (A3 : Option Addr) (F : List Int) (c3 : Nat) (a b : Int) (w : World) (h : RdM w A1 P A2 W A3 F) :
    Calls Try.prog 17 #[mkV A1 P.length c1 A2 W.length c2 A3 F.length c3, .int .i64 a, .int .i64 b] w (GivesP w (ixV P W F a b) (ixB P W F a b)) := by
  have HB1 : Below w.heap.size w (w.alloc (.cells #[.slice A1 P.length c1, .slice A2 W.length c2, .slice A3 F.length c3] 33)) := (Below.refl _ _).alloc (Nat.le_refl _) _
  have bx := Bx3.new w (.slice A1 P.length c1) (.slice A2 W.length c2) (.slice A3 F.length c3) 33
  cases hq : (armB P W F && discB a b)
  · have HQ := Lib.hid (show ixB P W F a b = false from hq)
    rw [ixV_no HQ.out, HQ.out]
    go_enter Try.func17, Try.ntmps17
    go_wp2_with fail
    refine (l8One_is _ _ _ _ _ _ _ _ _ _ _ _ hq _ (h.below HB1 (Nat.le_refl _))).mono ?_
    rintro e w2 ⟨rfl, b2⟩
    have HB2 := bUp HB1 b2 HB1.size
    have O := (OwnP.lit0 w2).mono HB2.size
    go_wp2
    go_ret2
    exact ⟨_, _, rfl, O, HB2.alloc HB2.size _⟩
  · have hk := armAB_iff.1 hq
    have HQ := Lib.hid (show ixB P W F a b = true from hq)
    have HL := Lib.hid (ixL_len (P := P) (W := W) (F := F) (a := a) (b := b))
    rw [ixV_yes HQ.out, HQ.out]
    go_enter Try.func17, Try.ntmps17
    go_wp2_with fail
    refine (l8One_is _ _ _ _ _ _ _ _ _ _ _ _ hq _ (h.below HB1 (Nat.le_refl _))).mono ?_
    rintro e w2 ⟨rfl, b2⟩
    have HB2 := bUp HB1 b2 HB1.size
    obtain ⟨f0, f1, f2, fz⟩ := bx.below b2
    clear bx b2 HB1
    go_wp2_with fail
    refine (l8Index_c A1 P c1 A2 W c2 A3 F c3 a b hk _ (h.below HB2 (Nat.le_refl _))).mono ?_
    rintro e w3 ⟨g, c, rfl, o, b3⟩
    go_wp2
    go_ret2
    exact ⟨_, _, by rw [HL.out] <;> rfl, o.mono HB2.size, bUp HB2 b3 HB2.size⟩
set_option maxRecDepth 20000 in
set_option maxHeartbeats 1000000 in
theorem implIx_c (A1 : Option Addr) (P : List Int) (c1 : Nat) (A2 : Option Addr) (W : List Int) (c2 : Nat) (A3 : Option Addr) (F : List Int) (c3 : Nat) (a b : Int) (w : World) (h : RdM w A1 P A2 W A3 F) :
    Calls Try.prog 18 #[mkV A1 P.length c1 A2 W.length c2 A3 F.length c3, .int .i64 a, .int .i64 b] w (GivesP w (ixV P W F a b) (ixB P W F a b)) := by
  have HB1 : Below w.heap.size w (w.alloc (.cells #[.slice A1 P.length c1, .slice A2 W.length c2, .slice A3 F.length c3] 33)) := (Below.refl _ _).alloc (Nat.le_refl _) _
  have bx := Bx3.new w (.slice A1 P.length c1) (.slice A2 W.length c2) (.slice A3 F.length c3) 33
  cases ha : armB P W F
  · have HQ := Lib.hid (show ixB P W F a b = false by rw [ixB, ha]; rfl)
    rw [ixV_no HQ.out, HQ.out]
    go_enter Try.func18, Try.ntmps18
    go_wp2_with fail
    refine (implArm_is _ _ _ _ _ _ _ _ _ _ ha _ (h.below HB1 (Nat.le_refl _))).mono ?_
    rintro e w2 ⟨rfl, b2⟩
    go_wp2
    go_ret2
    exact ⟨none, 0, rfl, OwnP.nil _ _, bUp HB1 b2 HB1.size⟩
  cases hd : discB a b
  · have HQ := Lib.hid (show ixB P W F a b = false by rw [ixB, hd]; simp)
    rw [ixV_no HQ.out, HQ.out]
    go_enter Try.func18, Try.ntmps18
    go_wp2_with fail
    refine (implArm_is _ _ _ _ _ _ _ _ _ _ ha _ (h.below HB1 (Nat.le_refl _))).mono ?_
    rintro e w2 ⟨rfl, b2⟩
    go_wp2_with fail
    refine (isDiscount_is _ _ _ hd _).mono ?_
    rintro e w3 ⟨rfl, rfl⟩
    go_wp2
    go_ret2
    exact ⟨none, 0, rfl, OwnP.nil _ _, bUp HB1 b2 HB1.size⟩
  have hq : (armB P W F && discB a b) = true := by rw [ha, hd]; rfl
  have hk := armAB_iff.1 hq
  have HQ := Lib.hid (show ixB P W F a b = true from hq)
  have HFL := Lib.hid hk.arm.len
  have hn9 := hk.arm.n9
  rw [ixV_yes HQ.out, HQ.out]
  clear hq
  go_enter Try.func18, Try.ntmps18
  go_wp2_with fail
  refine (implArm_is _ _ _ _ _ _ _ _ _ _ ha _ (h.below HB1 (Nat.le_refl _))).mono ?_
  rintro e w2 ⟨rfl, b2⟩
  go_wp2_with fail
  refine (isDiscount_is _ _ _ hd _).mono ?_
  rintro e w3 ⟨rfl, rfl⟩
  have bx2 := bx.below b2
  have sz2 : w.heap.size + 1 ≤ w2.heap.size := bx2.2.2.2
  have HB2 := bUp HB1 b2 HB1.size
  have O0 := Lib.hid (OwnP.lit0 w2)
  have HB3 := HB2.alloc HB2.size (.cells #[] 28)
  have bx3 := bx2.alloc (.cells #[] 28)
  obtain ⟨f0, f1, f2, fz⟩ := id bx2
  clear bx b2 HB1 bx2
  go_wp2
  clear f0 f1 f2 fz
  go_loopw [8, 23] (fun t i wr => ∃ (k : Nat) (A : Option Addr) (c : Nat), k ≤ P.length ∧ i = .int .i64 (k : Int) ∧ t = .slice A k c ∧ OwnP wr (w.heap.size + 1) A c (ixU P W F a b k) ∧ Bx3 wr w.heap.size (.slice A1 P.length c1) (.slice A2 W.length c2) (.slice A3 F.length c3) ∧ Below w.heap.size w wr) (fun _ i _ => P.length - (intOf i).toNat)
  case atStart => exact ⟨0, _, _, Nat.zero_le _, rfl, rfl, O0.out.mono sz2, bx3, HB3⟩
  case round =>
    clear O0 HB3 bx3
    obtain ⟨k, A, c, hkl, rfl, rfl, o, bx, HB⟩ := hrel
    obtain ⟨wo, rfl⟩ : ∃ wo : World, wo = wr := ⟨_, rfl⟩
    obtain ⟨f0, f1, f2, fz⟩ := id bx
    have HUL := Lib.hid (ixU_len (P := P) (W := W) (F := F) (a := a) (b := b) k)
    by_cases hlt : k < P.length
    · have hltF : k < F.length := by have := HFL.out; omega
      have HS := Lib.hid (ixU_succ (P := P) (W := W) (F := F) (a := a) (b := b) k)
      go_wp2_with fail
      refine (index_c A1 P c1 A2 W c2 A3 F c3 a b k _ (h.below HB (Nat.le_refl _)) hk hlt).mono ?_
      rintro e w4 ⟨rfl, b4⟩
      have o4 := o.below b4
      have bx4 := bx.below b4
      have HB4 := bUp HB b4 HB.size
      clear o bx HB f0 f1 f2 fz b4
      have src : ∀ j u, (pcells [idxP P W F a b k])[j]? = some u → (w4.alloc (.cells #[.int .i64 (idxP P W F a b k).1, .int .i64 (idxP P W F a b k).2] 28)).cell? ((⟨w4.heap.size, 0, none⟩ : Addr).add j) = some u := by
        have := (OwnP.lit w4 [idxP P W F a b k] (by simp)).src
        simpa [pcells] using this
      have SRC := Lib.hid src
      clear src
      have szw : w.heap.size + 1 ≤ w4.heap.size := bx4.2.2.2
      have o5 := o4.alloc (.cells #[.int .i64 (idxP P W F a b k).1, .int .i64 (idxP P W F a b k).2] 28)
      have bx5 := bx4.alloc (.cells #[.int .i64 (idxP P W F a b k).1, .int .i64 (idxP P W F a b k).2] 28)
      have HB5 := HB4.alloc HB4.size (.cells #[.int .i64 (idxP P W F a b k).1, .int .i64 (idxP P W F a b k).2] 28)
      go_wp2_with (at_builtin; refine wp_append_pairs _ rfl _ _ rfl (w.heap.size + 1) A k c (ixU P W F a b k) rfl HUL.out.symm o5 ⟨w4.heap.size, 0, none⟩ 1 1 [idxP P W F a b k] rfl rfl SRC.out (by have := HUL.out; simp; omega) (by simp; omega) (by simp) ?_; intro g2 c2 w6 o6 hg6 hb6)
      have bx6 := bx5.grownR hg6 (fun e => by have := o5.ge _ e; omega)
      have HB6 := HB5.grown hg6 HB5.size (fun j hj => by have := o5.ge j hj; omega)
      go_roundw
      case rel => exact ⟨k + 1, some ⟨g2, 0, none⟩, c2, by omega, by go_num, rfl, by rw [HS.out]; exact o6, bx6, HB6⟩
      case measure => simp [intOf] <;> omega
    · obtain rfl : k = P.length := by omega
      have hltF : ¬ P.length < F.length := by have := HFL.out; omega
      rw [ixU_all] at o
      go_wp2
      go_ret2
      exact ⟨_, _, by rw [ixL_len] <;> rfl, o.mono (by omega), HB⟩

end Go.Proofs.Ytdhagkckkdaenaa
