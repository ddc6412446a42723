/- Indices of arms, and playing in order: both walks (merged of IvW OrW). -/
import Derived.Test.YtfobjkdkjlbkfaaFvA
namespace Go.Proofs.Ytfobjkdkjlbkfaa
open Go.RowKit

/-- The numbers of playing by indices. -/
def idxN (L : List Mkd) (a b : Int) (i x : Nat) : Int × Int := idxP (mAt L i).P (mAt L i).W (mAt L i).F a b x
def ixR (L : List Mkd) (a b : Int) (j : Nat) : List (Int × Int) := ixL (mAt L j).P (mAt L j).W (mAt L j).F a b
theorem ArmsOk.disc {L : List Mkd} {a b : Int} (h : ArmsOk L a b) {i : Nat} (hi : i < L.length) : ixB (mAt L i).P (mAt L i).W (mAt L i).F a b = true := by
  have h1 := h.a1
  have h2 := h.ab
  have h3 := h.b4
  unfold ixB
  rw [armB_iff.2 (h.arm hi)]
  simp [discB]
  omega
theorem ArmsOk.armAB {L : List Mkd} {a b : Int} (h : ArmsOk L a b) {i : Nat} (hi : i < L.length) : ArmAB (mAt L i).P (mAt L i).W (mAt L i).F a b := armAB_iff.1 (h.disc hi)
theorem idxN_ok {L : List Mkd} {a b : Int} (hok : ArmsOk L a b) : NumOk L (idxN L a b) := fun i x hi hx => by
  have h := frP_iff.1 (idx_fr (hok.armAB hi) hx)
  unfold idxN
  omega
theorem idxN_r {L : List Mkd} {a b : Int} : NumR L (idxN L a b) (ixR L a b) := fun _ _ => ⟨ixL_len, fun _ hx => ixL_nP hx⟩
set_option maxRecDepth 20000 in
set_option maxHeartbeats 2000000 in
theorem specIv_c (A : Option Addr) (L : List Mkd) (c : Nat) (a b : Int) (w : World) (h : RdMs w A L) (hs : SzMs L) :
    Calls Try.prog 28 #[.slice A L.length c, .int .i64 a, .int .i64 b] w (Quietly w (.tuple #[.int .i64 (plV L a b (idxN L a b) false), .bool (armsB L a b)])) := by
  go_enter Try.func28, Try.ntmps28
  go_wp2_with fail
  refine (l8FromN_c A L c a b 1 (by decide) (by decide) (idxN L a b) (ixR L a b) idxN_ok (fun _ => idxN_r) _ h hs fun hok w h => l8StartI_c (by decide) hok A c w h hs).mono ?_
  rintro e w2 ⟨rfl, b2⟩
  go_wp2_with fail
  go_ret2
  exact ⟨rfl, b2⟩
set_option maxRecDepth 20000 in
set_option maxHeartbeats 2000000 in
theorem specOv_c (A : Option Addr) (L : List Mkd) (c : Nat) (a b : Int) (w : World) (h : RdMs w A L) (hs : SzMs L) :
    Calls Try.prog 32 #[.slice A L.length c, .int .i64 a, .int .i64 b] w (Quietly w (.tuple #[.int .i64 (plV L a b (idxN L a b) true), .bool (armsB L a b)])) := by
  go_enter Try.func32, Try.ntmps32
  go_wp2_with fail
  refine (l8FromO_c A L c a b (idxN L a b) (ixR L a b) idxN_ok (fun _ => idxN_r) _ h hs fun hok w h => l8StartI_c (by decide) hok A c w h hs).mono ?_
  rintro e w2 ⟨rfl, b2⟩
  go_wp2_with fail
  go_ret2
  exact ⟨rfl, b2⟩
set_option maxRecDepth 20000 in
set_option maxHeartbeats 4000000 in
theorem indicesOf_c {L : List Mkd} {a b : Int} (hok : ArmsOk L a b) (A : Option Addr) (c : Nat) (w : World) (h : RdMs w A L) (hsz : SzMs L) :
    Calls Try.prog 87 #[.slice A L.length c, .int .i64 a, .int .i64 b] w fun e w' => ∃ AN cN, e = .returned (.slice AN L.length cN) ∧ RdN w' AN L.length (ixR L a b) ∧ Below w.heap.size w w' := by
  have hn3 := hok.n3
  have o0 := OwnV.lit 34 w [] (by simp)
  have HB0 : Below w.heap.size w (w.alloc (.cells #[] 34)) := (Below.refl _ _).alloc (Nat.le_refl _) _
  go_enter Try.func87, Try.ntmps87
  go_wp2_with fail
  go_loopw [7, 15] (fun o i wr => ∃ (k : Nat) (AN : Option Addr) (cN : Nat) (HN : List Value), k ≤ L.length ∧ i = .int .i64 (k : Int) ∧ o = .slice AN k cN ∧ OwnV 34 wr w.heap.size AN cN HN ∧ HeadsT LiesP wr (fun b => blk AN = some b) HN k (ixR L a b) ∧ Below w.heap.size w wr) (fun _ i _ => L.length - (intOf i).toNat)
  case atStart => exact ⟨0, _, _, [], by omega, rfl, rfl, o0, HeadsT.nil _ _ _, HB0⟩
  case round =>
    clear o0 HB0
    obtain ⟨v, rfl⟩ : ∃ v : World, v = wr := ⟨_, rfl⟩
    obtain ⟨k, AN, cN, HN, hk, rfl, rfl, ho, hh, HB⟩ := hrel
    by_cases hlt : k < L.length
    · obtain ⟨ad, A1, c1, A2, c2, A3, c3, rfl, q1, q2, q3, t1, t2, t3⟩ := (h.up HB) k hlt
      have q2' := cellOff 1 (by omega) q2
      have q3' := cellOff 2 (by omega) q3
      have hmk := hsz.2 k hlt
      have HB1 : Below v.heap.size v (v.alloc (.cells #[.slice A1 (mAt L k).P.length c1, .slice A2 (mAt L k).W.length c2, .slice A3 (mAt L k).F.length c3] 28)) := (Below.refl _ _).alloc (Nat.le_refl _) _
      have C := implIx_c A1 (mAt L k).P c1 A2 (mAt L k).W c2 A3 (mAt L k).F c3 a b _ ((RdMs.rdM hmk t1 t2 t3).below HB1 (Nat.le_refl _))
      rw [ixV_yes (hok.disc hlt), hok.disc hlt] at C
      change Calls _ _ _ _ (GivesP _ (ixR L a b k) true) at C
      have HNL := Lib.hid hh.len
      have HO := Lib.hid ho
      have HH := Lib.hid hh
      clear q2 q3 t1 t2 t3 ho hh hmk
      go_wp2_with fail
      refine C.mono ?_
      rintro e v2 ⟨gi, ci, rfl, oi, bi⟩
      have HB2 := bUp HB1 bi HB1.size
      clear C q1 q2' q3'
      have bl : Below v2.heap.size v2 (v2.alloc (.cells #[.slice gi (ixR L a b k).length ci] 34)) := (Below.refl _ _).alloc (Nat.le_refl _) _
      have HB3 := bUp HB2 bl HB2.size
      have ly : LiesP (v2.alloc (.cells #[.slice gi (ixR L a b k).length ci] 34)) (fun b => blk AN = some b) (.slice gi (ixR L a b k).length ci) (ixR L a b k) := by
        refine (oi.alloc _).lies fun g hg hd => ?_
        have h1 := oi.ge g hg
        have h2 := (HO.out.ltk g hd).2
        have h3 := HB1.size
        omega
      have LY := Lib.hid ly
      have O3 := Lib.hid (HO.out.below HB3)
      have H3 := Lib.hid (HH.out.keep staysP (Kept.of_below HB3))
      have hsz3 := HB3.size
      have hbs := HB.size
      go_wp2_with (at_builtin; refine wp_append_oneV 99 34 Try.underlying99 phead_info _ rfl _ _ rfl w.heap.size AN k cN HN rfl HNL.out.symm O3.out v2.heap.size 1 (.slice gi (ixR L a b k).length ci) rfl (by simp) rfl (by rw [HNL.out]; omega) (by omega) ?_; intro g13 c13 v13 o13 G13 t13)
      have tt : blk (some (⟨g13, 0, none⟩ : Addr)) = blk AN ∨ ∃ r, blk (some (⟨g13, 0, none⟩ : Addr)) = some r ∧ (v2.alloc (.cells #[.slice gi (ixR L a b k).length ci] 34)).heap.size ≤ r := by
        rcases t13 with t | t
        · exact .inl t
        · exact .inr ⟨_, rfl, by show _ ≤ g13; omega⟩
      have h5 := (H3.out.push staysP G13 (fun b hb => hb) tt (fun b h => .inr h)).snoc (push_keep staysP LY.out G13 (fun b hb => hb) tt (fun b h => .inr h))
      have HB5 := (bUp HB HB3 HB.size).grown G13 (by omega) (fun b hb => O3.out.ge b hb)
      clear tt
      go_roundw
      case rel => exact ⟨k + 1, _, c13, _, by omega, by go_num, rfl, o13, h5, HB5⟩
      case measure => simp [intOf] <;> omega
    · obtain rfl : k = L.length := by omega
      go_wp2_with fail
      go_ret
      exact ⟨AN, cN, rfl, heads_n ho hh, HB⟩

theorem choT_stay {L : List Mkd} {num : Nat → Nat → Int × Int} {X : Nat → Nat} {k : Nat} (h : ¬ (choT L num true X k).1 < 0) : ∀ m, choT L num true X (k + m) = choT L num true X k
  | 0 => rfl
  | m + 1 => by
    have ih := choT_stay h m
    rw [← Nat.add_assoc, choT_no3 rfl (by rw [ih]; exact h), ih]
theorem less01 (f : Int × Int) : lessP (0, 1) f = decide (0 < f.1) := by simp [lessP]
/-- Numbers in rows behind a cell. -/
def numJ (L : List Mkd) (f : Nat → List (Int × Int)) (A : Option Addr) (c h : Nat) (w : World) : Prop := w.cell? ⟨h, 0, none⟩ = some (.slice A L.length c) ∧ RdN w A L.length f
theorem numJ_keep (L : List Mkd) (f : Nat → List (Int × Int)) (A : Option Addr) (c h : Nat) (w w' : World) (hj : numJ L f A c h w) (hc : ∀ q : Addr, q.block < w.heap.size → w'.cell? q = w.cell? q) : numJ L f A c h w' := ⟨(hc _ (cell_lt hj.1)).trans hj.1, hj.2.keep hc⟩
set_option maxRecDepth 20000 in
set_option maxHeartbeats 2000000 in
/-- IndexValue's number: the index. -/
theorem idxNum_c {L : List Mkd} {a b : Int} {num : Nat → Nat → Int × Int} {f : Nat → List (Int × Int)} (hok : ArmsOk L a b) (hf : NumR L num f) (A : Option Addr) (c g : Nat) {J : World → Prop} (hJ : ∀ w, J w → numJ L f A c g w) :
    NumC L num 89 (.pointer (some ⟨g, 0, none⟩)) J := by
  intro i x w hi hx hj
  obtain ⟨b0, hN⟩ := hJ w hj
  obtain ⟨an, AR, cr, rfl, n1, rr⟩ := hN i hi
  obtain ⟨hfl, hfx⟩ := hf i hi
  have hfx := hfx x hx
  obtain ⟨y0, y1⟩ := pcells_get (f i) x (by omega)
  obtain ⟨ar, rfl, r0⟩ := rr _ _ y0
  obtain ⟨_, er, r1⟩ := rr _ _ y1
  injection er with er
  subst er
  change _ = some (Value.int .i64 (nP (f i) x).1) at r0
  change _ = some (Value.int .i64 (nP (f i) x).2) at r1
  rw [hfx] at r0 r1
  rw [hfl] at n1
  have bl : Below w.heap.size w (w.alloc (.cells #[.int .i64 0, .int .i64 0] 31)) := (Below.refl _ _).alloc (Nat.le_refl _) _
  have p0 := (bl.cell (cell_lt b0)).trans b0
  have p1 := (bl.cell (cell_lt n1)).trans n1
  have p2 := (bl.cell (cell_lt r0)).trans r0
  have p3 := cellOff 1 (by omega) ((bl.cell (cell_lt r1)).trans r1)
  have bx := Bx.new w (.int .i64 0) (.int .i64 0) 31
  have hn3 := hok.n3
  have hx9 := (hok.arm hi).n9
  clear y0 y1 rr hfl hfx r1 r0 n1 b0
  go_enter Try.func89, Try.ntmps89
  obtain ⟨y0, y1, y2, y3, y4⟩ := bx
  go_wp2_with fail
  exact bodyPost_ret (v := .agg #[.int .i64 (num i x).1, .int .i64 (num i x).2]) (by simp [results, Try.results89, go_sem]) rfl ⟨rfl, (Below.refl _ _).alloc (Nat.le_refl _) _⟩
set_option maxRecDepth 20000 in
set_option maxHeartbeats 4000000 in
/-- InOrderValue's plan. -/
theorem order_c {L : List Mkd} {a b : Int} {p gm g : Nat} {num : Nat → Nat → Int × Int} {f : Nat → List (Int × Int)} {plv : Plv} (hok : ArmsOk L a b) (hf : NumR L num f) (A : Option Addr) (c : Nat) (X : Nat → Nat) (w : World) (hX : At3 L X)
    (hJ : ∀ w, plv.J w → numJ L f A c g w) (h : PyS w p gm L a b plv) :
    Calls Try.prog 91 #[.pointer (some ⟨p, 0, none⟩), atV X, .pointer (some ⟨g, 0, none⟩)] w (Quietly w (.int .i64 (choX L num true X))) := by
  unfold atV
  have hn3 := hok.n3
  have HB1 : Below w.heap.size w (w.alloc (.cells #[.int .i64 (X 0 : Nat), .int .i64 (X 1 : Nat), .int .i64 (X 2 : Nat)] 95)) := (Below.refl _ _).alloc (Nat.le_refl _) _
  have bx := Bx3.new w (.int .i64 (X 0 : Nat)) (.int .i64 (X 1 : Nat)) (.int .i64 (X 2 : Nat)) 95
  obtain ⟨A0, c0, e0, _⟩ := (h.below HB1).arms
  have HH := Lib.hid h
  have HJW := Lib.hid (hJ w h.ex)
  clear h hJ
  go_enter Try.func91, Try.ntmps91
  go_wp2_with fail
  have hw2 : (w.alloc (.cells #[.int .i64 (X 0 : Nat), .int .i64 (X 1 : Nat), .int .i64 (X 2 : Nat)] 95)).heap.size = w.heap.size + 1 := by simp
  have HZ := Lib.hid hw2
  have BX := Lib.hid bx
  clear hw2 bx e0
  generalize w.alloc (.cells #[.int .i64 (X 0 : Nat), .int .i64 (X 1 : Nat), .int .i64 (X 2 : Nat)] 95) = u at *
  go_loopw [12] (fun j wr => ∃ k : Nat, k ≤ L.length ∧ j = .int .i64 (k : Int) ∧ (choT L num true X k).1 = -1 ∧ (choT L num true X k).2 = (0, 1) ∧ Below (w.heap.size + 1) u wr) (fun j _ => L.length - (intOf j).toNat)
  case atStart => exact ⟨0, by omega, rfl, rfl, rfl, Below.refl _ _⟩
  case round =>
    obtain ⟨v, rfl⟩ : ∃ v : World, v = wr := ⟨_, rfl⟩
    obtain ⟨k, hk, rfl, hno1, hno2, HB⟩ := hrel
    have HNO1 := Lib.hid hno1
    have HNO2 := Lib.hid hno2
    clear hno1 hno2
    have HBW : Below w.heap.size w v := HB1.trans (HB.mono (Nat.le_succ _))
    by_cases hlt : k < L.length
    · have hu2 := HZ.out
      have x0 := (HB.cell (p := ⟨w.heap.size, 0, none⟩) (Nat.lt_succ_self _)).trans BX.out.1
      have x1 := (HB.cell (p := ⟨w.heap.size, 1, none⟩) (Nat.lt_succ_self _)).trans BX.out.2.1
      have x2 := (HB.cell (p := ⟨w.heap.size, 2, none⟩) (Nat.lt_succ_self _)).trans BX.out.2.2.1
      have hzv : w.heap.size + 1 ≤ v.heap.size := by have := HB.size; omega
      clear hu2
      have hxk := hX.1 k hlt
      have hk3 : (k : Int) < 3 := by omega
      cases hc : canX L X k
      · have HN1 := Lib.hid (choT_no1 (num := num) (one := true) hc)
        have C := can_c hok hX.1 hlt p gm false hc v.drew (HH.out.below (Below.drew HBW))
        unfold atV at C
        clear hc
        go_upto_region 4 with fail
        have hd1 : Below v.heap.size v v.drew := Below.drew (Below.refl _ _)
        have SK1 : Hid (∀ w', Below v.heap.size v w' → w'.cell? ⟨w.heap.size, 0, none⟩ = some (.int .i64 (X 0 : Nat)) ∧ w'.cell? ⟨w.heap.size, 1, none⟩ = some (.int .i64 (X 1 : Nat)) ∧ w'.cell? ⟨w.heap.size, 2, none⟩ = some (.int .i64 (X 2 : Nat))) := Lib.hid fun w' HV => ⟨(HV.cell (cell_lt x0)).trans x0, (HV.cell (cell_lt x1)).trans x1, (HV.cell (cell_lt x2)).trans x2⟩
        clear x0 x1 x2
        have hS1_0 := SK1.out _ hd1
        refine tamed_region (S := fun w' => w'.cell? ⟨w.heap.size, 0, none⟩ = some (.int .i64 (X 0 : Nat)) ∧ w'.cell? ⟨w.heap.size, 1, none⟩ = some (.int .i64 (X 1 : Nat)) ∧ w'.cell? ⟨w.heap.size, 2, none⟩ = some (.int .i64 (X 2 : Nat))) (fun _ => false) (by kernel_rfl) ?_
        refine tame0 (k := 0) ?_ rfl (by kernel_rfl) (by kernel_rfl) (by kernel_rfl) (fun _ _ _ h => h) (by kernel_rfl) (fun v => ?_) ?_
        rotate_left
        · (go_simp; all_goals rfl)
        simp only [Act.put, List.setIfInBounds_toArray]
        refine tame (k := 1) ?_ rfl (by kernel_rfl) (by kernel_rfl) (by kernel_rfl) (by kernel_rfl) (fun _ _ _ h => h) (by kernel_rfl) hS1_0 (fun v hv => ?_) ?_
        rotate_left
        · (obtain ⟨k1, k2, k3⟩ := hv; go_simp; all_goals rfl)
        simp only [Act.put]
        refine tame0 (k := 2) ?_ rfl (by kernel_rfl) (by kernel_rfl) (by kernel_rfl) (fun _ _ _ h => h) (by kernel_rfl) (fun v => ?_) ?_
        rotate_left
        · (go_simp; all_goals rfl)
        simp only [Act.put]
        refine tame_one (k := 3) (by kernel_rfl) rfl (by kernel_rfl) ?_
        go_simp
        refine (C).mono ?_
        rintro e v3 ⟨rfl, b3⟩
        have hd1_1 := bUp hd1 b3 (Nat.le_refl _)
        have hS1_1 := Lib.hid (SK1.out _ hd1_1)
        refine ⟨by first | exact hS1_1 | exact Hid.out hS1_1, ?_⟩
        refine tame0 (k := 4) ?_ rfl (by kernel_rfl) (by kernel_rfl) (by kernel_rfl) (fun _ _ _ h => h) (by kernel_rfl) (fun v => ?_) ?_
        rotate_left
        · (go_simp; all_goals rfl)
        simp only [Act.put]
        refine tame_no (k := 5) rfl (by kernel_rfl) (by kernel_rfl) (by kernel_rfl) (fun _ _ _ h => h) (by kernel_rfl) ?_
        simp only [Act.put]
        refine tame_no (k := 6) rfl (by kernel_rfl) (by kernel_rfl) (by kernel_rfl) (fun _ _ _ h => h) (by kernel_rfl) ?_
        simp only [Act.put]
        refine tame_no (k := 7) rfl (by kernel_rfl) (by kernel_rfl) (by kernel_rfl) (fun _ _ _ h => h) (by kernel_rfl) ?_
        simp only [Act.put]
        refine tame_no (k := 8) rfl (by kernel_rfl) (by kernel_rfl) (by kernel_rfl) (fun _ _ _ h => h) (by kernel_rfl) ?_
        simp only [Act.put]
        refine tame_no (k := 9) rfl (by kernel_rfl) (by kernel_rfl) (by kernel_rfl) (fun _ _ _ h => h) (by kernel_rfl) ?_
        simp only [Act.put]
        refine tame_no (k := 10) rfl (by kernel_rfl) (by kernel_rfl) (by kernel_rfl) (fun _ _ _ h => h) (by kernel_rfl) ?_
        simp only [Act.put]
        refine tame_no (k := 11) rfl (by kernel_rfl) (by kernel_rfl) (by kernel_rfl) (fun _ _ _ h => h) (by kernel_rfl) ?_
        simp only [Act.put]
        refine tame_no (k := 12) rfl (by kernel_rfl) (by kernel_rfl) (by kernel_rfl) (fun _ _ _ h => h) (by kernel_rfl) ?_
        simp only [Act.put]
        refine tame_no (k := 13) rfl (by kernel_rfl) (by kernel_rfl) (by kernel_rfl) (fun _ _ _ h => h) (by kernel_rfl) ?_
        simp only [Act.put]
        refine tame_no (k := 14) rfl (by kernel_rfl) (by kernel_rfl) (by kernel_rfl) (fun _ _ _ h => h) (by kernel_rfl) ?_
        simp only [Act.put]
        refine tame_no (k := 15) rfl (by kernel_rfl) (by kernel_rfl) (by kernel_rfl) (fun _ _ _ h => h) (by kernel_rfl) ?_
        simp only [Act.put]
        refine tame_one (k := 16) (by kernel_rfl) rfl (by kernel_rfl) ?_
        go_simp
        refine ⟨by first | exact hS1_1 | exact Hid.out hS1_1, ?_⟩
        refine tame_end (by kernel_rfl) ?_
        have HB9 := bUp HB hd1_1 (by omega)
        clear C
        go_wp2_with fail
        go_roundw
        case rel => exact ⟨k + 1, by omega, by go_num, by rw [HN1.out]; exact HNO1.out, by rw [HN1.out]; exact HNO2.out, HB9⟩
        case measure => simp [intOf] <;> omega
      · have C := can_c hok hX.1 hlt p gm true hc v.drew (HH.out.below (Below.drew HBW))
        unfold atV at C
        have bi := bx3_at x0 x1 x2 (Nat.lt_of_lt_of_le hlt hn3)
        have JV := numJ_keep L f A c g w v HJW.out fun q hq => HBW.cell hq
        obtain ⟨gc, hN⟩ := JV
        obtain ⟨an, AR, cr, rfl, n1, rr⟩ := hN k hlt
        obtain ⟨hfl, hfx⟩ := hf k hlt
        have hfx := hfx (X k) hxk
        obtain ⟨y0, _⟩ := pcells_get (f k) (X k) (by omega)
        obtain ⟨ar, rfl, r0⟩ := rr _ _ y0
        change _ = some (Value.int .i64 (nP (f k) (X k)).1) at r0
        rw [hfx] at r0
        rw [hfl] at n1
        have hnk : (X k : Int) < ((mAt L k).P.length : Int) := by omega
        have hlk : (k : Int) < (L.length : Int) := by omega
        clear y0 rr hfl hfx hN
        by_cases hp : 0 < (num k (X k)).1
        · have HC : Hid (choX L num true X = (k : Int)) := Lib.hid (by
            have h1 : choT L num true X (k + 1) = ((k : Int), num k (X k)) := choT_yes hc (by rw [HNO2.out, less01]; exact decide_eq_true hp) (.inr (by rw [HNO1.out]; decide))
            have h2 := choT_stay (k := k + 1) (num := num) (X := X) (L := L) (by rw [h1]; simp only; omega) (L.length - (k + 1))
            rw [show k + 1 + (L.length - (k + 1)) = L.length by omega] at h2
            unfold choX
            rw [h2, h1])
          clear hc
          go_upto_region 4 with fail
          have hd2 : Below v.heap.size v v.drew := Below.drew (Below.refl _ _)
          have SK2 : Hid (∀ w', Below v.heap.size v w' → w'.cell? ⟨w.heap.size, 0, none⟩ = some (.int .i64 (X 0 : Nat)) ∧ w'.cell? ⟨w.heap.size, 1, none⟩ = some (.int .i64 (X 1 : Nat)) ∧ w'.cell? ⟨w.heap.size, 2, none⟩ = some (.int .i64 (X 2 : Nat)) ∧ w'.cell? ⟨w.heap.size, k, none⟩ = some (.int .i64 (X k : Nat)) ∧ w'.cell? ⟨g, 0, none⟩ = some (.slice (some an) L.length c) ∧ w'.cell? (an.add k) = some (.slice (some ar) (mAt L k).P.length cr) ∧ w'.cell? (ar.add (X k * 2)) = some (.int .i64 (num k (X k)).1)) := Lib.hid fun w' HV => ⟨(HV.cell (cell_lt x0)).trans x0, (HV.cell (cell_lt x1)).trans x1, (HV.cell (cell_lt x2)).trans x2, (HV.cell (cell_lt bi)).trans bi, (HV.cell (cell_lt gc)).trans gc, (HV.cell (cell_lt n1)).trans n1, (HV.cell (cell_lt r0)).trans r0⟩
          clear x0 x1 x2 bi gc n1 r0
          have hS2_0 := SK2.out _ hd2
          refine tamed_region (S := fun w' => w'.cell? ⟨w.heap.size, 0, none⟩ = some (.int .i64 (X 0 : Nat)) ∧ w'.cell? ⟨w.heap.size, 1, none⟩ = some (.int .i64 (X 1 : Nat)) ∧ w'.cell? ⟨w.heap.size, 2, none⟩ = some (.int .i64 (X 2 : Nat)) ∧ w'.cell? ⟨w.heap.size, k, none⟩ = some (.int .i64 (X k : Nat)) ∧ w'.cell? ⟨g, 0, none⟩ = some (.slice (some an) L.length c) ∧ w'.cell? (an.add k) = some (.slice (some ar) (mAt L k).P.length cr) ∧ w'.cell? (ar.add (X k * 2)) = some (.int .i64 (num k (X k)).1)) (fun _ => false) (by kernel_rfl) ?_
          refine tame0 (k := 0) ?_ rfl (by kernel_rfl) (by kernel_rfl) (by kernel_rfl) (fun _ _ _ h => h) (by kernel_rfl) (fun v => ?_) ?_
          rotate_left
          · (go_simp; all_goals rfl)
          simp only [Act.put, List.setIfInBounds_toArray]
          refine tame (k := 1) ?_ rfl (by kernel_rfl) (by kernel_rfl) (by kernel_rfl) (by kernel_rfl) (fun _ _ _ h => h) (by kernel_rfl) hS2_0 (fun v hv => ?_) ?_
          rotate_left
          · (obtain ⟨k1, k2, k3, k4, k5, k6, k7⟩ := hv; go_simp; all_goals rfl)
          simp only [Act.put]
          refine tame0 (k := 2) ?_ rfl (by kernel_rfl) (by kernel_rfl) (by kernel_rfl) (fun _ _ _ h => h) (by kernel_rfl) (fun v => ?_) ?_
          rotate_left
          · (go_simp; all_goals rfl)
          simp only [Act.put]
          refine tame_one (k := 3) (by kernel_rfl) rfl (by kernel_rfl) ?_
          go_simp
          refine (C).mono ?_
          rintro e v3 ⟨rfl, b3⟩
          have hd2_1 := bUp hd2 b3 (Nat.le_refl _)
          have hS2_1 := Lib.hid (SK2.out _ hd2_1)
          refine ⟨by first | exact hS2_1 | exact Hid.out hS2_1, ?_⟩
          refine tame0 (k := 4) ?_ rfl (by kernel_rfl) (by kernel_rfl) (by kernel_rfl) (fun _ _ _ h => h) (by kernel_rfl) (fun v => ?_) ?_
          rotate_left
          · (go_simp; all_goals rfl)
          simp only [Act.put]
          have hS2_1o := Hid.out hS2_1
          refine tame (k := 5) ?_ rfl (by kernel_rfl) (by kernel_rfl) (by kernel_rfl) (by kernel_rfl) (fun _ _ _ h => h) (by kernel_rfl) hS2_1o (fun v hv => ?_) ?_
          rotate_left
          · (obtain ⟨k1, k2, k3, k4, k5, k6, k7⟩ := hv; go_simp; all_goals rfl)
          simp only [Act.put]
          refine tame0 (k := 6) ?_ rfl (by kernel_rfl) (by kernel_rfl) (by kernel_rfl) (fun _ _ _ h => h) (by kernel_rfl) (fun v => ?_) ?_
          rotate_left
          · (go_simp; all_goals rfl)
          simp only [Act.put]
          refine tame0 (k := 7) ?_ rfl (by kernel_rfl) (by kernel_rfl) (by kernel_rfl) (fun _ _ _ h => h) (by kernel_rfl) (fun v => ?_) ?_
          rotate_left
          · (go_simp; all_goals rfl)
          simp only [Act.put]
          refine tame (k := 8) ?_ rfl (by kernel_rfl) (by kernel_rfl) (by kernel_rfl) (by kernel_rfl) (fun _ _ _ h => h) (by kernel_rfl) hS2_1o (fun v hv => ?_) ?_
          rotate_left
          · (obtain ⟨k1, k2, k3, k4, k5, k6, k7⟩ := hv; go_simp; all_goals rfl)
          simp only [Act.put]
          refine tame0 (k := 9) ?_ rfl (by kernel_rfl) (by kernel_rfl) (by kernel_rfl) (fun _ _ _ h => h) (by kernel_rfl) (fun v => ?_) ?_
          rotate_left
          · (go_simp; all_goals rfl)
          simp only [Act.put]
          refine tame0 (k := 10) ?_ rfl (by kernel_rfl) (by kernel_rfl) (by kernel_rfl) (fun _ _ _ h => h) (by kernel_rfl) (fun v => ?_) ?_
          rotate_left
          · (go_simp; all_goals rfl)
          simp only [Act.put]
          refine tame (k := 11) ?_ rfl (by kernel_rfl) (by kernel_rfl) (by kernel_rfl) (by kernel_rfl) (fun _ _ _ h => h) (by kernel_rfl) hS2_1o (fun v hv => ?_) ?_
          rotate_left
          · (obtain ⟨k1, k2, k3, k4, k5, k6, k7⟩ := hv; go_simp; all_goals rfl)
          simp only [Act.put]
          refine tame0 (k := 12) ?_ rfl (by kernel_rfl) (by kernel_rfl) (by kernel_rfl) (fun _ _ _ h => h) (by kernel_rfl) (fun v => ?_) ?_
          rotate_left
          · (go_simp; all_goals rfl)
          simp only [Act.put]
          refine tame0 (k := 13) ?_ rfl (by kernel_rfl) (by kernel_rfl) (by kernel_rfl) (fun _ _ _ h => h) (by kernel_rfl) (fun v => ?_) ?_
          rotate_left
          · (go_simp; all_goals rfl)
          simp only [Act.put]
          refine tame (k := 14) ?_ rfl (by kernel_rfl) (by kernel_rfl) (by kernel_rfl) (by kernel_rfl) (fun _ _ _ h => h) (by kernel_rfl) hS2_1o (fun v hv => ?_) ?_
          rotate_left
          · (obtain ⟨k1, k2, k3, k4, k5, k6, k7⟩ := hv; go_simp; all_goals rfl)
          simp only [Act.put]
          refine tame0 (k := 15) ?_ rfl (by kernel_rfl) (by kernel_rfl) (by kernel_rfl) (fun _ _ _ h => h) (by kernel_rfl) (fun v => ?_) ?_
          rotate_left
          · (go_simp; all_goals rfl)
          simp only [Act.put]
          have hS2_1ov := Lib.hid hS2_1o
          clear hS2_1o
          refine tame_one (k := 16) (by kernel_rfl) rfl (by kernel_rfl) ?_
          go_simp
          refine ⟨by first | exact hS2_1ov | exact Hid.out hS2_1ov, ?_⟩
          refine tame_end (by kernel_rfl) ?_
          have HB9 := bUp HBW hd2_1 HBW.size
          clear C
          go_wp2_with fail
          go_ret
          exact ⟨by rw [HC.out] <;> rfl, HB9⟩
        · have HN1 : Hid (choT L num true X (k + 1) = choT L num true X k) := Lib.hid (choT_no2 (by rw [HNO2.out, less01]; exact decide_eq_false hp))
          clear hc
          go_upto_region 4 with fail
          have hd3 : Below v.heap.size v v.drew := Below.drew (Below.refl _ _)
          have SK3 : Hid (∀ w', Below v.heap.size v w' → w'.cell? ⟨w.heap.size, 0, none⟩ = some (.int .i64 (X 0 : Nat)) ∧ w'.cell? ⟨w.heap.size, 1, none⟩ = some (.int .i64 (X 1 : Nat)) ∧ w'.cell? ⟨w.heap.size, 2, none⟩ = some (.int .i64 (X 2 : Nat)) ∧ w'.cell? ⟨w.heap.size, k, none⟩ = some (.int .i64 (X k : Nat)) ∧ w'.cell? ⟨g, 0, none⟩ = some (.slice (some an) L.length c) ∧ w'.cell? (an.add k) = some (.slice (some ar) (mAt L k).P.length cr) ∧ w'.cell? (ar.add (X k * 2)) = some (.int .i64 (num k (X k)).1)) := Lib.hid fun w' HV => ⟨(HV.cell (cell_lt x0)).trans x0, (HV.cell (cell_lt x1)).trans x1, (HV.cell (cell_lt x2)).trans x2, (HV.cell (cell_lt bi)).trans bi, (HV.cell (cell_lt gc)).trans gc, (HV.cell (cell_lt n1)).trans n1, (HV.cell (cell_lt r0)).trans r0⟩
          clear x0 x1 x2 bi gc n1 r0
          have hS3_0 := SK3.out _ hd3
          refine tamed_region (S := fun w' => w'.cell? ⟨w.heap.size, 0, none⟩ = some (.int .i64 (X 0 : Nat)) ∧ w'.cell? ⟨w.heap.size, 1, none⟩ = some (.int .i64 (X 1 : Nat)) ∧ w'.cell? ⟨w.heap.size, 2, none⟩ = some (.int .i64 (X 2 : Nat)) ∧ w'.cell? ⟨w.heap.size, k, none⟩ = some (.int .i64 (X k : Nat)) ∧ w'.cell? ⟨g, 0, none⟩ = some (.slice (some an) L.length c) ∧ w'.cell? (an.add k) = some (.slice (some ar) (mAt L k).P.length cr) ∧ w'.cell? (ar.add (X k * 2)) = some (.int .i64 (num k (X k)).1)) (fun _ => false) (by kernel_rfl) ?_
          refine tame0 (k := 0) ?_ rfl (by kernel_rfl) (by kernel_rfl) (by kernel_rfl) (fun _ _ _ h => h) (by kernel_rfl) (fun v => ?_) ?_
          rotate_left
          · (go_simp; all_goals rfl)
          simp only [Act.put, List.setIfInBounds_toArray]
          refine tame (k := 1) ?_ rfl (by kernel_rfl) (by kernel_rfl) (by kernel_rfl) (by kernel_rfl) (fun _ _ _ h => h) (by kernel_rfl) hS3_0 (fun v hv => ?_) ?_
          rotate_left
          · (obtain ⟨k1, k2, k3, k4, k5, k6, k7⟩ := hv; go_simp; all_goals rfl)
          simp only [Act.put]
          refine tame0 (k := 2) ?_ rfl (by kernel_rfl) (by kernel_rfl) (by kernel_rfl) (fun _ _ _ h => h) (by kernel_rfl) (fun v => ?_) ?_
          rotate_left
          · (go_simp; all_goals rfl)
          simp only [Act.put]
          refine tame_one (k := 3) (by kernel_rfl) rfl (by kernel_rfl) ?_
          go_simp
          refine (C).mono ?_
          rintro e v3 ⟨rfl, b3⟩
          have hd3_1 := bUp hd3 b3 (Nat.le_refl _)
          have hS3_1 := Lib.hid (SK3.out _ hd3_1)
          refine ⟨by first | exact hS3_1 | exact Hid.out hS3_1, ?_⟩
          refine tame0 (k := 4) ?_ rfl (by kernel_rfl) (by kernel_rfl) (by kernel_rfl) (fun _ _ _ h => h) (by kernel_rfl) (fun v => ?_) ?_
          rotate_left
          · (go_simp; all_goals rfl)
          simp only [Act.put]
          have hS3_1o := Hid.out hS3_1
          refine tame (k := 5) ?_ rfl (by kernel_rfl) (by kernel_rfl) (by kernel_rfl) (by kernel_rfl) (fun _ _ _ h => h) (by kernel_rfl) hS3_1o (fun v hv => ?_) ?_
          rotate_left
          · (obtain ⟨k1, k2, k3, k4, k5, k6, k7⟩ := hv; go_simp; all_goals rfl)
          simp only [Act.put]
          refine tame0 (k := 6) ?_ rfl (by kernel_rfl) (by kernel_rfl) (by kernel_rfl) (fun _ _ _ h => h) (by kernel_rfl) (fun v => ?_) ?_
          rotate_left
          · (go_simp; all_goals rfl)
          simp only [Act.put]
          refine tame0 (k := 7) ?_ rfl (by kernel_rfl) (by kernel_rfl) (by kernel_rfl) (fun _ _ _ h => h) (by kernel_rfl) (fun v => ?_) ?_
          rotate_left
          · (go_simp; all_goals rfl)
          simp only [Act.put]
          refine tame (k := 8) ?_ rfl (by kernel_rfl) (by kernel_rfl) (by kernel_rfl) (by kernel_rfl) (fun _ _ _ h => h) (by kernel_rfl) hS3_1o (fun v hv => ?_) ?_
          rotate_left
          · (obtain ⟨k1, k2, k3, k4, k5, k6, k7⟩ := hv; go_simp; all_goals rfl)
          simp only [Act.put]
          refine tame0 (k := 9) ?_ rfl (by kernel_rfl) (by kernel_rfl) (by kernel_rfl) (fun _ _ _ h => h) (by kernel_rfl) (fun v => ?_) ?_
          rotate_left
          · (go_simp; all_goals rfl)
          simp only [Act.put]
          refine tame0 (k := 10) ?_ rfl (by kernel_rfl) (by kernel_rfl) (by kernel_rfl) (fun _ _ _ h => h) (by kernel_rfl) (fun v => ?_) ?_
          rotate_left
          · (go_simp; all_goals rfl)
          simp only [Act.put]
          refine tame (k := 11) ?_ rfl (by kernel_rfl) (by kernel_rfl) (by kernel_rfl) (by kernel_rfl) (fun _ _ _ h => h) (by kernel_rfl) hS3_1o (fun v hv => ?_) ?_
          rotate_left
          · (obtain ⟨k1, k2, k3, k4, k5, k6, k7⟩ := hv; go_simp; all_goals rfl)
          simp only [Act.put]
          refine tame0 (k := 12) ?_ rfl (by kernel_rfl) (by kernel_rfl) (by kernel_rfl) (fun _ _ _ h => h) (by kernel_rfl) (fun v => ?_) ?_
          rotate_left
          · (go_simp; all_goals rfl)
          simp only [Act.put]
          refine tame0 (k := 13) ?_ rfl (by kernel_rfl) (by kernel_rfl) (by kernel_rfl) (fun _ _ _ h => h) (by kernel_rfl) (fun v => ?_) ?_
          rotate_left
          · (go_simp; all_goals rfl)
          simp only [Act.put]
          refine tame (k := 14) ?_ rfl (by kernel_rfl) (by kernel_rfl) (by kernel_rfl) (by kernel_rfl) (fun _ _ _ h => h) (by kernel_rfl) hS3_1o (fun v hv => ?_) ?_
          rotate_left
          · (obtain ⟨k1, k2, k3, k4, k5, k6, k7⟩ := hv; go_simp; all_goals rfl)
          simp only [Act.put]
          refine tame0 (k := 15) ?_ rfl (by kernel_rfl) (by kernel_rfl) (by kernel_rfl) (fun _ _ _ h => h) (by kernel_rfl) (fun v => ?_) ?_
          rotate_left
          · (go_simp; all_goals rfl)
          simp only [Act.put]
          have hS3_1ov := Lib.hid hS3_1o
          clear hS3_1o
          refine tame_one (k := 16) (by kernel_rfl) rfl (by kernel_rfl) ?_
          go_simp
          refine ⟨by first | exact hS3_1ov | exact Hid.out hS3_1ov, ?_⟩
          refine tame_end (by kernel_rfl) ?_
          have HB9 := bUp HB hd3_1 (by omega)
          clear C
          go_wp2_with fail
          go_roundw
          case rel => exact ⟨k + 1, by omega, by go_num, by rw [HN1.out]; exact HNO1.out, by rw [HN1.out]; exact HNO2.out, HB9⟩
          case measure => simp [intOf] <;> omega
    · obtain rfl : k = L.length := by omega
      have HC : Hid (choX L num true X = -1) := HNO1
      go_wp2_with fail
      go_ret
      exact ⟨by rw [HC.out] <;> rfl, HBW⟩
/-- InOrderValue's plan with what it needs. -/
def orderPlv (L : List Mkd) (f : Nat → List (Int × Int)) (A : Option Addr) (c g : Nat) : Plv :=
  ⟨.func (.func 91) #[] #[.pointer (some ⟨g, 0, none⟩)], numJ L f A c g, numJ_keep L f A c g⟩
set_option maxRecDepth 20000 in
theorem valC_order {L : List Mkd} {a b : Int} {p gm g : Nat} {num : Nat → Nat → Int × Int} {f : Nat → List (Int × Int)} {A : Option Addr} {c : Nat} (hok : ArmsOk L a b) (hf : NumR L num f) (m : Nat) :
    ValC L a b (some (choX L num true)) (orderPlv L f A c g) p gm m :=
  valC_plan (fc := 91) (cap := .pointer (some ⟨g, 0, none⟩)) (plv := orderPlv L f A c g) rfl hok cho_ok (fun _ _ => rfl) (fun X w hX h => order_c (plv := orderPlv L f A c g) hok hf A c X w hX (fun _ hj => hj) h) m
set_option maxRecDepth 20000 in
set_option maxHeartbeats 2000000 in
theorem implOv_c (A : Option Addr) (L : List Mkd) (c : Nat) (a b : Int) (w : World) (h : RdMs w A L) (hs : SzMs L) :
    Calls Try.prog 31 #[.slice A L.length c, .int .i64 a, .int .i64 b] w (Quietly w (.tuple #[.int .i64 (plV L a b (idxN L a b) true), .bool (armsB L a b)])) := by
  cases hq : armsB L a b
  · rw [plV_no hq]
    go_enter Try.func31, Try.ntmps31
    go_wp2_with fail
    refine (areArms_is A L c a b _ hq _ h hs).mono ?_
    rintro e w2 ⟨rfl, b2⟩
    go_wp2
    go_ret2
    exact ⟨rfl, b2⟩
  · rw [plV_yes hq]
    have hok := armsB_iff.1 hq
    go_enter Try.func31, Try.ntmps31
    go_wp2_with fail
    refine (areArms_is A L c a b _ hq _ h hs).mono ?_
    rintro e w2 ⟨rfl, b2⟩
    go_wp2_with fail
    refine (indicesOf_c hok A c _ (h.up b2) hs).mono ?_
    rintro e w3 ⟨AN, cN, rfl, hN, b3⟩
    have HB3 := bUp b2 b3 b2.size
    have bl : Below w3.heap.size w3 (w3.alloc (.cells #[.slice AN L.length cN] 99)) := (Below.refl _ _).alloc (Nat.le_refl _) _
    have hJ : numJ L (ixR L a b) AN cN w3.heap.size (w3.alloc (.cells #[.slice AN L.length cN] 99)) := ⟨by simp, hN.below bl⟩
    have HJ := Lib.hid hJ
    have HB4 := bUp HB3 bl HB3.size
    clear hN hJ bl
    go_wp2_with fail
    generalize w3.alloc (.cells #[.slice AN L.length cN] 99) = w4 at *
    have HBP := HB4
    refine (newPyS (pl := orderPlv L (ixR L a b) AN cN w3.heap.size) (.inr ⟨_, _, _, rfl⟩) hok (valX L a b (some (choX L (idxN L a b) true))) A c _ (h.up HBP) hs HJ.out).mono ?_
    rintro e w6 ⟨rfl, hp, hm, b6⟩
    have HB6 := bUp HBP b6 HBP.size
    have hw3 := HBP.size
    go_wp2_with fail
    refine (value0_c hok (valC_order hok idxN_r 8) w6 hp hm).mono ?_
    rintro e w7 ⟨rfl, _, hg⟩
    go_wp2_with fail
    go_ret2
    exact ⟨rfl, HB6.grown hg HB6.size fun k hk => by injection hk with hk; omega⟩
set_option maxRecDepth 20000 in
set_option maxHeartbeats 2000000 in
theorem implIv_c (A : Option Addr) (L : List Mkd) (c : Nat) (a b : Int) (w : World) (h : RdMs w A L) (hs : SzMs L) :
    Calls Try.prog 27 #[.slice A L.length c, .int .i64 a, .int .i64 b] w (Quietly w (.tuple #[.int .i64 (plV L a b (idxN L a b) false), .bool (armsB L a b)])) := by
  cases hq : armsB L a b
  · rw [plV_no hq]
    go_enter Try.func27, Try.ntmps27
    go_wp2_with fail
    refine (areArms_is A L c a b _ hq _ h hs).mono ?_
    rintro e w2 ⟨rfl, b2⟩
    go_wp2
    go_ret2
    exact ⟨rfl, b2⟩
  · rw [plV_yes hq]
    have hok := armsB_iff.1 hq
    go_enter Try.func27, Try.ntmps27
    go_wp2_with fail
    refine (areArms_is A L c a b _ hq _ h hs).mono ?_
    rintro e w2 ⟨rfl, b2⟩
    go_wp2_with fail
    refine (indicesOf_c hok A c _ (h.up b2) hs).mono ?_
    rintro e w3 ⟨AN, cN, rfl, hN, b3⟩
    have HB3 := bUp b2 b3 b2.size
    have bl : Below w3.heap.size w3 (w3.alloc (.cells #[.slice AN L.length cN] 99)) := (Below.refl _ _).alloc (Nat.le_refl _) _
    have hJ : numJ L (ixR L a b) AN cN w3.heap.size (w3.alloc (.cells #[.slice AN L.length cN] 99)) := ⟨by simp, hN.below bl⟩
    have HJ := Lib.hid hJ
    have HB4 := bUp HB3 bl HB3.size
    clear hN hJ bl
    go_wp2_with fail
    generalize w3.alloc (.cells #[.slice AN L.length cN] 99) = w4 at *
    refine (byGreatest_c _ _ _).mono ?_
    rintro e w5 ⟨rfl, e5, b5⟩
    have HBP := bUp HB4 b5 HB4.size
    have E5 := Lib.hid e5
    have HJ5 := Lib.hid (numJ_keep L (ixR L a b) AN cN w3.heap.size _ _ HJ.out fun q hq => b5.cell hq)
    clear e5
    go_wp2_with fail
    refine (newPyS (pl := greatPlv 89 (.pointer (some ⟨w3.heap.size, 0, none⟩)) w4.heap.size (numJ L (ixR L a b) AN cN w3.heap.size) (numJ_keep L (ixR L a b) AN cN w3.heap.size)) (.inr ⟨_, _, _, rfl⟩) hok (valX L a b (some (choX L (idxN L a b) false))) A c _ (h.up HBP) hs ⟨E5.out, HJ5.out⟩).mono ?_
    rintro e w6 ⟨rfl, hp, hm, b6⟩
    have HB6 := bUp HBP b6 HBP.size
    have hw3 := HBP.size
    go_wp2_with fail
    refine (value0_c hok (valC_great hok (fun _ _ => rfl) (idxN_ok hok) (idxNum_c hok idxN_r AN cN w3.heap.size fun w hj => hj) 8) w6 hp hm).mono ?_
    rintro e w7 ⟨rfl, _, hg⟩
    go_wp2_with fail
    go_ret2
    exact ⟨rfl, HB6.grown hg HB6.size fun k hk => by injection hk with hk; omega⟩

end Go.Proofs.Ytfobjkdkjlbkfaa
