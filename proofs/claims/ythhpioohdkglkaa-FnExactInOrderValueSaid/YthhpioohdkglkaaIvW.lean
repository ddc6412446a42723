/- Arms that are played by indices and in order: both sides. -/
import Derived.Test.YthhpioohdkglkaaFvA
namespace Go.Proofs.Ythhpioohdkglkaa
open Go.RowKit

/-- The numbers of playing by indices. -/
def idxN (L : List Mkd) (a b : Int) (i x : Nat) : Int × Int := idxP (mAt L i).P (mAt L i).W (mAt L i).F a b x
def ixR (L : List Mkd) (a b : Int) (j : Nat) : List (Int × Int) := ixL (mAt L j).P (mAt L j).W (mAt L j).F a b
theorem ArmsOk.disc {L : List Mkd} {a b : Int} (h : ArmsOk L a b) {i : Nat} (hi : i < L.length) : ixB (mAt L i).P (mAt L i).W (mAt L i).F a b = true := by
  have h1 := h.a1
  have h2 := h.ab
  have h3 := h.b4
  unfold ixB
  rw [armB_iff.2 (h.arm hi)]
  simp [discB]
  omega
theorem ArmsOk.armAB {L : List Mkd} {a b : Int} (h : ArmsOk L a b) {i : Nat} (hi : i < L.length) : ArmAB (mAt L i).P (mAt L i).W (mAt L i).F a b := armAB_iff.1 (h.disc hi)
theorem idxN_ok {L : List Mkd} {a b : Int} (hok : ArmsOk L a b) : NumOk L (idxN L a b) := fun i x hi hx => by
  have h := frP_iff.1 (idx_fr (hok.armAB hi) hx)
  unfold idxN
  omega
theorem idxN_r {L : List Mkd} {a b : Int} : NumR L (idxN L a b) (ixR L a b) := fun _ _ => ⟨ixL_len, fun _ hx => ixL_nP hx⟩
set_option maxRecDepth 20000 in
set_option maxHeartbeats 2000000 in
theorem specIv_c (A : Option Addr) (L : List Mkd) (c : Nat) (a b : Int) (w : World) (h : RdMs w A L) (hs : SzMs L) :
    Calls Try.prog 19 #[.slice A L.length c, .int .i64 a, .int .i64 b] w (Quietly w (.tuple #[.int .i64 (plV L a b (idxN L a b) false), .bool (armsB L a b)])) := by
  go_enter Try.func19, Try.ntmps19
  go_wp2_with fail
  refine (l8FromN_c A L c a b 1 (by decide) (by decide) (idxN L a b) (ixR L a b) idxN_ok (fun _ => idxN_r) _ h hs fun hok w h => l8StartI_c (by decide) hok A c w h hs).mono ?_
  rintro e w2 ⟨rfl, b2⟩
  go_wp2_with fail
  go_ret2
  exact ⟨rfl, b2⟩
set_option maxRecDepth 20000 in
set_option maxHeartbeats 2000000 in
theorem specOv_c (A : Option Addr) (L : List Mkd) (c : Nat) (a b : Int) (w : World) (h : RdMs w A L) (hs : SzMs L) :
    Calls Try.prog 17 #[.slice A L.length c, .int .i64 a, .int .i64 b] w (Quietly w (.tuple #[.int .i64 (plV L a b (idxN L a b) true), .bool (armsB L a b)])) := by
  go_enter Try.func17, Try.ntmps17
  go_wp2_with fail
  refine (l8FromO_c A L c a b (idxN L a b) (ixR L a b) idxN_ok (fun _ => idxN_r) _ h hs fun hok w h => l8StartI_c (by decide) hok A c w h hs).mono ?_
  rintro e w2 ⟨rfl, b2⟩
  go_wp2_with fail
  go_ret2
  exact ⟨rfl, b2⟩
set_option maxRecDepth 20000 in
set_option maxHeartbeats 4000000 in
theorem indicesOf_c {L : List Mkd} {a b : Int} (hok : ArmsOk L a b) (A : Option Addr) (c : Nat) (w : World) (h : RdMs w A L) (hsz : SzMs L) :
    Calls Try.prog 36 #[.slice A L.length c, .int .i64 a, .int .i64 b] w fun e w' => ∃ AN cN, e = .returned (.slice AN L.length cN) ∧ RdN w' AN L.length (ixR L a b) ∧ Below w.heap.size w w' := by
  have hn3 := hok.n3
  have o0 := OwnV.lit 65 w [] (by simp)
  have HB0 : Below w.heap.size w (w.alloc (.cells #[] 65)) := (Below.refl _ _).alloc (Nat.le_refl _) _
  go_enter Try.func36, Try.ntmps36
  go_wp2_with fail
  go_loopw [7, 15] (fun o i wr => ∃ (k : Nat) (AN : Option Addr) (cN : Nat) (HN : List Value), k ≤ L.length ∧ i = .int .i64 (k : Int) ∧ o = .slice AN k cN ∧ OwnV 65 wr w.heap.size AN cN HN ∧ HeadsT LiesP wr (fun b => blk AN = some b) HN k (ixR L a b) ∧ Below w.heap.size w wr) (fun _ i _ => L.length - (intOf i).toNat)
  case atStart => exact ⟨0, _, _, [], by omega, rfl, rfl, o0, HeadsT.nil _ _ _, HB0⟩
  case round =>
    clear o0 HB0
    obtain ⟨v, rfl⟩ : ∃ v : World, v = wr := ⟨_, rfl⟩
    obtain ⟨k, AN, cN, HN, hk, rfl, rfl, ho, hh, HB⟩ := hrel
    by_cases hlt : k < L.length
    · obtain ⟨ad, A1, c1, A2, c2, A3, c3, rfl, q1, q2, q3, t1, t2, t3⟩ := (h.up HB) k hlt
      have q2' := cellOff 1 (by omega) q2
      have q3' := cellOff 2 (by omega) q3
      have hmk := hsz.2 k hlt
      have HB1 : Below v.heap.size v (v.alloc (.cells #[.slice A1 (mAt L k).P.length c1, .slice A2 (mAt L k).W.length c2, .slice A3 (mAt L k).F.length c3] 39)) := (Below.refl _ _).alloc (Nat.le_refl _) _
      have C := implIx_c A1 (mAt L k).P c1 A2 (mAt L k).W c2 A3 (mAt L k).F c3 a b _ ((RdMs.rdM hmk t1 t2 t3).below HB1 (Nat.le_refl _))
      rw [ixV_yes (hok.disc hlt), hok.disc hlt] at C
      change Calls _ _ _ _ (GivesP _ (ixR L a b k) true) at C
      have HNL := Lib.hid hh.len
      have HO := Lib.hid ho
      have HH := Lib.hid hh
      clear q2 q3 t1 t2 t3 ho hh hmk
      go_wp2_with fail
      refine C.mono ?_
      rintro e v2 ⟨gi, ci, rfl, oi, bi⟩
      have HB2 := bUp HB1 bi HB1.size
      clear C q1 q2' q3'
      have bl : Below v2.heap.size v2 (v2.alloc (.cells #[.slice gi (ixR L a b k).length ci] 65)) := (Below.refl _ _).alloc (Nat.le_refl _) _
      have HB3 := bUp HB2 bl HB2.size
      have ly : LiesP (v2.alloc (.cells #[.slice gi (ixR L a b k).length ci] 65)) (fun b => blk AN = some b) (.slice gi (ixR L a b k).length ci) (ixR L a b k) := by
        refine (oi.alloc _).lies fun g hg hd => ?_
        have h1 := oi.ge g hg
        have h2 := (HO.out.ltk g hd).2
        have h3 := HB1.size
        omega
      have LY := Lib.hid ly
      have O3 := Lib.hid (HO.out.below HB3)
      have H3 := Lib.hid (HH.out.keep staysP (Kept.of_below HB3))
      have hsz3 := HB3.size
      have hbs := HB.size
      go_wp2_with (at_builtin; refine wp_append_oneV 48 65 Try.underlying48 phead_info _ rfl _ _ rfl w.heap.size AN k cN HN rfl HNL.out.symm O3.out v2.heap.size 1 (.slice gi (ixR L a b k).length ci) rfl (by simp) rfl (by rw [HNL.out]; omega) (by omega) ?_; intro g13 c13 v13 o13 G13 t13)
      have tt : blk (some (⟨g13, 0, none⟩ : Addr)) = blk AN ∨ ∃ r, blk (some (⟨g13, 0, none⟩ : Addr)) = some r ∧ (v2.alloc (.cells #[.slice gi (ixR L a b k).length ci] 65)).heap.size ≤ r := by
        rcases t13 with t | t
        · exact .inl t
        · exact .inr ⟨_, rfl, by show _ ≤ g13; omega⟩
      have h5 := (H3.out.push staysP G13 (fun b hb => hb) tt (fun b h => .inr h)).snoc (push_keep staysP LY.out G13 (fun b hb => hb) tt (fun b h => .inr h))
      have HB5 := (bUp HB HB3 HB.size).grown G13 (by omega) (fun b hb => O3.out.ge b hb)
      clear tt
      go_roundw
      case rel => exact ⟨k + 1, _, c13, _, by omega, by go_num, rfl, o13, h5, HB5⟩
      case measure => simp [intOf] <;> omega
    · obtain rfl : k = L.length := by omega
      go_wp2_with fail
      go_ret
      exact ⟨AN, cN, rfl, heads_n ho hh, HB⟩
end Go.Proofs.Ythhpioohdkglkaa
