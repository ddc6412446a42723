/- Rows of rows; all sets of an arm that are closed towards a node: the program's list. -/
import Derived.Test.YtfobjkdkjlbkfaaIdxL
import Derived.Test.YtfobjkdkjlbkfaaTrX
import Derived.Test.YtfobjkdkjlbkfaaMk
import Derived.WalkSpells
import Derived.Test.YtfobjkdkjlbkfaaRowsA
namespace Go.Proofs.Ytfobjkdkjlbkfaa
open Go.RowKit
theorem slCloneSS_c (g : Nat) (c B : Nat) (H : List Value) (B0 : Nat) (D : Option Nat) (L : List (List Int)) (w : World) (ho : OwnH w B (some ⟨g, 0, none⟩) c H) (hh : Heads w B0 D H L) (h0 : 0 < L.length) (hl : L.length ≤ 65536) :
    Calls Try.prog 105 #[.slice (some ⟨g, 0, none⟩) L.length c] w fun e w' => ∃ g2 c2, e = .returned (.slice (some ⟨g2, 0, none⟩) L.length c2) ∧ OwnH w' w.heap.size (some ⟨g2, 0, none⟩) c2 H ∧ Below w.heap.size w w' := by
  have hlen := hh.len
  have HO := hh.one
  have O0 := OwnH.lit w [] (by simp)
  have HS : ∀ j u, H[j]? = some u → (w.alloc (.cells #[] 24)).cell? ((⟨g, 0, none⟩ : Addr).add j) = some u := fun j u hu => by
    rw [Addr.add_lit, Nat.zero_add]
    exact (ho.alloc _).cell hu
  have q1 := fun (w : World) => Lib.run_eql_slice_nil (P := Try.prog) (w := w)
  go_enter Try.func105, Try.ntmps105
  go_wp2_with (at_builtin; refine wp_append_heads _ rfl _ _ rfl w.heap.size _ 0 0 [] rfl rfl O0 ⟨g, 0, none⟩ L.length c H rfl hlen.symm HS HO (by simp; omega) (by simp) (by omega) ?_; intro g2 c2 w2 ho2 hg2 hb2; rw [List.nil_append] at ho2)
  go_ret
  exact ⟨g2, c2, by first | rfl | simp, ho2, (grown_of_alloc hg2 |> fun h => (Below.refl _ _).grown h (Nat.le_refl _) (by simp [blk]))⟩
theorem slCloneI_c (a : Addr) (xs : List Int) (c : Nat) (w : World) (ha : Rd w (some a) (ints xs)) (hl : xs.length ≤ 16777216) :
    Calls Try.prog 107 #[.slice (some a) xs.length c] w (Row w xs) := by
  have q1 := fun (w : World) => Lib.run_eql_slice_nil (P := Try.prog) (w := w)
  go_enter Try.func107, Try.ntmps107
  go_wp2_with (at_builtin; refine wp_append_ints _ rfl _ _ rfl w.heap.size _ 0 0 [] rfl rfl (Own.lit w [] (by simp)) (some a) xs.length c xs rfl rfl (ha.alloc _) (by simp; omega) (by simp) ?_; intro A2 c2 w2 ho2 hg2 hb2; rw [List.nil_append] at ho2)
  go_ret
  exact ⟨A2, c2, by first | rfl | simp, ho2, (grown_of_alloc hg2 |> fun h => (Below.refl _ _).grown h (Nat.le_refl _) (by simp [blk]))⟩
theorem hasI_yes {s : List Int} {p : Int} {k : Nat} (hk : k < s.length) (h : nth s k = p) : hasI s p = true := hasI_iff.2 (by rw [← h, nth_eq hk]; exact List.getElem_mem hk)
theorem hasI_no {s : List Int} {p : Int} (h : ∀ k, k < s.length → nth s k ≠ p) : hasI s p = false := by
  cases hb : hasI s p
  · rfl
  · obtain ⟨k, hk, e⟩ := List.mem_iff_getElem.1 (hasI_iff.1 hb)
    exact absurd (by rw [nth_eq hk]; exact e) (h k hk)
theorem slIndexI_c (A : Option Addr) (s : List Int) (n c : Nat) (x : Int) (w : World) (ha : Rd w A (ints s)) (hn : n = s.length) (hl : s.length ≤ 1000) :
    Calls Try.prog 127 #[.slice A n c, .int .i64 x] w fun e w' => (∃ v : Int, e = .returned (.int .i64 v) ∧ -1 ≤ v ∧ v ≤ 1000 ∧ hasI s x = decide (0 ≤ v)) ∧ w = w' := by
  subst hn
  go_enter Try.func127, Try.ntmps127
  go_wp2
  go_loop [8] (fun i => ∃ k : Nat, k ≤ s.length ∧ i = .int .i64 k ∧ ∀ j, j < k → nth s j ≠ x) (fun i => s.length - (intOf i).toNat)
  case atStart => exact ⟨0, by omega, rfl, fun j hj => by omega⟩
  case round =>
    obtain ⟨k, hk, rfl, hall⟩ := hrel
    have HA := Lib.hid hall
    clear hall
    by_cases hlt : k < s.length
    · obtain ⟨a, rfl, hca⟩ := ha.intN hlt
      by_cases he : nth s k = x
      · have HE := Lib.hid (hasI_yes hlt he)
        have e1 : (x == nth s k) = true := by simp [he]
        clear he
        go_wp2
        go_ret
        exact ⟨⟨_, rfl, by omega, by omega, by rw [HE.out, decide_eq_true (by omega)]⟩, rfl⟩
      · have e1 : (x == nth s k) = false := by simp; exact fun h => he h.symm
        have HE := Lib.hid he
        clear he
        go_wp2
        go_round
        case rel => exact ⟨k + 1, by omega, by go_num, fun j hj => by
          rcases Nat.lt_or_ge j k with h | h
          · exact HA.out j h
          · rw [show j = k by omega]; exact HE.out⟩
        case measure => simp [intOf] <;> omega
    · have HE := Lib.hid (hasI_no fun j hj => HA.out j (by omega))
      go_wp2
      go_ret
      exact ⟨⟨_, rfl, by omega, by omega, by rw [HE.out, decide_eq_false (by omega)]⟩, rfl⟩
theorem slContainsI_is (A : Option Addr) (s : List Int) (n c : Nat) (x : Int) (q : Bool) (h : hasI s x = q) (w : World) (ha : Rd w A (ints s)) (hn : n = s.length) (hl : s.length ≤ 1000) :
    Calls Try.prog 106 #[.slice A n c, .int .i64 x] w fun e w' => e = .returned (.bool q) ∧ w = w' := by
  subst hn
  go_enter Try.func106, Try.ntmps106
  go_wp2_with fail
  refine (slIndexI_c _ _ _ _ _ _ ha rfl hl).mono ?_
  rintro e w' ⟨⟨v, rfl, h1, h2, h3⟩, rfl⟩
  rw [h] at h3
  have H3 := Lib.hid h3
  clear h3
  go_wp2
  go_ret
  exact ⟨by rw [H3.out] <;> rfl, rfl⟩

/-- The sets when the nodes below y have been seen. -/
def stsY (P : List Int) (x y : Nat) : List (List Int) := stsTo P x (y - (x + 1))
theorem stsY_start (P : List Int) (x : Nat) : stsY P x (x + 1) = [[(x : Int)]] := by rw [stsY, Nat.sub_self]; rfl
theorem stsY_end {P : List Int} {x y : Nat} (h : x + 1 ≤ y) (he : endB P y = true) : stsY P x (y + 1) = stsY P x y := by
  unfold stsY
  rw [show y + 1 - (x + 1) = (y - (x + 1)) + 1 by omega, stsTo, show x + 1 + (y - (x + 1)) = y by omega, he]
  rfl
theorem stsY_in {P : List Int} {x y : Nat} (h : x + 1 ≤ y) (he : endB P y = false) : stsY P x (y + 1) = stsY P x y ++ stsIn (stsY P x y) (nth P y) (y : Int) (stsY P x y).length := by
  unfold stsY
  rw [show y + 1 - (x + 1) = (y - (x + 1)) + 1 by omega, stsTo, show x + 1 + (y - (x + 1)) = y by omega, he]
  rfl
theorem stsY_all {P : List Int} {x : Nat} (he : endB P x = false) : stsY P x P.length = sts P x := by
  rw [sts, he, if_neg (by simp), stsY, show P.length - (x + 1) = P.length - 1 - x by omega]
theorem stsY_len {P : List Int} {x y : Nat} (h9 : P.length ≤ 9) (hy : y ≤ P.length) : (stsY P x y).length ≤ 256 :=
  Nat.le_trans (stsTo_len _ _ _) (Nat.pow_le_pow_right (by decide) (show y - (x + 1) ≤ 8 by omega))
theorem stsY_pos (P : List Int) (x y : Nat) : 0 < (stsY P x y).length := stsTo_pos _ _ _
theorem stsTo_row {P : List Int} {x : Nat} : ∀ k, ∀ s ∈ stsTo P x k, s.length ≤ k + 1
  | 0, s, h => by
    rw [stsTo, List.mem_singleton] at h
    subst h
    exact Nat.le_refl _
  | k + 1, s, h => by
    rw [stsTo] at h
    split at h
    · have := stsTo_row k s h; omega
    · rcases List.mem_append.1 h with h | h
      · have := stsTo_row k s h; omega
      · obtain ⟨t, ht, _, rfl⟩ := mem_stsIn.1 h
        have := stsTo_row k t ht
        rw [List.length_append]
        simp
        omega
theorem stsY_row {P : List Int} {x y k : Nat} (h9 : P.length ≤ 9) (hy : y ≤ P.length) (hk : k < (stsY P x y).length) : (lAt (stsY P x y) k).length ≤ 9 := by
  have := stsTo_row (y - (x + 1)) _ (lAt_mem hk)
  unfold stsY at *
  omega
theorem sts_row {P : List Int} {x k : Nat} (h9 : P.length ≤ 9) (hk : k < (sts P x).length) : (lAt (sts P x) k).length ≤ 9 := by
  rw [sts] at hk ⊢
  split
  · next h => rw [if_pos h] at hk; exact absurd hk (by simp)
  · next h =>
    rw [if_neg h] at hk
    have := stsTo_row _ _ (lAt_mem hk)
    omega
/-- While the sets of y are being added. -/
def stsI (P : List Int) (x y m : Nat) : List (List Int) := stsY P x y ++ stsIn (stsY P x y) (nth P y) (y : Int) m
theorem stsI_zero (P : List Int) (x y : Nat) : stsI P x y 0 = stsY P x y := by rw [stsI, stsIn_zero, List.append_nil]
theorem stsI_all {P : List Int} {x y : Nat} (h : x + 1 ≤ y) (he : endB P y = false) : stsI P x y (stsY P x y).length = stsY P x (y + 1) := (stsY_in h he).symm
theorem stsI_yes {P : List Int} {x y m : Nat} (hm : m < (stsY P x y).length) (h : hasI (lAt (stsY P x y) m) (nth P y) = true) : stsI P x y (m + 1) = stsI P x y m ++ [lAt (stsY P x y) m ++ [(y : Int)]] := by
  rw [stsI, stsIn_yes hm h, stsI, List.append_assoc]
  rfl
theorem stsI_no {P : List Int} {x y m : Nat} (hm : m < (stsY P x y).length) (h : hasI (lAt (stsY P x y) m) (nth P y) = false) : stsI P x y (m + 1) = stsI P x y m := by
  rw [stsI, stsIn_no hm h, stsI]
theorem stsI_len {P : List Int} {x y m : Nat} (h9 : P.length ≤ 9) (hy : y ≤ P.length) (hm : m ≤ (stsY P x y).length) : (stsI P x y m).length ≤ 512 := by
  have := stsY_len (x := x) h9 hy
  have := stsIn_len (stsY P x y) (nth P y) (y : Int) m
  rw [stsI, List.length_append]
  omega
theorem RowsAt.nil (w : World) (B : Nat) (A : Option Addr) : RowsAt w B A [] := fun k hk => by simp at hk
theorem sts_end {P : List Int} {x : Nat} (he : endB P x = true) : sts P x = [] := by rw [sts, he]; rfl

set_option maxRecDepth 20000 in
set_option maxHeartbeats 1000000 in
theorem sets_c (A1 : Option Addr) (P : List Int) (c1 : Nat) (A2 : Option Addr) (W : List Int) (c2 : Nat) (A3 : Option Addr) (F : List Int) (c3 : Nat) (x : Nat) (w : World) (h : RdM w A1 P A2 W A3 F) (hp : ParOk P) (hf : F.length = P.length) (h9 : P.length ≤ 9) (hx : x < P.length) :
    Calls Try.prog 49 #[mkV A1 P.length c1 A2 W.length c2 A3 F.length c3, .int .i64 (x : Int)] w fun e w' => ∃ A c, e = .returned (.slice A (sts P x).length c) ∧ RowsAt w' w.heap.size A (sts P x) ∧ Below w.heap.size w w' := by
  have HF := Lib.hid hf
  clear hf
  have HB1 : Below w.heap.size w (w.alloc (.cells #[.slice A1 P.length c1, .slice A2 W.length c2, .slice A3 F.length c3] 28)) := (Below.refl _ _).alloc (Nat.le_refl _) _
  have bx := Bx3.new w (.slice A1 P.length c1) (.slice A2 W.length c2) (.slice A3 F.length c3) 28
  go_enter Try.func49, Try.ntmps49
  go_wp2_with fail
  refine (isEnd_c A1 P c1 A2 W.length c2 _ (h.r1.below HB1 (Nat.le_refl _)) hp (by omega) (by omega)).mono ?_
  rintro e w2 ⟨g, cg, rfl, og, hb2⟩
  have HB2 := bUp HB1 hb2 HB1.size
  have bx2 := bx.below hb2
  have og2 := og
  have hce := og.cell (k := x) (by rw [endsB_length]; exact hx)
  rw [endsB_nth hx] at hce
  have hr1 := h.r1.below HB2 (Nat.le_refl _)
  clear HB1 bx hb2 og
  cases he : endB P x
  · rw [he] at hce
    have HE := Lib.hid he
    clear he
    have oh0 : OwnH ((w2.alloc (.cells #[.int .i64 (x : Int)] 3)).alloc (.cells #[.slice (some ⟨w2.heap.size, 0, none⟩) 1 1] 24)) (w2.heap.size + 1) (some ⟨w2.heap.size + 1, 0, none⟩) 1 [.slice (some ⟨w2.heap.size, 0, none⟩) 1 1] := by
      have := OwnH.lit (w2.alloc (.cells #[.int .i64 (x : Int)] 3)) [.slice (some ⟨w2.heap.size, 0, none⟩) 1 1] (by simp)
      simpa using this
    have hh0 : Heads ((w2.alloc (.cells #[.int .i64 (x : Int)] 3)).alloc (.cells #[.slice (some ⟨w2.heap.size, 0, none⟩) 1 1] 24)) w2.heap.size (some (w2.heap.size + 1)) [.slice (some ⟨w2.heap.size, 0, none⟩) 1 1] [[(x : Int)]] := by
      have := (Heads.nil ((w2.alloc (.cells #[.int .i64 (x : Int)] 3)).alloc (.cells #[.slice (some ⟨w2.heap.size, 0, none⟩) 1 1] 24)) w2.heap.size (some (w2.heap.size + 1))).snoc (a := ⟨w2.heap.size, 0, none⟩) (c := 1) (s := [(x : Int)]) ((Rd.box w2 (x : Int) 3).alloc _) (by simp; omega) (by simp) (Nat.le_refl _)
      simpa using this
    have hbb0 : Below w2.heap.size w2 ((w2.alloc (.cells #[.int .i64 (x : Int)] 3)).alloc (.cells #[.slice (some ⟨w2.heap.size, 0, none⟩) 1 1] 24)) := ((Below.refl _ _).alloc (Nat.le_refl _) _).alloc (by simp) _
    have OH := Lib.hid oh0
    have HH := Lib.hid hh0
    have HBB := Lib.hid hbb0
    clear oh0 hh0 hbb0
    obtain ⟨b0, b1, b2, bz⟩ := id bx2
    go_wp2
    clear b0 b1 b2 bz
    go_loopw [6, 7] (fun t i wr => ∃ (y : Nat) (A : Option Addr) (c : Nat) (H : List Value), x + 1 ≤ y ∧ y ≤ P.length ∧ i = .int .i64 (y : Int) ∧ t = .slice A (stsY P x y).length c ∧ OwnH wr (w2.heap.size + 1) A c H ∧ Heads wr w2.heap.size (blk A) H (stsY P x y) ∧ Below w2.heap.size w2 wr) (fun _ i _ => P.length - (intOf i).toNat)
    case atStart => exact ⟨x + 1, _, _, _, Nat.le_refl _, by omega, by go_num, by rw [stsY_start]; rfl, OH.out, by rw [stsY_start]; exact HH.out, HBB.out⟩
    case round =>
      obtain ⟨y, A, c, H, hy1, hy2, rfl, rfl, oh, hh, hB⟩ := hrel
      clear OH HH HBB
      obtain ⟨wo, rfl⟩ : ∃ wo : World, wo = wr := ⟨_, rfl⟩
      obtain ⟨b0, b1, b2, bz⟩ := bx2.below hB
      have hR1 := hr1.below hB (Nat.le_refl _)
      have ob := og2.below hB
      by_cases hlt : y < P.length
      · have hltF : y < F.length := by have := HF.out; omega
        have hcy := ob.cell (k := y) (by rw [endsB_length]; exact hlt)
        rw [endsB_nth hlt] at hcy
        obtain ⟨ap, rfl, hpc⟩ := hR1.intN hlt
        cases hey : endB P y
        · have HS := Lib.hid (stsI_all hy1 hey)
          rw [hey] at hcy
          clear hey
          obtain ⟨g1, rfl, hg1a, hg1b⟩ := oh.form (by rw [hh.len]; exact stsY_pos _ _ _)
          have hY := stsY_len (x := x) h9 hy2
          go_wp2_with fail
          refine (slCloneSS_c g1 c _ H _ _ _ _ oh hh (stsY_pos _ _ _) (by omega)).mono ?_
          rintro e w3 ⟨g2, c2, rfl, oh2, hb3⟩
          have oh3 := oh.below hb3
          have hh3 := hh.below hb3
          have hB3 := bUp hB hb3 hB.size
          have hsz : w2.heap.size + 1 ≤ wo.heap.size := by omega
          have ne12 : g1 ≠ g2 := by have := (oh2.ltk g2 rfl).1; omega
          have hZ0 := stsI_zero P x y
          obtain ⟨L, hL⟩ : ∃ L, L = stsI P x y 0 := ⟨_, rfl⟩
          have hhZ : Heads w3 w2.heap.size (some g1) H L := by rw [hL, hZ0]; exact hh3
          have hZl : (stsY P x y).length = L.length := by rw [hL, hZ0]
          have HL := Lib.hid hL
          clear b0 b1 b2 bz hcy oh hh hB hb3 hpc ob hZ0 hL
          go_wp2
          go_loopw [6, 36] (fun t i wr => ∃ (m : Nat) (A : Option Addr) (c : Nat) (H' : List Value), m ≤ (stsY P x y).length ∧ i = .int .i64 (m : Int) ∧ t = .slice A (stsI P x y m).length c ∧ OwnH wr (w2.heap.size + 1) A c H' ∧ Heads wr w2.heap.size (blk A) H' (stsI P x y m) ∧ OwnH wr (w2.heap.size + 1) (some ⟨g2, 0, none⟩) c2 H ∧ Heads wr w2.heap.size (blk A) H (stsY P x y) ∧ blk A ≠ some g2 ∧ Below w2.heap.size w2 wr) (fun _ i _ => (stsY P x y).length - (intOf i).toNat)
          case atStart => exact ⟨0, _, _, H, Nat.zero_le _, rfl, by rw [← HL.out], oh3, by rw [← HL.out]; exact hhZ, oh2.mono hsz, hh3, by simp [blk, ne12], hB3⟩
          case round =>
            obtain ⟨m, A, c', H', hm, rfl, rfl, oh', hh', oc, hc, hne, hB'⟩ := hrel
            obtain ⟨wi, rfl⟩ : ∃ wi : World, wi = wr := ⟨_, rfl⟩
            clear hhZ HL oh3 hh3 oh2 hB3
            by_cases hlt2 : m < (stsY P x y).length
            · obtain ⟨a, ca, hHa, hRa, hla, hna, _⟩ := hc.at_ m hlt2
              have hcl := oc.cell hHa
              have hrow := stsY_row (x := x) h9 hy2 hlt2
              obtain ⟨b0, b1, b2, bz⟩ := bx2.below hB'
              obtain ⟨ap2, hap, hpc⟩ := (hr1.below hB' (Nat.le_refl _)).intN hlt
              injection hap with hap
              subst hap
              obtain ⟨gA, rfl, hgA1, hgA2⟩ := oh'.form (by rw [hh'.len, stsI, List.length_append]; have := stsY_pos P x y; omega)
              have hI := stsI_len (x := x) h9 hy2 hm
              have hlH := hh'.len
              clear hHa
              cases hq : hasI (lAt (stsY P x y) m) (nth P y)
              · have HN := Lib.hid (stsI_no hlt2 hq)
                have HLH := Lib.hid hlH
                clear hlH
                go_wp2_with fail
                refine (slContainsI_is _ _ _ _ _ false hq _ hRa rfl (by omega)).mono ?_
                rintro e w5 ⟨rfl, rfl⟩
                clear hq
                go_wp2
                go_roundw
                case rel => exact ⟨m + 1, _, c', H', by omega, by go_num, by rw [HN.out], oh', by rw [HN.out]; exact hh', oc, hc, hne, hB'⟩
                case measure => simp [intOf] <;> omega
              · have HN := Lib.hid (stsI_yes hlt2 hq)
                have HLH := Lib.hid hlH
                clear hlH
                go_wp2_with fail
                refine (slContainsI_is _ _ _ _ _ true hq _ hRa rfl (by omega)).mono ?_
                rintro e w5 ⟨rfl, rfl⟩
                clear hq
                go_wp2_with fail
                refine (slCloneI_c a _ ca _ hRa (by omega)).mono ?_
                rintro e w5 ⟨A5, c5, rfl, o5, b5⟩
                clear b0 b1 b2 bz hpc hcl
                have hgz : gA < w5.heap.size := Nat.lt_of_lt_of_le hgA2 b5.size
                have hN6 : H'.length ≤ 512 := by have := HLH.out; omega
                have HN6 : Hid ((stsI P x y m).length = H'.length) := Lib.hid HLH.out.symm
                go_wp2_with (first | (at_builtin; refine wp_append1 _ _ _ rfl _ _ rfl wi.heap.size A5 _ c5 (lAt (stsY P x y) m) rfl rfl o5 rfl (by omega) b5.size ?_; intro A6 c6 w6 o6 hg6 hb6; have b6 := b5.grown hg6 b5.size o5.ge; clear hg6 hb6; obtain ⟨g6, rfl, h6a, h6b⟩ := o6.form (by simp); have oh6 := oh'.below b6; have hB6 := bUp hB' b6 hB'.size; have hB6z := hB6.size) | (at_builtin; refine wp_append_head _ ⟨g6, 0, none⟩ _ c6 _ rfl _ _ rfl (w2.heap.size + 1) _ _ c' H' rfl HN6.out oh6 rfl (by omega) (by omega) ?_; intro g7 c7 w7 o7 hg7 hb7))
                have hD : some g7 = some gA ∨ ∃ q, some g7 = some q ∧ w6.heap.size ≤ q := by
                  rcases hb7 with h | h
                  · exact .inl h
                  · exact .inr ⟨g7, rfl, h⟩
                have hne7 : some g7 ≠ some g2 := by
                  have h2 := (oc.ltk g2 rfl).2
                  have h3 := b6.size
                  rcases hD with h | ⟨q, h, h'⟩
                  · rw [h]; exact hne
                  · injection h with h; subst h; simp; omega
                have hh6 := (hh'.below b6).snoc (a := ⟨g6, 0, none⟩) (c := c6) o6.rd h6b (by simp only [blk, Option.map_some, ne_eq, Option.some.injEq]; omega) (by have := hB'.size; show w2.heap.size ≤ g6; omega)
                rw [List.length_append, List.length_singleton] at hh6
                have hh7 := hh6.grow hg7 hD
                have hc7 := (hc.below b6).grow hg7 hD
                have oc7 := (oc.below b6).grown hg7 (.inr (fun h => hne h.symm))
                have hB7 := hB6.grown hg7 hB6z (fun k hk => by have := oh6.ge k hk; omega)
                go_roundw
                case rel => exact ⟨m + 1, some ⟨g7, 0, none⟩, c7, _, by omega, by go_num, by rw [HN.out, List.length_append] <;> rfl, o7, by rw [HN.out]; exact hh7, oc7, hc7, hne7, hB7⟩
                case measure => simp [intOf] <;> omega
            · obtain rfl : m = (stsY P x y).length := by omega
              obtain ⟨b0, b1, b2, bz⟩ := bx2.below hB'
              go_wp2
              go_roundw
              case rel => exact ⟨y + 1, A, c', H', by omega, by omega, by go_num, by rw [HS.out], oh', by rw [← HS.out]; exact hh', hB'⟩
              case measure => simp [intOf] <;> omega
        · have HS := Lib.hid (stsY_end hy1 hey)
          rw [hey] at hcy
          clear hey
          go_wp2
          go_roundw
          case rel => exact ⟨y + 1, A, c, H, by omega, by omega, by go_num, by rw [HS.out], oh, by rw [HS.out]; exact hh, hB⟩
          case measure => simp [intOf] <;> omega
      · obtain rfl : y = P.length := by omega
        have HS := Lib.hid (stsY_all HE.out)
        have hltF : ¬ P.length < F.length := by have := HF.out; omega
        go_wp2
        go_ret
        exact ⟨A, c, by rw [HS.out] <;> rfl, by rw [← HS.out]; exact (rowsAt_of oh hh (by omega)).mono HB2.size, HB2.trans (hB.mono HB2.size)⟩
  · rw [he] at hce
    have HE := Lib.hid (sts_end he)
    clear he
    obtain ⟨b0, b1, b2, bz⟩ := bx2
    go_wp2
    go_ret
    exact ⟨none, 0, by rw [HE.out]; rfl, by rw [HE.out]; exact RowsAt.nil _ _ _, HB2⟩

end Go.Proofs.Ytfobjkdkjlbkfaa
