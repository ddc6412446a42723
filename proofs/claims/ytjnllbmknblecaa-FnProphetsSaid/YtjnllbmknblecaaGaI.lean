/- The greatest means of a gambler: the program's walk. -/
import Derived.Test.YtjnllbmknblecaaGaL
import Derived.Test.YtjnllbmknblecaaBestA
import Derived.Test.YtjnllbmknblecaaRev
namespace Go.Proofs.Ytjnllbmknblecaa
open Go.RowKit

theorem implGt_no (A : Option Addr) (xss : List (List Int)) (c : Nat) (w : World) (ha : RdSS w A xss) (hs : SzSS xss) (h : lawsB xss = false) :
    Calls Try.prog 35 #[.slice A xss.length c] w (GivesP w [] false) := by
  go_enter Try.func35, Try.ntmps35
  go_wp2_with (go_at_call 74; refine (areLaws_is _ _ _ _ (by assumption) _ ha hs).mono ?_; rintro e w' ⟨rfl, rfl⟩)
  go_ret2
  exact ⟨_, _, rfl, OwnP.nil _ _, Below.refl _ _⟩
set_option maxRecDepth 20000 in
set_option maxHeartbeats 1000000 in
theorem implGt_yes (A : Option Addr) (xss : List (List Int)) (c : Nat) (w : World) (ha : RdSS w A xss) (hs : SzSS xss) (h1 : lawsB xss = true) :
    Calls Try.prog 35 #[.slice A xss.length c] w (GivesP w (gTab xss xss.length).reverse true) := by
  have HL := Lib.hid h1
  have hn := (lawsB_yes h1).1
  have O0 := OwnP.lit w [(0, 1)] (by decide)
  have HB0 : Below w.heap.size w (w.alloc (.cells #[.int .i64 0, .int .i64 1] 26)) := (Below.refl _ _).alloc (Nat.le_refl _) _
  go_enter Try.func35, Try.ntmps35
  go_wp2_with fail
  refine (areLaws_is _ _ _ _ h1 _ ha hs).mono ?_
  rintro e w' ⟨rfl, rfl⟩
  clear h1
  go_wp2
  go_loopw [4, 5, 6, 7] (fun o t b i wr => ∃ k g c2 : Nat, k ≤ xss.length ∧ i = .int .i64 ((k : Int) - 1) ∧ t = .int .i64 (gT xss (xss.length - k)) ∧ b = .int .i64 (thB xss (xss.length - k)) ∧
    o = .slice (some ⟨g, 0, none⟩) (xss.length - k + 1) c2 ∧ OwnP wr w.heap.size (some ⟨g, 0, none⟩) c2 (gTab xss (xss.length - k)) ∧ Below w.heap.size w wr) (fun _ _ _ i _ => (intOf i + 1).toNat)
  case atStart => exact ⟨xss.length, _, _, Nat.le_refl _, rfl, by rw [Nat.sub_self]; rfl, by rw [Nat.sub_self]; rfl, by rw [Nat.sub_self], by rw [Nat.sub_self, gTab_zero]; exact O0, HB0⟩
  case round =>
    obtain ⟨k, g, c2, hk, rfl, rfl, rfl, rfl, ho, hb⟩ := hrel
    clear O0 HB0
    have bB := thB_bd HL.out (xss.length - k) (by omega)
    have bT := gT_bd HL.out (xss.length - k) (by omega)
    rcases k with _ | m
    · have e0 : ((0 : Nat) : Int) - 1 = -1 := rfl
      rw [e0]
      rw [Nat.sub_zero] at ho bB bT ⊢
      clear e0
      have C := reverseP_c w.heap.size g c2 (gTab xss xss.length) wr ho (by rw [gTab_length]; omega) (by rw [gTab_length]; omega)
      rw [gTab_length] at C
      have C := Lib.hid C
      have hl := Lib.hid (gTab_length xss xss.length)
      go_wp2_with fail
      refine C.out.mono ?_
      rintro e w2 ⟨rfl, ho2, hg2⟩
      have HB := hb.grown hg2 hb.size (fun k hk => by cases hk; exact ((OwnP.ge ho g rfl)))
      clear C
      go_wp2
      go_ret2
      exact ⟨_, _, by rw [List.length_reverse, hl.out]; rfl, ho2, HB⟩
    · have e0 : ((m + 1 : Nat) : Int) - 1 = (m : Int) := by omega
      rw [e0]
      clear e0
      obtain ⟨a, A', c', rfl, hca, hra⟩ := (ha.below hb (Nat.le_refl _)) m (by omega)
      have hll := Lib.hid ((lawsB_yes HL.out).2 m (by omega))
      obtain ⟨l1, l2, l3, l4, l5⟩ := lawB_yes hll.out
      have HL3 := Lib.hid l3
      have HS1 := Lib.hid (gT_succ xss m (by omega))
      have HS2 := Lib.hid (thB_succ xss m (by omega))
      have HS3 := Lib.hid (gTab_succ xss (xss.length - (m + 1)))
      have BF := gF_bd HL.out (xss.length - m) (by omega)
      have LF := Lib.hid (lw_small (T := gT xss (xss.length - m)) (B := thB xss (xss.length - m)) (by omega) (by omega) (by omega) (by omega))
      have he : xss.length - (m + 1) + 1 = xss.length - m := by omega
      have HE := Lib.hid he
      clear l3 he
      generalize gT xss (xss.length - (m + 1)) = T at *
      generalize thB xss (xss.length - (m + 1)) = B at *
      obtain ⟨wo, rfl⟩ : ∃ wo : World, wo = wr := ⟨_, rfl⟩
      go_wp2
      go_loop [8, 30] (fun s i => ∃ u : Nat, u ≤ (rowAt xss m).length ∧ i = .int .i64 u ∧ s = .int .i64 (gS (rowAt xss m) T B u)) (fun _ i => (rowAt xss m).length - (intOf i).toNat)
      case atStart => exact ⟨0, by omega, rfl, rfl⟩
      case round =>
        obtain ⟨u, hu, rfl, rfl⟩ := hrel
        have bs := gS_bd hll.out (by omega) bT.1 bT.2 u hu
        by_cases hlu : u < (rowAt xss m).length
        · obtain ⟨b, rfl, hcb⟩ := hra.intN hlu
          have bt := gs_term hll.out (by omega) bT.1 bT.2 hlu
          have bx := mx_bd (B := B) (by omega) bT.1 bT.2 (v := u) (by omega)
          have bu : (u : Int) * (20 * B) ≤ 5 * (20 * B) := Int.mul_le_mul_of_nonneg_right (by omega) (by omega)
          have HU := Lib.hid (gS_succ (rowAt xss m) T B u)
          by_cases hc : T < (u : Int) * B
          · have HM := Lib.hid (mxI_l hc)
            rw [HM.out] at bt HU
            go_wp2
            all_goals
              go_round
              case rel => exact ⟨u + 1, by omega, by go_num, by rw [HU.out]⟩
              case measure => simp [intOf] <;> omega
          · have HM := Lib.hid (mxI_r hc)
            rw [HM.out] at bt HU
            by_cases hc2 : (u : Int) * B < T
            · go_wp2
              go_round
              case rel => exact ⟨u + 1, by omega, by go_num, by rw [HU.out]⟩
              case measure => simp [intOf] <;> omega
            · have e : (u : Int) * B = T := by omega
              have HU2 : Hid (gS (rowAt xss m) T B (u + 1) = gS (rowAt xss m) T B u + nth (rowAt xss m) u * ((u : Int) * B)) := Lib.hid (by rw [e]; exact HU.out)
              have bt2 : 0 ≤ nth (rowAt xss m) u * ((u : Int) * B) ∧ nth (rowAt xss m) u * ((u : Int) * B) ≤ 20 * B := by rw [e]; exact ⟨bt.1, bt.2.2⟩
              clear e HM hc HU bt
              go_wp2
              go_round
              case rel => exact ⟨u + 1, by omega, by go_num, by rw [HU2.out]⟩
              case measure => simp [intOf] <;> omega
        · have hul : u = (rowAt xss m).length := by omega
          subst hul
          have bm := mul_bd B (sm (rowAt xss m)) 390625 25 (by omega) (by omega) (by omega) (by omega)
          go_wp2_with (go_at_call 66; refine (total_c _ _ _ 5 _ hra (by decide) (allB_mono HL3.out (by decide) (by decide)) (by omega)).mono ?_; rintro e w' ⟨rfl, rfl⟩)
          clear bs
          rw [← HS1.out, ← HS2.out]
          have C := lowest_c (gT xss (xss.length - m)) (thB xss (xss.length - m)) (by omega) (by omega) (by omega) (by omega)
          rw [LF.out.1, LF.out.2.1, LF.out.2.2] at C
          have C := Lib.hid C
          refine (C.out _).mono ?_
          rintro e w2 ⟨rfl, hb2⟩
          clear C
          have HB2 := bUp hb hb2 hb.size
          have HB4 : Below w.heap.size w ((w2.alloc (.cells #[.int .i64 (cutT (gT xss (xss.length - m)) (thB xss (xss.length - m))), .int .i64 (cutB (gT xss (xss.length - m)) (thB xss (xss.length - m)))] 26)).alloc (.cells #[.int .i64 (cutT (gT xss (xss.length - m)) (thB xss (xss.length - m))), .int .i64 (cutB (gT xss (xss.length - m)) (thB xss (xss.length - m)))] 26)) := (HB2.alloc HB2.size _).alloc (by simp; have := HB2.size; omega) _
          have ho4 := ((ho.below hb2).alloc (.cells #[.int .i64 (cutT (gT xss (xss.length - m)) (thB xss (xss.length - m))), .int .i64 (cutB (gT xss (xss.length - m)) (thB xss (xss.length - m)))] 26)).alloc (.cells #[.int .i64 (cutT (gT xss (xss.length - m)) (thB xss (xss.length - m))), .int .i64 (cutB (gT xss (xss.length - m)) (thB xss (xss.length - m)))] 26)
          have hsrc := (OwnP.lit (w2.alloc (.cells #[.int .i64 (cutT (gT xss (xss.length - m)) (thB xss (xss.length - m))), .int .i64 (cutB (gT xss (xss.length - m)) (thB xss (xss.length - m)))] 26)) [gF xss (xss.length - m)] (by simp)).src
          rw [World.size_alloc] at hsrc
          go_wp2_with (at_builtin; refine wp_append_pairs _ rfl _ _ rfl w.heap.size (some ⟨g, 0, none⟩) _ c2 (gTab xss (xss.length - (m + 1))) rfl (by rw [gTab_length]) ho4 _ 1 1 [gF xss (xss.length - m)] rfl rfl hsrc (by rw [gTab_length]; (show _ + 1 ≤ 16777216); omega) HB4.size (by simp) ?_; intro g2 c3 w5 ho5 hg5 hx5)
          have HB5 := HB4.grown hg5 HB4.size (fun k hk => by cases hk; exact ho.ge g rfl)
          have hl5 : xss.length - (m + 1) + 1 + 1 = xss.length - m + 1 := by omega
          rw [← HE.out, ← HS3.out, HE.out] at ho5
          have HL5 := Lib.hid hl5
          clear hl5 hx5
          go_roundw
          case rel => exact ⟨m, g2, c3, by omega, rfl, rfl, rfl, by rw [HL5.out], ho5, HB5⟩
          case measure => simp [intOf] <;> omega
theorem implGt_c (A : Option Addr) (xss : List (List Int)) (c : Nat) (w : World) (ha : RdSS w A xss) (hs : SzSS xss) :
    Calls Try.prog 35 #[.slice A xss.length c] w (GivesP w (gtV xss) (lawsB xss)) := by
  cases h : lawsB xss with
  | false => rw [gtV_no h]; exact implGt_no A xss c w ha hs h
  | true => rw [gtV_yes h]; exact implGt_yes A xss c w ha hs h
end Go.Proofs.Ytjnllbmknblecaa
