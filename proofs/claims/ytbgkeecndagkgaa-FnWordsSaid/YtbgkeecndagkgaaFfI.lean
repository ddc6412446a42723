/- FirstFound: the program's walk, and the law's contract. -/
import Derived.Test.YtbgkeecndagkgaaFf
namespace Go.Proofs.Ytbgkeecndagkgaa
open Go.RowKit

theorem take_set_lt (l : List Int) (k L : Nat) (x : Int) : (l.set k x).take L = (l.take L).set k x := by rw [List.take_set]
theorem take_set_ge (l : List Int) (k L : Nat) (x : Int) (h : L ≤ k) : (l.set k x).take L = l.take L := by
  rw [List.take_set, List.set_eq_of_length_le (by simp; omega)]
theorem nth_take (l : List Int) (k L : Nat) (h : k < L) (hl : L ≤ l.length) : nth (l.take L) k = nth l k := by
  rw [nth_eq (by simp; omega), nth_eq (by omega), List.getElem_take]
theorem nth_set_self (l : List Int) (k : Nat) (x : Int) (h : k < l.length) : nth (l.set k x) k = x := by rw [nth_eq (by simpa using h), List.getElem_set_self]
theorem nth_set_ne' (l : List Int) (i j : Nat) (x : Int) (h : i ≠ j) : nth (l.set i x) j = nth l j := by simp [nth, h]

set_option maxHeartbeats 2000000 in
theorem implFf_yes (f n : Nat) (A : Option Addr) (xs : List Int) (c : Nat) (w : World) (ha : Rd w A (ints xs)) (hc : xs.length ≤ c) (h1 : wrdB (f : Int) xs = true) (h2 : inB (n : Int) 0 8 = true) :
    Calls Try.prog 6 #[.int .i64 f, .slice A xs.length c, .int .i64 n] w (Gives w (ffO xs f n) true) := by
  obtain ⟨b1, b2, b3, b4, -⟩ := wrd_yes h1
  have b5 := inB_iff.1 h2
  go_enter Try.func6, Try.ntmps6
  go_wp2_with (first
    | (go_at_call 25; refine (isWord_is _ _ _ _ _ (by assumption) _ (by assumption) (by omega)).mono ?_; rintro e w' ⟨rfl, rfl⟩)
    | (go_at_call 26; refine (within_is _ _ _ _ (by assumption) _).mono ?_; rintro e w' ⟨rfl, rfl⟩)
    | (at_make; refine wp_make_ints _ rfl _ _ rfl _ _ _ _ xs.length rfl rfl (by omega) (by omega) (by omega) ?_; intro w1 ho0 hb1; have hz2 := (ho0.lt _ rfl).2; have ho1 := ho0.alloc (.cells #[.int .i64 0] 3); obtain ⟨u1, hc1⟩ := ho1.some_ (k := 0) (by simp; omega); have hf1 := ho1.frozen 0))
  have hz2 : w.heap.size < w1.heap.size := hz2
  have hs1 := ho0.set 0 1
  have hsz : (w1.setCell ⟨w.heap.size, 0, none⟩ (.int .i64 1)).heap.size = w1.heap.size := by simp
  have hob := Own.lit (w1.setCell ⟨w.heap.size, 0, none⟩ (.int .i64 1)) [0] (by simp)
  rw [hsz] at hob
  have hob := hob.mono hb1.size
  have hB1 := (hb1.grown hs1.2 hb1.size (by simp)).alloc (by rw [hsz]; exact hb1.size) (.cells #[.int .i64 0] 3)
  have e0 : (ffT xs f 0).take xs.length = (List.replicate xs.length 0).set 0 1 := by
    show ((List.replicate (xs.length + 1) 0).set 0 1).take xs.length = _
    rw [take_set_lt, List.take_replicate, Nat.min_eq_left (by omega)]
  have hnow := hs1.1.alloc (.cells #[.int .i64 0] 3)
  rw [← e0] at hnow
  clear e0 hs1 hc1 hf1 hb1 ho1 ho0 hz2 hsz h1 h2
  go_loopw [8, 9, 34] (fun s t i wr => ∃ m : Nat, ∃ A2 c2 A3 c3, m ≤ n ∧ i = .int .i64 (m : Int) ∧ t = .slice A2 (m + 1) c2 ∧ s = .slice A3 xs.length c3 ∧ Own wr w.heap.size A2 c2 (ffO xs f m) ∧ Own wr w.heap.size A3 c3 ((ffT xs f m).take xs.length) ∧ Below w.heap.size w wr) (fun _ _ i _ => n - (intOf i).toNat)
  case atStart => exact ⟨0, _, _, _, _, by omega, rfl, rfl, rfl, hob, hnow, hB1⟩
  case round =>
    obtain ⟨wo, rfl⟩ : ∃ wo : World, wo = wr := ⟨_, rfl⟩
    obtain ⟨m, A2, c2, A3, c3, hm, rfl, rfl, rfl, ho, ht, hB⟩ := hrel
    clear hob hnow hB1
    have hlt0 : ((ffT xs f m).take xs.length).length = xs.length := by rw [List.length_take, ffT_length]; omega
    obtain ⟨gt, rfl, hgt1, hgt2⟩ := ht.form (by omega)
    have HLT := Lib.hid hlt0
    clear hlt0
    by_cases hlt : m < n
    · go_wp2_with (at_make; refine wp_make_ints _ rfl _ _ rfl _ _ _ _ xs.length rfl rfl (by omega) (by omega) (by omega) ?_; intro w2 ho2 hb2)
      have ho2 : Own w2 wo.heap.size (some ⟨wo.heap.size, 0, none⟩) xs.length ((ffB xs (ffT xs f m) f 0).take xs.length) := by
        show Own w2 wo.heap.size _ _ ((List.replicate (xs.length + 1) 0).take xs.length)
        rw [List.take_replicate, Nat.min_eq_left (by omega)]
        exact ho2
      go_loopw [11, 41] (fun q i wr => ∃ h : Nat, h ≤ xs.length ∧ i = .int .i64 h ∧ q = .int .i64 (nth (ffB xs (ffT xs f m) f h) xs.length) ∧ Own wr wo.heap.size (some ⟨wo.heap.size, 0, none⟩) xs.length ((ffB xs (ffT xs f m) f h).take xs.length) ∧ Below wo.heap.size wo wr) (fun _ i _ => xs.length - (intOf i).toNat)
      case atStart => exact ⟨0, by omega, rfl, by simp [ffB, nth], ho2, hb2⟩
      case round =>
        obtain ⟨wi, rfl⟩ : ∃ wi : World, wi = wr := ⟨_, rfl⟩
        obtain ⟨h, hh, rfl, rfl, hoi, hbi⟩ := hrel
        clear ho2 hb2
        by_cases hh1 : h < xs.length
        · have hct := (ht.below hbi).cellN (k := h) (by have := HLT.out; omega)
          rw [nth_take _ _ _ hh1 (by rw [ffT_length]; omega)] at hct
          go_wp2
          go_loopw [11, 47] (fun q i wr => ∃ g : Nat, g ≤ f ∧ i = .int .i64 g ∧ q = .int .i64 (nth (ffA xs (ffT xs f m) h (ffB xs (ffT xs f m) f h) g) xs.length) ∧ Own wr wo.heap.size (some ⟨wo.heap.size, 0, none⟩) xs.length ((ffA xs (ffT xs f m) h (ffB xs (ffT xs f m) f h) g).take xs.length) ∧ Below wo.heap.size wo wr) (fun _ i _ => f - (intOf i).toNat)
          case atStart => exact ⟨0, by omega, rfl, rfl, hoi, hbi⟩
          case round =>
            obtain ⟨g, hg, rfl, rfl, hok, hbk⟩ := hrel
            clear hoi hbi hct
            by_cases hg1 : g < f
            · have hB3 := bUp hB hbk hB.size
              have hn : (xs.take h).length = h := by simp; omega
              have hn2 : (xs.take h ++ [(g : Int)]).length = h + 1 := by simp; omega
              have HN := Lib.hid hn
              have HN2 := Lib.hid hn2
              clear hn hn2
              have e8 : (h : Int) ≤ (c : Int) := by omega
              have C := copied_c A (xs.take h) c wr ((ha.below hB3 (Nat.le_refl _)).takeI) (by have := HN.out; omega)
              rw [HN.out] at C
              have C := Lib.hid C
              go_wp2_with fail
              refine C.out.mono ?_
              rintro e w3 ⟨A5, c5, rfl, ho5, hb5⟩
              rw [HN.out]
              have hok3 := hok.below hb5
              have hbk3 := bUp hbk hb5 hbk.size
              go_wp2_with (at_builtin; refine wp_append1 _ _ _ rfl _ _ rfl wr.heap.size A5 h c5 (xs.take h) rfl (by rw [HN.out]) ho5 rfl (by have := HN.out; omega) hb5.size ?_; intro A6 c6 w6 ho6 hg6 hb6)
              have hok6 := hok3.grown hg6 (hok.apart ho5 (Nat.le_refl _))
              have hbk6 := hbk3.grown hg6 hbk3.size (fun k hk => Nat.le_trans hbk.size (ho5.ge k hk))
              have hcap : (xs.take h ++ [(g : Int)]).length ≤ c6 := ho6.cap_le
              have hB6 := bUp hB hbk6 hB.size
              clear hg6 hb6 ho5 hb5 hok3 hbk3 hok hbk
              have C := overlaps_c A6 A (xs.take h ++ [(g : Int)]) xs c6 c w6 ho6.rd (ha.below hB6 (Nat.le_refl _)) (by have := HN2.out; omega) (by omega) hcap hc
              have ev : ovl (xs.take h ++ [(g : Int)]) xs = ovK (xs.take h ++ [(g : Int)]) xs (h + 1) := by
                unfold ovl
                rw [HN2.out, Nat.min_eq_left (by omega)]
              have HLD := Lib.hid (lastD_ov (xs.take h ++ [(g : Int)]) xs (h + 1))
              rw [HN2.out, ev] at C
              clear ev hcap
              have C := Lib.hid C
              go_wp2_with fail
              refine C.out.mono ?_
              rintro e w7 ⟨A7, c7, rfl, ho7, hb7⟩
              have hok7 := hok6.below hb7
              have hbk7 := bUp hbk6 hb7 hbk6.size
              have hl : (ffA xs (ffT xs f m) h (ffB xs (ffT xs f m) f h) g).length = xs.length + 1 := by rw [ffA_length, ffB_length]
              have hlk : ((ffA xs (ffT xs f m) h (ffB xs (ffT xs f m) f h) g).take xs.length).length = xs.length := by rw [List.length_take, hl]; omega
              have q := ff_small (wd := xs) (f := f) (by omega) b4 (show m ≤ 8 by omega) hh1 hg
              have hx := nxt_le xs h g
              have hnx : nxt xs h g = nxtD (endsB (xs.take h ++ [(g : Int)]) xs) (h + 1) := rfl
              rw [← hnx] at HLD
              by_cases hnl : nxt xs h g = xs.length
              · have q := q xs.length
                have hst : (ffA xs (ffT xs f m) h (ffB xs (ffT xs f m) f h) (g + 1)).take xs.length = (ffA xs (ffT xs f m) h (ffB xs (ffT xs f m) f h) g).take xs.length := by
                  rw [ffA_succ, hnl, take_set_ge _ _ _ _ (Nat.le_refl _)]
                have hsv : nth (ffA xs (ffT xs f m) h (ffB xs (ffT xs f m) f h) (g + 1)) xs.length = nth (ffA xs (ffT xs f m) h (ffB xs (ffT xs f m) f h) g) xs.length + nth (ffT xs f m) h := by
                  rw [ffA_succ, hnl, nth_set_self _ _ _ (by omega)]
                rw [← hst] at hok7
                have e1 : IntKind.i64.wrap (nth (ffA xs (ffT xs f m) h (ffB xs (ffT xs f m) f h) g) xs.length + nth (ffT xs f m) h) = nth (ffA xs (ffT xs f m) h (ffB xs (ffT xs f m) f h) g) xs.length + nth (ffT xs f m) h := IntWalk.i64_in _ (by omega)
                by_cases hp : 0 < (ovK (xs.take h ++ [(g : Int)]) xs (h + 1)).length
                · have hl7 := (ovK_length (xs.take h ++ [(g : Int)]) xs (h + 1))
                  obtain ⟨g7, rfl, -, -⟩ := ho7.form hp
                  have hc7 := ho7.cellN (k := (ovK (xs.take h ++ [(g : Int)]) xs (h + 1)).length - 1) (by omega)
                  have hld := HLD.out
                  rw [lastD, if_pos hp] at hld
                  rw [hld, hnl] at hc7
                  go_wp2
                  go_roundw
                  case rel => exact ⟨g + 1, by omega, by go_num, by rw [hsv], hok7, hbk7⟩
                  case measure => simp [intOf] <;> omega
                · have hld := HLD.out
                  rw [lastD, if_neg hp, hnl] at hld
                  omega
              · have q := q (nxt xs h g)
                have hs2 := ffA_succ xs (ffT xs f m) h (ffB xs (ffT xs f m) f h) g
                obtain ⟨K, hK⟩ : ∃ K, nxt xs h g = K := ⟨_, rfl⟩
                rw [hK] at q hs2 HLD hnl
                have hKl : K < xs.length := by omega
                have hsv : nth (ffA xs (ffT xs f m) h (ffB xs (ffT xs f m) f h) (g + 1)) xs.length = nth (ffA xs (ffT xs f m) h (ffB xs (ffT xs f m) f h) g) xs.length := by
                  rw [hs2, nth_set_ne' _ _ _ _ hnl]
                have hcn := hok7.cellN (k := K) (by omega)
                rw [nth_take _ _ _ hKl (by omega)] at hcn
                have hfn := hok7.frozen K
                have hst := hok7.set K (nth (ffA xs (ffT xs f m) h (ffB xs (ffT xs f m) f h) g) K + nth (ffT xs f m) h)
                rw [← take_set_lt, ← hs2] at hst
                have HB4 := hbk7.grown hst.2 hbk7.size (by simp)
                have hst := hst.1
                have e1 : IntKind.i64.wrap (nth (ffA xs (ffT xs f m) h (ffB xs (ffT xs f m) f h) g) K + nth (ffT xs f m) h) = nth (ffA xs (ffT xs f m) h (ffB xs (ffT xs f m) f h) g) K + nth (ffT xs f m) h := IntWalk.i64_in _ (by omega)
                clear hs2 hnx hK
                by_cases hp : 0 < (ovK (xs.take h ++ [(g : Int)]) xs (h + 1)).length
                · have hl7 := (ovK_length (xs.take h ++ [(g : Int)]) xs (h + 1))
                  obtain ⟨g7, rfl, -, -⟩ := ho7.form hp
                  have hc7 := ho7.cellN (k := (ovK (xs.take h ++ [(g : Int)]) xs (h + 1)).length - 1) (by omega)
                  have hld := HLD.out
                  rw [lastD, if_pos hp] at hld
                  rw [hld] at hc7
                  go_wp2
                  go_roundw
                  case rel => exact ⟨g + 1, by omega, by go_num, by rw [hsv], hst, HB4⟩
                  case measure => simp [intOf] <;> omega
                · have hld := HLD.out
                  rw [lastD, if_neg hp] at hld
                  obtain rfl : K = 0 := by omega
                  have hp : (ovK (xs.take h ++ [(g : Int)]) xs (h + 1)).length = 0 := by omega
                  rw [hp]
                  clear hld HLD hnl q hp
                  go_wp2
                  go_roundw
                  case rel => exact ⟨g + 1, by omega, by go_num, by rw [hsv], hst, HB4⟩
                  case measure => simp [intOf] <;> omega
            · have hgf : g = f := by omega
              subst hgf
              go_wp2
              go_roundw
              case rel => exact ⟨h + 1, by omega, by go_num, rfl, hok, hbk⟩
              case measure => simp [intOf] <;> omega
        · have hhl : h = xs.length := by omega
          subst hhl
          have hoi : Own wi wo.heap.size (some ⟨wo.heap.size, 0, none⟩) xs.length ((ffT xs f (m + 1)).take xs.length) := hoi
          have hB3 := bUp hB hbi hB.size
          have ho3 := ho.below hbi
          have ap := ho.apartR hoi (Nat.le_refl _)
          have HO : ffO xs f m ++ [nth (ffT xs f (m + 1)) xs.length] = ffO xs f (m + 1) := rfl
          have HO := Lib.hid HO
          have HF : ffB xs (ffT xs f m) f xs.length = ffT xs f (m + 1) := rfl
          have HF := Lib.hid HF
          rw [HF.out]
          go_wp2_with (at_builtin; refine wp_append1 _ _ _ rfl _ _ rfl w.heap.size A2 (m + 1) c2 (ffO xs f m) rfl (by rw [ffO_length]) ho3 rfl (by rw [ffO_length]; omega) hB3.size ?_; rw [HO.out]; intro A4 c4 w4 ho4 hg4 hb4)
          have hn4 := (hoi.grown hg4 ap).mono hB.size
          have HB4 := hB3.grown hg4 hB3.size ho3.ge
          clear hg4 hb4 ap
          go_roundw
          case rel => exact ⟨m + 1, A4, c4, _, _, by omega, by go_num, rfl, rfl, ho4, hn4, HB4⟩
          case measure => simp [intOf] <;> omega
    · have hmn : m = n := by omega
      subst hmn
      go_wp2
      go_ret2
      exact ⟨A2, c2, by rw [ffO_length]; rfl, ho, hB⟩

theorem implFf_c (f : Int) (A : Option Addr) (xs : List Int) (c : Nat) (n : Int) (w : World) (ha : Rd w A (ints xs)) (hl : xs.length ≤ 8388608) (hc : xs.length ≤ c) :
    Calls Try.prog 6 #[.int .i64 f, .slice A xs.length c, .int .i64 n] w (Gives w (ffV f xs n) (ffOk f xs n)) := by
  cases h1 : wrdB f xs
  · rw [(ff_1 h1).1, (ff_1 h1).2]
    go_enter Try.func6, Try.ntmps6
    go_wp2_with (go_at_call 25; refine (isWord_is _ _ _ _ _ (by assumption) _ (by assumption) (by omega)).mono ?_; rintro e w' ⟨rfl, rfl⟩)
    go_ret2
    exact ⟨none, 0, rfl, Own.nil _ _, Below.refl _ _⟩
  · cases h2 : inB n 0 8
    · rw [(ff_2 h2).1, (ff_2 h2).2]
      go_enter Try.func6, Try.ntmps6
      go_wp2_with (first
        | (go_at_call 25; refine (isWord_is _ _ _ _ _ (by assumption) _ (by assumption) (by omega)).mono ?_; rintro e w' ⟨rfl, rfl⟩)
        | (go_at_call 26; refine (within_is _ _ _ _ (by assumption) _).mono ?_; rintro e w' ⟨rfl, rfl⟩))
      go_ret2
      exact ⟨none, 0, rfl, Own.nil _ _, Below.refl _ _⟩
    · rw [(ff_3 h1 h2).1, (ff_3 h1 h2).2]
      have b1 := wrd_yes h1
      have b2 := inB_iff.1 h2
      obtain ⟨f, rfl⟩ := Int.eq_ofNat_of_zero_le (show 0 ≤ f by omega)
      obtain ⟨n, rfl⟩ := Int.eq_ofNat_of_zero_le (show 0 ≤ n by omega)
      exact implFf_yes f n A xs c w ha hc h1 h2
end Go.Proofs.Ytbgkeecndagkgaa
