/- FirstFound: the reference's walk. -/
import Derived.Test.YtbgkeecndagkgaaFf
namespace Go.Proofs.Ytbgkeecndagkgaa
open Go.RowKit

set_option maxHeartbeats 2000000 in
theorem specFf_yes (f n : Nat) (A : Option Addr) (xs : List Int) (c : Nat) (w : World) (ha : Rd w A (ints xs)) (hc : xs.length ≤ c) (h1 : wrdB (f : Int) xs = true) (h2 : inB (n : Int) 0 8 = true) :
    Calls Try.prog 7 #[.int .i64 f, .slice A xs.length c, .int .i64 n] w (Gives w (ffO xs f n) true) := by
  obtain ⟨b1, b2, b3, b4, -⟩ := wrd_yes h1
  have b5 := inB_iff.1 h2
  have HZ := Lib.hid (show (w.alloc (.cells #[.int .i64 0] 3)).heap.size = w.heap.size + 1 by simp)
  have hob : Own (w.alloc (.cells #[.int .i64 0] 3)) w.heap.size (some ⟨w.heap.size, 0, none⟩) 1 [0] := Own.lit w [0] (by simp)
  have hBW : Below w.heap.size w (w.alloc (.cells #[.int .i64 0] 3)) := (Below.refl _ _).alloc (Nat.le_refl _) _
  go_enter Try.func7, Try.ntmps7
  go_wp2_with (first
    | (go_at_call 29; refine (l9Word_is _ _ _ _ _ (by assumption) _ (by assumption) (by omega)).mono ?_; rintro e w' ⟨rfl, rfl⟩)
    | (go_at_call 30; refine (l1In_is _ _ _ _ (by assumption) _).mono ?_; rintro e w' ⟨rfl, rfl⟩)
    | (at_make; refine wp_make_ints _ rfl _ _ rfl _ _ _ _ (xs.length + 1) rfl rfl (by omega) (by omega) (by omega) ?_; intro w1 ho1 hb1; rw [HZ.out] at ho1; obtain ⟨u1, hc1⟩ := ho1.some_ (k := 0) (by simp); have hf1 := ho1.frozen 0))
  have hs1 := ho1.set 0 1
  have ap := hob.apart ho1 (by rw [HZ.out]; omega)
  have hob := (hob.below hb1).grown hs1.2 ap
  have hB1 := (bUp hBW hb1 hBW.size).grown hs1.2 (Nat.le_trans hBW.size hb1.size) (by intro k hk; simp at hk; omega)
  have hnow := hs1.1.mono (B' := w.heap.size) (by omega)
  clear hs1 hc1 hf1 hb1 ho1 ap hBW HZ
  go_loopw [8, 9, 10] (fun t s i wr => ∃ m : Nat, ∃ A2 c2 A3 c3, m ≤ n ∧ i = .int .i64 ((m : Int) + 1) ∧ t = .slice A2 (m + 1) c2 ∧ s = .slice A3 (xs.length + 1) c3 ∧ Own wr w.heap.size A2 c2 (ffO xs f m) ∧ Own wr w.heap.size A3 c3 (ffT xs f m) ∧ Below w.heap.size w wr) (fun _ _ i _ => n + 1 - (intOf i).toNat)
  case atStart => exact ⟨0, _, _, _, _, by omega, rfl, rfl, rfl, hob, hnow, hB1⟩
  case round =>
    obtain ⟨wo, rfl⟩ : ∃ wo : World, wo = wr := ⟨_, rfl⟩
    obtain ⟨m, A2, c2, A3, c3, hm, rfl, rfl, rfl, ho, ht, hB⟩ := hrel
    clear hob hnow hB1
    obtain ⟨gt, rfl, hgt1, hgt2⟩ := ht.form (by rw [ffT_length]; omega)
    by_cases hlt : m + 1 ≤ n
    · go_wp2_with (at_make; refine wp_make_ints _ rfl _ _ rfl _ _ _ _ (xs.length + 1) rfl rfl (by omega) (by omega) (by omega) ?_; intro w2 ho2 hb2)
      go_loopw [12] (fun i wr => ∃ h : Nat, h ≤ xs.length ∧ i = .int .i64 h ∧ Own wr wo.heap.size (some ⟨wo.heap.size, 0, none⟩) (xs.length + 1) (ffB xs (ffT xs f m) f h) ∧ Below wo.heap.size wo wr) (fun i _ => xs.length - (intOf i).toNat)
      case atStart => exact ⟨0, by omega, rfl, ho2, hb2⟩
      case round =>
        obtain ⟨wi, rfl⟩ : ∃ wi : World, wi = wr := ⟨_, rfl⟩
        obtain ⟨h, hh, rfl, hoi, hbi⟩ := hrel
        clear ho2 hb2
        by_cases hh1 : h < xs.length
        · go_wp2
          go_loopw [13] (fun i wr => ∃ g : Nat, g ≤ f ∧ i = .int .i64 g ∧ Own wr wo.heap.size (some ⟨wo.heap.size, 0, none⟩) (xs.length + 1) (ffA xs (ffT xs f m) h (ffB xs (ffT xs f m) f h) g) ∧ Below wo.heap.size wo wr) (fun i _ => f - (intOf i).toNat)
          case atStart => exact ⟨0, by omega, rfl, hoi, hbi⟩
          case round =>
            obtain ⟨g, hg, rfl, hok, hbk⟩ := hrel
            clear hoi hbi
            by_cases hg1 : g < f
            · have hB3 := bUp hB hbk hB.size
              go_wp2_with fail
              refine (l9Next_c A xs c h g _ (ha.below hB3 (Nat.le_refl _)) b4 hc hh1).mono ?_
              rintro e w3 ⟨rfl, hb3⟩
              have hok := hok.below hb3
              have hbk := bUp hbk hb3 hbk.size
              have q := ff_small (wd := xs) (f := f) (by omega) b4 (show m ≤ 8 by omega) hh1 hg (nxt xs h g)
              have hx := nxt_le xs h g
              have hl : (ffA xs (ffT xs f m) h (ffB xs (ffT xs f m) f h) g).length = xs.length + 1 := by rw [ffA_length, ffB_length]
              have hl2 := ffT_length xs f m
              have hct := (ht.below hbk).cellN (k := h) (by omega)
              have hcn := hok.cellN (k := nxt xs h g) (by omega)
              have hfn := hok.frozen (nxt xs h g)
              have hst := hok.set (nxt xs h g) (nth (ffA xs (ffT xs f m) h (ffB xs (ffT xs f m) f h) g) (nxt xs h g) + nth (ffT xs f m) h)
              rw [← ffA_succ] at hst
              have HB4 := hbk.grown hst.2 hbk.size (by simp)
              have hst := hst.1
              have e1 : IntKind.i64.wrap (nth (ffA xs (ffT xs f m) h (ffB xs (ffT xs f m) f h) g) (nxt xs h g) + nth (ffT xs f m) h) = nth (ffA xs (ffT xs f m) h (ffB xs (ffT xs f m) f h) g) (nxt xs h g) + nth (ffT xs f m) h := IntWalk.i64_in _ (by omega)
              have ex : (nxt xs h g : Int) < ((xs.length + 1 : Nat) : Int) := by omega
              have ex2 : (h : Int) < ((xs.length + 1 : Nat) : Int) := by omega
              clear hl hl2
              go_wp2
              go_region
              go_wp2
              go_roundw
              case rel => exact ⟨g + 1, by omega, by go_num, hst.drew, HB4.drew⟩
              case measure => simp [intOf] <;> omega
            · have hgf : g = f := by omega
              subst hgf
              go_wp2
              go_roundw
              case rel => exact ⟨h + 1, by omega, by go_num, hok, hbk⟩
              case measure => simp [intOf] <;> omega
        · have hhl : h = xs.length := by omega
          subst hhl
          have hoi : Own wi wo.heap.size (some ⟨wo.heap.size, 0, none⟩) (xs.length + 1) (ffT xs f (m + 1)) := hoi
          have hln := ffT_length xs f (m + 1)
          have hcl := hoi.cellN (k := xs.length) (by omega)
          have hB3 := bUp hB hbi hB.size
          have ho3 := ho.below hbi
          have ap := ho.apartR hoi (Nat.le_refl _)
          have HO : ffO xs f m ++ [nth (ffT xs f (m + 1)) xs.length] = ffO xs f (m + 1) := rfl
          have HO := Lib.hid HO
          clear hln
          go_wp2_with (at_builtin; refine wp_append1 _ _ _ rfl _ _ rfl w.heap.size A2 (m + 1) c2 (ffO xs f m) rfl (by rw [ffO_length]) ho3 rfl (by rw [ffO_length]; omega) hB3.size ?_; rw [HO.out]; intro A4 c4 w4 ho4 hg4 hb4)
          have hn4 := (hoi.grown hg4 ap).mono hB.size
          have HB4 := hB3.grown hg4 hB3.size ho3.ge
          clear hg4 hb4 ap
          go_roundw
          case rel => exact ⟨m + 1, A4, c4, _, _, by omega, by go_num, rfl, rfl, ho4, hn4, HB4⟩
          case measure => simp [intOf] <;> omega
    · have hmn : m = n := by omega
      subst hmn
      go_wp2
      go_ret2
      exact ⟨A2, c2, by rw [ffO_length]; rfl, ho, hB⟩

theorem specFf_c (f : Int) (A : Option Addr) (xs : List Int) (c : Nat) (n : Int) (w : World) (ha : Rd w A (ints xs)) (hl : xs.length ≤ 8388608) (hc : xs.length ≤ c) :
    Calls Try.prog 7 #[.int .i64 f, .slice A xs.length c, .int .i64 n] w (Gives w (ffV f xs n) (ffOk f xs n)) := by
  cases h1 : wrdB f xs
  · rw [(ff_1 h1).1, (ff_1 h1).2]
    go_enter Try.func7, Try.ntmps7
    go_wp2_with (go_at_call 29; refine (l9Word_is _ _ _ _ _ (by assumption) _ (by assumption) (by omega)).mono ?_; rintro e w' ⟨rfl, rfl⟩)
    go_ret2
    exact ⟨_, _, rfl, Own.lit w [] (by simp), (Below.refl _ _).alloc (Nat.le_refl _) _⟩
  · cases h2 : inB n 0 8
    · rw [(ff_2 h2).1, (ff_2 h2).2]
      go_enter Try.func7, Try.ntmps7
      go_wp2_with (first
        | (go_at_call 29; refine (l9Word_is _ _ _ _ _ (by assumption) _ (by assumption) (by omega)).mono ?_; rintro e w' ⟨rfl, rfl⟩)
        | (go_at_call 30; refine (l1In_is _ _ _ _ (by assumption) _).mono ?_; rintro e w' ⟨rfl, rfl⟩))
      go_ret2
      exact ⟨_, _, rfl, Own.lit w [] (by simp), (Below.refl _ _).alloc (Nat.le_refl _) _⟩
    · rw [(ff_3 h1 h2).1, (ff_3 h1 h2).2]
      have b1 := wrd_yes h1
      have b2 := inB_iff.1 h2
      obtain ⟨f, rfl⟩ := Int.eq_ofNat_of_zero_le (show 0 ≤ f by omega)
      obtain ⟨n, rfl⟩ := Int.eq_ofNat_of_zero_le (show 0 ≤ n by omega)
      exact specFf_yes f n A xs c w ha hc h1 h2
end Go.Proofs.Ytbgkeecndagkgaa
