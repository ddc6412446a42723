/- TeamWins: until when a word's team plays, and what it has. -/
import Derived.Test.YtbgkeecndagkgaaOv2
namespace Go.Proofs.Ytbgkeecndagkgaa
open Go.RowKit

theorem Rd.cut2 {w : World} {A : Option Addr} {xs : List Int} {c : Nat} (h : Rd w A (ints xs)) (hc : xs.length ≤ c) (l k : Nat) : Rd w (if c = l then A else A.map fun x => x.add l) (ints ((xs.take k).drop l)) :=
  Rd.cutIf (c := c) h.takeI (by simp; omega) l

theorem Rd.cutI {w : World} {A : Option Addr} {xs : List Int} (h : Rd w A (ints xs)) (l : Nat) : Rd w (A.map fun x => x.add l) (ints (xs.drop l)) := by
  rw [ints_drop]
  exact h.cut
/-- The first k from a start on up to hi with a property, or hi. -/
def untG (p : Nat → Bool) (hi : Nat) : Nat → Nat → Nat
  | 0, _ => hi
  | f + 1, k => if k ≤ hi then (if p k then k else untG p hi f (k + 1)) else hi
theorem untG_le (p : Nat → Bool) (hi f k : Nat) : untG p hi f k ≤ hi := by
  induction f generalizing k with
  | zero => exact Nat.le_refl _
  | succ f ih =>
    rw [untG]
    split
    · split
      · assumption
      · exact ih _
    · exact Nat.le_refl _
theorem untG_hit {p : Nat → Bool} {hi f k : Nat} (hk : k ≤ hi) (h : p k = true) : untG p hi (f + 1) k = k := by rw [untG, if_pos hk, if_pos h]
theorem untG_miss {p : Nat → Bool} {hi f k : Nat} (hk : k ≤ hi) (h : p k = false) : untG p hi (f + 1) k = untG p hi f (k + 1) := by rw [untG, if_pos hk, if_neg (by simp [h])]
theorem untG_end {p : Nat → Bool} {hi f k : Nat} (hk : ¬ k ≤ hi) : untG p hi f k = hi := by
  cases f with
  | zero => rfl
  | succ f => rw [untG, if_neg hk]
/-- The throws up to the k-th end with the word. -/
def hitB (wd th : List Int) (k : Nat) : Bool := decide ((th.take k).drop (k - wd.length) = wd)
def unt (wd th : List Int) : Nat := untG (hitB wd th) th.length (th.length + 1) wd.length
theorem unt_le (wd th : List Int) : unt wd th ≤ th.length := untG_le _ _ _ _
theorem hit_ends {wd th : List Int} {k : Nat} (h1 : wd.length ≤ k) (h2 : k ≤ th.length) : endsB (th.take k) wd wd.length = hitB wd th k := by
  have e : (th.take k).length = k := by simp; omega
  rw [ends_1 (by omega) (Nat.le_refl _), e, List.take_length]
  rfl

theorem l9Until_c (A B : Option Addr) (xs ys : List Int) (c d : Nat) (w : World) (ha : Rd w A (ints xs)) (hb : Rd w B (ints ys)) (hl : xs.length ≤ 6) (hm : ys.length ≤ 8) (hc : xs.length ≤ c) (hd : ys.length ≤ d) :
    Calls Try.prog 40 #[.slice A xs.length c, .slice B ys.length d] w (Pure w (.slice B (unt xs ys) d)) := by
  go_enter Try.func40, Try.ntmps40
  go_wp2
  go_loopw [5] (fun i wr => ∃ k f : Nat, xs.length ≤ k ∧ k + f = xs.length + ys.length + 1 ∧ i = .int .i64 k ∧ untG (hitB xs ys) ys.length f k = unt xs ys ∧ Dr w wr) (fun i _ => xs.length + ys.length + 1 - (intOf i).toNat)
  case atStart => exact ⟨xs.length, ys.length + 1, by omega, by omega, rfl, rfl, Dr.refl w⟩
  case round =>
    obtain ⟨k, f, hk1, hk2, rfl, hu, hdr⟩ := hrel
    have HU := Lib.hid hu
    clear hu
    by_cases hlt : k ≤ ys.length
    · obtain ⟨f, rfl⟩ : ∃ g, f = g + 1 := ⟨f - 1, by omega⟩
      have hn : (ys.take k).length = k := by simp; omega
      have C := l9Ends_c B A (ys.take k) xs d c xs.length wr (hb.dr hdr).takeI (ha.dr hdr) (by omega) (by omega) (by omega) hc
      rw [hit_ends hk1 hlt, hn] at C
      clear hn
      have C := Lib.hid C
      have e8 : (k : Int) ≤ (d : Int) := by omega
      cases hh : hitB xs ys k
      · rw [hh] at C
        have HN := Lib.hid (untG_miss (f := f) hlt hh)
        go_wp2_with fail
        refine C.out.mono ?_
        rintro e w1 ⟨rfl, hd1⟩
        go_wp2
        go_roundw
        case rel => exact ⟨k + 1, f, by omega, by omega, by go_num, by rw [← HN.out]; exact HU.out, hdr.trans hd1⟩
        case measure => simp [intOf] <;> omega
      · rw [hh] at C
        have HN := Lib.hid (untG_hit (f := f) hlt hh)
        go_wp2_with fail
        refine C.out.mono ?_
        rintro e w1 ⟨rfl, hd1⟩
        go_wp2
        go_ret
        exact ⟨by rw [← HU.out, HN.out]; rfl, hdr.trans hd1⟩
    · have HN := Lib.hid (untG_end (p := hitB xs ys) (f := f) hlt)
      go_wp2
      go_ret
      exact ⟨by rw [← HU.out, HN.out]; rfl, hdr⟩

def twOk (f : Int) (wd th : List Int) : Bool := wrdB f wd && decide (th.length ≤ 8) && allB th 0 (f - 1)
def twV (f : Int) (wd th : List Int) : Int := if twOk f wd th then ovSum f (th.take (unt wd th)) wd else 0
theorem tw_1 {f : Int} {wd th : List Int} (h : wrdB f wd = false) : twV f wd th = 0 ∧ twOk f wd th = false := by simp [twV, twOk, h]
theorem tw_2 {f : Int} {wd th : List Int} (h : ¬ th.length ≤ 8) : twV f wd th = 0 ∧ twOk f wd th = false := by simp [twV, twOk, h]
theorem tw_3 {f : Int} {wd th : List Int} (h : allB th 0 (f - 1) = false) : twV f wd th = 0 ∧ twOk f wd th = false := by simp [twV, twOk, h]
theorem tw_4 {f : Int} {wd th : List Int} (h1 : wrdB f wd = true) (h2 : th.length ≤ 8) (h3 : allB th 0 (f - 1) = true) : twV f wd th = ovSum f (th.take (unt wd th)) wd ∧ twOk f wd th = true := by simp [twV, twOk, h1, h2, h3]

theorem specTw_c (f : Int) (A B : Option Addr) (xs ys : List Int) (c d : Nat) (w : World) (ha : Rd w A (ints xs)) (hb : Rd w B (ints ys)) (hl : xs.length ≤ 8388608) (hm : ys.length ≤ 8388608) (hc : xs.length ≤ c) (hd : ys.length ≤ d) :
    Calls Try.prog 13 #[.int .i64 f, .slice A xs.length c, .slice B ys.length d] w (Quietly w (.tuple #[.int .i64 (twV f xs ys), .bool (twOk f xs ys)])) := by
  cases h1 : wrdB f xs
  · rw [(tw_1 h1).1, (tw_1 h1).2]
    go_enter Try.func13, Try.ntmps13
    go_wp2_with (go_at_call 29; refine (l9Word_is _ _ _ _ _ (by assumption) _ ha (by omega)).mono ?_; rintro e w' ⟨rfl, rfl⟩)
    go_ret2
    exact ⟨rfl, Below.refl _ _⟩
  · obtain ⟨b1, b2, b3, b4, -⟩ := wrd_yes h1
    have hf1 : inB f 1 6 = true := inB_iff.2 ⟨b1, b2⟩
    have ht : thrB f ys = allB ys 0 (f - 1) := thrB_2 hf1
    clear hf1
    cases h3 : allB ys 0 (f - 1)
    · rw [h3] at ht
      rw [(tw_3 h3).1, (tw_3 h3).2]
      clear h3
      go_enter Try.func13, Try.ntmps13
      go_wp2_with (first
        | (go_at_call 29; refine (l9Word_is _ _ _ _ _ (by assumption) _ ha (by omega)).mono ?_; rintro e w' ⟨rfl, rfl⟩)
        | (go_at_call 39; refine (l9Throws_is _ _ _ _ _ (by assumption) _ hb (by omega)).mono ?_; rintro e w' ⟨rfl, rfl⟩))
      go_ret2
      exact ⟨rfl, Below.refl _ _⟩
    · rw [h3] at ht
      by_cases h2 : ys.length ≤ 8
      · rw [(tw_4 h1 h2 h3).1, (tw_4 h1 h2 h3).2]
        clear h3
        have hn : (ys.take (unt xs ys)).length = unt xs ys := by have := unt_le xs ys; simp; omega
        have hu := unt_le xs ys
        go_enter Try.func13, Try.ntmps13
        go_wp2_with (first
          | (go_at_call 29; refine (l9Word_is _ _ _ _ _ (by assumption) _ ha (by omega)).mono ?_; rintro e w' ⟨rfl, rfl⟩)
          | (go_at_call 39; refine (l9Throws_is _ _ _ _ _ (by assumption) _ hb (by omega)).mono ?_; rintro e w' ⟨rfl, rfl⟩))
        refine (l9Until_c _ _ _ _ _ _ _ ha hb b4 h2 hc hd).mono ?_
        rintro e w1 ⟨rfl, hd1⟩
        have C := l9Sum_c f B A (ys.take (unt xs ys)) xs d c w1 (hb.dr hd1).takeI (ha.dr hd1) (by omega) b4 (by omega) hc b1 b2
        rw [hn] at C
        have C := Lib.hid C
        clear hn
        go_wp2_with fail
        refine C.out.mono ?_
        rintro e w2 ⟨rfl, hb2⟩
        go_wp2
        go_ret2
        exact ⟨rfl, bUp (hd1.below (Below.refl _ _)) hb2 (by rw [hd1.size]; omega)⟩
      · rw [(tw_2 h2).1, (tw_2 h2).2]
        clear h3
        go_enter Try.func13, Try.ntmps13
        go_wp2_with (first
          | (go_at_call 29; refine (l9Word_is _ _ _ _ _ (by assumption) _ ha (by omega)).mono ?_; rintro e w' ⟨rfl, rfl⟩)
          | (go_at_call 39; refine (l9Throws_is _ _ _ _ _ (by assumption) _ hb (by omega)).mono ?_; rintro e w' ⟨rfl, rfl⟩))
        go_ret2
        exact ⟨rfl, Below.refl _ _⟩

theorem implTw_c (f : Int) (A B : Option Addr) (xs ys : List Int) (c d : Nat) (w : World) (ha : Rd w A (ints xs)) (hb : Rd w B (ints ys)) (hl : xs.length ≤ 8388608) (hm : ys.length ≤ 8388608) (hc : xs.length ≤ c) (hd : ys.length ≤ d) :
    Calls Try.prog 12 #[.int .i64 f, .slice A xs.length c, .slice B ys.length d] w (Quietly w (.tuple #[.int .i64 (twV f xs ys), .bool (twOk f xs ys)])) := by
  cases h1 : wrdB f xs
  · rw [(tw_1 h1).1, (tw_1 h1).2]
    go_enter Try.func12, Try.ntmps12
    go_wp2_with (go_at_call 25; refine (isWord_is _ _ _ _ _ (by assumption) _ ha (by omega)).mono ?_; rintro e w' ⟨rfl, rfl⟩)
    go_ret2
    exact ⟨rfl, Below.refl _ _⟩
  · obtain ⟨b1, b2, b3, b4, -⟩ := wrd_yes h1
    by_cases h2 : ys.length ≤ 8
    · cases h3 : allB ys 0 (f - 1)
      · rw [(tw_3 h3).1, (tw_3 h3).2]
        go_enter Try.func12, Try.ntmps12
        go_wp2_with (first
          | (go_at_call 25; refine (isWord_is _ _ _ _ _ (by assumption) _ ha (by omega)).mono ?_; rintro e w' ⟨rfl, rfl⟩)
          | (go_at_call 37; refine (allWithin_is _ _ _ _ _ _ (by assumption) _ hb (by omega)).mono ?_; rintro e w' ⟨rfl, rfl⟩))
        go_ret2
        exact ⟨rfl, Below.refl _ _⟩
      · rw [(tw_4 h1 h2 h3).1, (tw_4 h1 h2 h3).2]
        have hn : (ys.take (unt xs ys)).length = unt xs ys := by have := unt_le xs ys; simp; omega
        have HNL := Lib.hid hn
        clear hn
        have hu := unt_le xs ys
        have e8 : ((unt xs ys : Nat) : Int) ≤ (d : Int) := by omega
        go_enter Try.func12, Try.ntmps12
        go_wp2_with (first
          | (go_at_call 25; refine (isWord_is _ _ _ _ _ (by assumption) _ ha (by omega)).mono ?_; rintro e w' ⟨rfl, rfl⟩)
          | (go_at_call 37; refine (allWithin_is _ _ _ _ _ _ (by assumption) _ hb (by omega)).mono ?_; rintro e w' ⟨rfl, rfl⟩))
        clear h1 h3
        go_loopw [8, 9] (fun m i wr => ∃ k f : Nat, xs.length ≤ k ∧ k + f = xs.length + ys.length + 1 ∧ m = .int .i64 ys.length ∧ i = .int .i64 k ∧ untG (hitB xs ys) ys.length f k = unt xs ys ∧ Dr w wr) (fun _ i _ => xs.length + ys.length + 1 - (intOf i).toNat)
        case atStart => exact ⟨xs.length, ys.length + 1, by omega, by omega, rfl, rfl, rfl, Dr.refl w⟩
        case round =>
          obtain ⟨k, f', hk1, hk2, rfl, rfl, hu', hdr⟩ := hrel
          have HU := Lib.hid hu'
          clear hu'
          have C := overlapping_c f B A (ys.take (unt xs ys)) xs d c wr (hb.dr hdr).takeI (ha.dr hdr) (by have := HNL.out; omega) b4 (by have := HNL.out; omega) hc b1 b2
          by_cases hlt : k ≤ ys.length
          · obtain ⟨f', rfl⟩ : ∃ g, f' = g + 1 := ⟨f' - 1, by omega⟩
            have e3 : 0 ≤ (k : Int) - (xs.length : Int) := by omega
            have e4 : (k : Int) - (xs.length : Int) ≤ (k : Int) := by omega
            have e5 : ((k : Int) - (xs.length : Int)).toNat = k - xs.length := by omega
            have e6 : (k : Int) ≤ (d : Int) := by omega
            have R1 := ((hb.dr hdr).takeI (k := k)).cutI (k - xs.length)
            have HL1 := Lib.hid (show k - (k - xs.length) = ((ys.take k).drop (k - xs.length)).length by simp; omega)
            have HL3 := Lib.hid (show ((ys.take k).drop (k - xs.length)).length ≤ 16777216 by simp; omega)
            cases hh : hitB xs ys k
            · have HN := Lib.hid (untG_miss (f := f') hlt hh)
              clear C
              go_wp2_with fail
              refine (slEqual_is _ _ ((ys.take k).drop (k - xs.length)) xs _ _ _ _ _ _ hh HL1.out rfl R1 (ha.dr hdr) HL3.out (by omega)).mono ?_
              rintro e w1 ⟨rfl, hd1⟩
              clear e3 e4 e5 e6
              go_wp2
              all_goals
                go_roundw
                case rel => exact ⟨k + 1, f', by omega, by omega, rfl, by go_num, by rw [← HN.out]; exact HU.out, hdr.trans hd1⟩
                case measure => simp [intOf] <;> omega
            · have HN := Lib.hid (untG_hit (f := f') hlt hh)
              have C := Lib.hid C
              go_wp2_with fail
              refine (slEqual_is _ _ ((ys.take k).drop (k - xs.length)) xs _ _ _ _ _ _ hh HL1.out rfl R1 (ha.dr hdr) HL3.out (by omega)).mono ?_
              rintro e w1 ⟨rfl, hd1⟩
              have C := overlapping_c f B A (ys.take (unt xs ys)) xs d c w1 (hb.dr (hdr.trans hd1)).takeI (ha.dr (hdr.trans hd1)) (by have := HNL.out; omega) b4 (by have := HNL.out; omega) hc b1 b2
              rw [HNL.out, ← HU.out, HN.out] at C
              have C := Lib.hid C
              clear e3 e4 e5
              go_wp2_with fail
              refine C.out.mono ?_
              rintro e w2 ⟨rfl, hb2⟩
              go_wp2
              go_ret2
              rw [← HN.out, HU.out]
              exact ⟨rfl, bUp ((hdr.trans hd1).below (Below.refl _ _)) hb2 (by rw [(hdr.trans hd1).size]; omega)⟩
          · have HN := Lib.hid (untG_end (p := hitB xs ys) (f := f') hlt)
            rw [HNL.out, ← HU.out, HN.out] at C
            have C := Lib.hid C
            have e6 : ((ys.length : Nat) : Int) ≤ (d : Int) := by omega
            go_wp2_with fail
            refine C.out.mono ?_
            rintro e w2 ⟨rfl, hb2⟩
            go_wp2
            go_ret2
            exact ⟨by rw [← HU.out, HN.out, List.take_length]; rfl, bUp (hdr.below (Below.refl _ _)) hb2 (by rw [hdr.size]; omega)⟩
    · rw [(tw_2 h2).1, (tw_2 h2).2]
      go_enter Try.func12, Try.ntmps12
      go_wp2_with (go_at_call 25; refine (isWord_is _ _ _ _ _ (by assumption) _ ha (by omega)).mono ?_; rintro e w' ⟨rfl, rfl⟩)
      go_ret2
      exact ⟨rfl, Below.refl _ _⟩
end Go.Proofs.Ytbgkeecndagkgaa
