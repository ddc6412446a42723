/- A gambler with a threshold: the program's walk. -/
import Derived.Test.YtjnllbmknblecaaThL
import Derived.Test.YtjnllbmknblecaaBestA
import Derived.Test.YtjnllbmknblecaaFrac
namespace Go.Proofs.Ytjnllbmknblecaa
open Go.RowKit

theorem implTh_no (A : Option Addr) (xss : List (List Int)) (c : Nat) (least : Int) (w : World) (ha : RdSS w A xss) (hs : SzSS xss) (h : (lawsB xss && inB least 0 5) = false) :
    Calls Try.prog 33 #[.slice A xss.length c, .int .i64 least] w (Quietly w (.tuple #[.agg #[.int .i64 0, .int .i64 0], .bool false])) := by
  have ha1 := ha.alloc (.cells #[.int .i64 0, .int .i64 0] 26)
  cases h1 : lawsB xss with
  | false =>
    clear h
    go_enter Try.func33, Try.ntmps33
    go_wp2_with (go_at_call 74; refine (areLaws_is _ _ _ _ (by assumption) _ ha1 hs).mono ?_; rintro e w' ⟨rfl, rfl⟩)
    exact bodyPost_ret (v := .tuple #[.agg #[.int .i64 0, .int .i64 0], .bool false]) (by simp [results, Try.results33, go_sem]) rfl ⟨rfl, by with_reducible repeat (first | exact Below.refl _ _ | refine Below.setCell ?_ (by simp) _ | refine Below.alloc ?_ (by simp) _)⟩
  | true =>
    have h2 : inB least 0 5 = false := by rw [h1] at h; simpa using h
    clear h
    go_enter Try.func33, Try.ntmps33
    go_wp2_with (first
      | (go_at_call 74; refine (areLaws_is _ _ _ _ h1 _ ha1 hs).mono ?_; rintro e w' ⟨rfl, rfl⟩)
      | (go_at_call 64; refine (within_is _ _ _ _ h2 _).mono ?_; rintro e w' ⟨rfl, rfl⟩))
    exact bodyPost_ret (v := .tuple #[.agg #[.int .i64 0, .int .i64 0], .bool false]) (by simp [results, Try.results33, go_sem]) rfl ⟨rfl, by with_reducible repeat (first | exact Below.refl _ _ | refine Below.setCell ?_ (by simp) _ | refine Below.alloc ?_ (by simp) _)⟩
set_option maxRecDepth 20000 in
set_option maxHeartbeats 1000000 in
theorem implTh_yes (A : Option Addr) (xss : List (List Int)) (c : Nat) (least : Int) (w : World) (ha : RdSS w A xss) (hs : SzSS xss) (h1 : lawsB xss = true) (h2 : inB least 0 5 = true) :
    Calls Try.prog 33 #[.slice A xss.length c, .int .i64 least] w (Quietly w (.tuple #[.agg #[.int .i64 (lwT (thT xss least xss.length) (thB xss xss.length)), .int .i64 (lwB (thT xss least xss.length) (thB xss xss.length))], .bool (lwOk (thT xss least xss.length) (thB xss xss.length))])) := by
  have ha1 := ha.alloc (.cells #[.int .i64 0, .int .i64 0] 26)
  have HB0 : Below w.heap.size w (w.alloc (.cells #[.int .i64 0, .int .i64 0] 26)) := (Below.refl _ _).alloc (Nat.le_refl _) _
  have B0 := Bx.new w (.int .i64 0) (.int .i64 0) 26
  have HL := Lib.hid h1
  have hn := (lawsB_yes h1).1
  have h3 := inB_iff.1 h2
  go_enter Try.func33, Try.ntmps33
  go_wp2_with fail
  refine (areLaws_is _ _ _ _ h1 _ ha1 hs).mono ?_
  rintro e w' ⟨rfl, rfl⟩
  go_wp2_with fail
  refine (within_is _ _ _ _ h2 _).mono ?_
  rintro e w' ⟨rfl, rfl⟩
  clear h1 h2
  generalize w.alloc (.cells #[.int .i64 0, .int .i64 0] 26) = v at *
  go_wp2
  go_loop [6, 7, 8] (fun t b i => ∃ k : Nat, k ≤ xss.length ∧ i = .int .i64 ((k : Int) - 1) ∧ t = .int .i64 (thT xss least (xss.length - k)) ∧ b = .int .i64 (thB xss (xss.length - k))) (fun _ _ i => (intOf i + 1).toNat)
  case atStart => exact ⟨xss.length, Nat.le_refl _, rfl, by rw [Nat.sub_self]; rfl, by rw [Nat.sub_self]; rfl⟩
  case round =>
    obtain ⟨k, hk, rfl, rfl, rfl⟩ := hrel
    have bB := thB_bd HL.out (xss.length - k) (by omega)
    have bT := thT_bd HL.out least (xss.length - k) (by omega)
    rcases k with _ | m
    · have e0 : ((0 : Nat) : Int) - 1 = -1 := rfl
      rw [e0]
      rw [Nat.sub_zero] at bB bT ⊢
      clear e0
      go_wp2_with fail
      refine (lowest_c (thT xss least xss.length) (thB xss xss.length) (by omega) (by omega) (by omega) (by omega) _).mono ?_
      rintro e w2 ⟨rfl, hb2⟩
      obtain ⟨z0, z1, y0, y1, hz⟩ := B0.below hb2
      go_wp2
      have HB1 := bUp HB0 hb2 HB0.size
      exact bodyPost_ret (v := .tuple #[.agg #[.int .i64 (lwT (thT xss least xss.length) (thB xss xss.length)), .int .i64 (lwB (thT xss least xss.length) (thB xss xss.length))], .bool (lwOk (thT xss least xss.length) (thB xss xss.length))]) (by simp [results, Try.results33, go_sem, z0, z1]) rfl ⟨rfl, by with_reducible repeat (first | exact HB1 | refine Below.setCell ?_ (by simp) _)⟩
    · have e0 : ((m + 1 : Nat) : Int) - 1 = (m : Int) := by omega
      rw [e0]
      clear e0
      obtain ⟨a, A', c', rfl, hca, hra⟩ := ha1 m (by omega)
      have hll := Lib.hid ((lawsB_yes HL.out).2 m (by omega))
      obtain ⟨l1, l2, l3, l4, l5⟩ := lawB_yes hll.out
      have HL3 := Lib.hid l3
      have HS1 := Lib.hid (thT_succ xss least m (by omega))
      have HS2 := Lib.hid (thB_succ xss m (by omega))
      generalize thT xss least (xss.length - (m + 1)) = T at *
      generalize thB xss (xss.length - (m + 1)) = B at *
      go_wp2
      go_loop [9, 33] (fun s i => ∃ u : Nat, u ≤ (rowAt xss m).length ∧ i = .int .i64 u ∧ s = .int .i64 (thS (rowAt xss m) least T B u)) (fun _ i => (rowAt xss m).length - (intOf i).toNat)
      case atStart => exact ⟨0, by omega, rfl, rfl⟩
      case round =>
        obtain ⟨u, hu, rfl, rfl⟩ := hrel
        have bs := thS_bd (least := least) hll.out (by omega) bT.1 bT.2 u hu
        by_cases hlu : u < (rowAt xss m).length
        · obtain ⟨b, rfl, hcb⟩ := hra.intN hlu
          have bl := lo_bd hll.out bT.1 bT.2 hlu
          have bh := hi_bd hll.out (B := B) (by omega) hlu
          have bu : (u : Int) * (20 * B) ≤ 5 * (20 * B) := Int.mul_le_mul_of_nonneg_right (by omega) (by omega)
          by_cases hc : (u : Int) < least
          · have HU := Lib.hid (thS_lo (w := rowAt xss m) (T := T) (B := B) hc)
            clear l3
            go_wp2
            go_round
            case rel => exact ⟨u + 1, by omega, by go_num, by rw [HU.out]⟩
            case measure => simp [intOf] <;> omega
          · have HU := Lib.hid (thS_hi (w := rowAt xss m) (T := T) (B := B) hc)
            clear l3
            go_wp2
            go_round
            case rel => exact ⟨u + 1, by omega, by go_num, by rw [HU.out]⟩
            case measure => simp [intOf] <;> omega
        · have hul : u = (rowAt xss m).length := by omega
          subst hul
          have bm := mul_bd B (sm (rowAt xss m)) 390625 25 (by omega) (by omega) (by omega) (by omega)
          clear l3
          go_wp2_with (go_at_call 66; refine (total_c _ _ _ 5 _ hra (by decide) (allB_mono HL3.out (by decide) (by decide)) (by omega)).mono ?_; rintro e w' ⟨rfl, rfl⟩)
          go_round
          case rel => exact ⟨m, by omega, rfl, by rw [HS1.out], by rw [HS2.out]⟩
          case measure => simp [intOf] <;> omega
theorem implTh_c (A : Option Addr) (xss : List (List Int)) (c : Nat) (least : Int) (w : World) (ha : RdSS w A xss) (hs : SzSS xss) :
    Calls Try.prog 33 #[.slice A xss.length c, .int .i64 least] w (Quietly w (.tuple #[.agg #[.int .i64 (tmT xss least), .int .i64 (tmB xss least)], .bool (tmO xss least)])) := by
  cases h : (lawsB xss && inB least 0 5) with
  | false =>
    rw [(tm_no h).1, (tm_no h).2.1, (tm_no h).2.2]
    exact implTh_no A xss c least w ha hs h
  | true =>
    have hy := tm_yes h
    rw [hy.1, hy.2.1, hy.2.2]
    simp only [Bool.and_eq_true] at h
    exact implTh_yes A xss c least w ha hs h.1 h.2
end Go.Proofs.Ytjnllbmknblecaa
