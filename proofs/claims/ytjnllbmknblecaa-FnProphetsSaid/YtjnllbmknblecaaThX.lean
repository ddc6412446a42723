/- ThresholdMean: the reference's own function. -/
import Derived.Test.YtjnllbmknblecaaThI
import Derived.Test.YtjnllbmknblecaaThS
namespace Go.Proofs.Ytjnllbmknblecaa
open Go.RowKit

theorem specTh_no (A : Option Addr) (xss : List (List Int)) (c : Nat) (least : Int) (w : World) (ha : RdSS w A xss) (hs : SzSS xss) (h : (lawsB xss && inB least 0 5) = false) :
    Calls Try.prog 32 #[.slice A xss.length c, .int .i64 least] w (Quietly w (.tuple #[.agg #[.int .i64 0, .int .i64 0], .bool false])) := by
  have ha1 := ha.alloc (.cells #[.int .i64 0, .int .i64 0] 26)
  cases h1 : lawsB xss with
  | false =>
    clear h
    go_enter Try.func32, Try.ntmps32
    go_wp2_with (go_at_call 72; refine (l7Laws_is _ _ _ _ (by assumption) _ ha1 hs).mono ?_; rintro e w' ⟨rfl, rfl⟩)
    exact bodyPost_ret (v := .tuple #[.agg #[.int .i64 0, .int .i64 0], .bool false]) (by simp [results, Try.results32, go_sem]) rfl ⟨rfl, by with_reducible repeat (first | exact Below.refl _ _ | refine Below.setCell ?_ (by simp) _ | refine Below.alloc ?_ (by simp) _)⟩
  | true =>
    have h2 : inB least 0 5 = false := by rw [h1] at h; simpa using h
    clear h
    go_enter Try.func32, Try.ntmps32
    go_wp2_with (first
      | (go_at_call 72; refine (l7Laws_is _ _ _ _ h1 _ ha1 hs).mono ?_; rintro e w' ⟨rfl, rfl⟩)
      | (go_at_call 76; refine (l1In_is _ _ _ _ h2 _).mono ?_; rintro e w' ⟨rfl, rfl⟩))
    exact bodyPost_ret (v := .tuple #[.agg #[.int .i64 0, .int .i64 0], .bool false]) (by simp [results, Try.results32, go_sem]) rfl ⟨rfl, by with_reducible repeat (first | exact Below.refl _ _ | refine Below.setCell ?_ (by simp) _ | refine Below.alloc ?_ (by simp) _)⟩
theorem specTh_yes (A : Option Addr) (xss : List (List Int)) (c : Nat) (least : Int) (w : World) (ha : RdSS w A xss) (hs : SzSS xss) (h1 : lawsB xss = true) (h2 : inB least 0 5 = true) :
    Calls Try.prog 32 #[.slice A xss.length c, .int .i64 least] w (Quietly w (.tuple #[.agg #[.int .i64 (lwT (thT xss least xss.length) (thB xss xss.length)), .int .i64 (lwB (thT xss least xss.length) (thB xss xss.length))], .bool (lwOk (thT xss least xss.length) (thB xss xss.length))])) := by
  have ha1 := ha.alloc (.cells #[.int .i64 0, .int .i64 0] 26)
  have HB0 : Below w.heap.size w (w.alloc (.cells #[.int .i64 0, .int .i64 0] 26)) := (Below.refl _ _).alloc (Nat.le_refl _) _
  have B0 := Bx.new w (.int .i64 0) (.int .i64 0) 26
  have HL := Lib.hid h1
  have bB := thB_bd h1 xss.length (Nat.le_refl _)
  have bT := thT_bd h1 least xss.length (Nat.le_refl _)
  have bc := cutT_bd (a := thT xss least xss.length) (b := thB xss xss.length) (by omega) (M := 1562500) (by omega) (by omega)
  unfold lwT lwB lwOk
  go_enter Try.func32, Try.ntmps32
  go_wp2_with fail
  refine (l7Laws_is _ _ _ _ h1 _ ha1 hs).mono ?_
  rintro e w' ⟨rfl, rfl⟩
  go_wp2_with fail
  refine (l1In_is _ _ _ _ h2 _).mono ?_
  rintro e w' ⟨rfl, rfl⟩
  clear h1 h2
  generalize w.alloc (.cells #[.int .i64 0, .int .i64 0] 26) = v at *
  go_wp2_with fail
  refine (l7Least_c _ _ _ _ _ ha1 HL.out).mono ?_
  rintro e w1 ⟨rfl, hb1⟩
  generalize cutT (thT xss least xss.length) (thB xss xss.length) = T at *
  generalize cutB (thT xss least xss.length) (thB xss xss.length) = B at *
  have HB1 := bUp HB0 hb1 HB0.size
  have B1 := B0.below hb1
  go_wp2_with fail
  refine (l2Kept_c _ _ (by omega) (by omega) _).mono ?_
  rintro e w2 ⟨rfl, hb2⟩
  have HB2 := bUp HB1 hb2 HB1.size
  obtain ⟨z0, z1, y0, y1, hz⟩ := B1.below hb2
  go_wp2
  exact bodyPost_ret (v := .tuple #[.agg #[.int .i64 (kpT T B), .int .i64 (kpB T B)], .bool (fracB T B)]) (by simp [results, Try.results32, go_sem, z0, z1]) rfl ⟨rfl, by with_reducible repeat (first | exact HB2 | refine Below.setCell ?_ (by simp) _)⟩
theorem specTh_c (A : Option Addr) (xss : List (List Int)) (c : Nat) (least : Int) (w : World) (ha : RdSS w A xss) (hs : SzSS xss) :
    Calls Try.prog 32 #[.slice A xss.length c, .int .i64 least] w (Quietly w (.tuple #[.agg #[.int .i64 (tmT xss least), .int .i64 (tmB xss least)], .bool (tmO xss least)])) := by
  cases h : (lawsB xss && inB least 0 5) with
  | false =>
    rw [(tm_no h).1, (tm_no h).2.1, (tm_no h).2.2]
    exact specTh_no A xss c least w ha hs h
  | true =>
    have hy := tm_yes h
    rw [hy.1, hy.2.1, hy.2.2]
    simp only [Bool.and_eq_true] at h
    exact specTh_yes A xss c least w ha hs h.1 h.2
end Go.Proofs.Ytjnllbmknblecaa
