/- The law FnBandits: its walk (merged of BaW BaX). -/
import Derived.Test.YtfobjkdkjlbkfaaGtA
import Derived.Test.YtfobjkdkjlbkfaaArmD
import Derived.Test.YtfobjkdkjlbkfaaOrA
import Derived.Test.YtfobjkdkjlbkfaaScS
import Derived.Test.YtfobjkdkjlbkfaaLinA
import Derived.Test.YtfobjkdkjlbkfaaVw
namespace Go.Proofs.Ytfobjkdkjlbkfaa
open Go.RowKit

theorem nameB {α : Type} (a : α) : ∃ b, a = b := ⟨a, rfl⟩
set_option maxRecDepth 20000 in
set_option maxHeartbeats 1000000 in
theorem rBigB_c (A : Option Addr) (bs : List Int) (c : Nat) (w : World) (_hl : bs.length ≤ 9223372036854775807) :
    Calls Try.prog 5 #[.slice A bs.length c] w fun e w' => e = .returned (.bool (decide (65536 < (bs.length : Int)))) ∧ w = w' := by
  go_enter Try.func5, Try.ntmps5
  go_wp2
  go_ret
  exact ⟨rfl, rfl⟩
set_option maxRecDepth 20000 in
set_option maxHeartbeats 1000000 in
theorem rTree_same (A1 A2 B1 B2 : Option Addr) (P W : List Int) (c1 c2 d1 d2 : Nat) (w : World) (h1 : Rd w A1 (ints P)) (h2 : Rd w A2 (ints W)) (k1 : Rd w B1 (ints P)) (k2 : Rd w B2 (ints W)) (hP : P.length ≤ 60) (hW : W.length ≤ 60) :
    Calls Try.prog 37 #[trV A1 P.length c1 A2 W.length c2, trV B1 P.length d1 B2 W.length d2] w (Quietly w (.bool true)) := by
  have b1 : Below w.heap.size w ((w.alloc (.cells #[.slice A1 P.length c1, .slice A2 W.length c2] 26)).alloc (.cells #[.slice B1 P.length d1, .slice B2 W.length d2] 26)) := ((Below.refl _ _).alloc (Nat.le_refl _) _).alloc (by simp) _
  have x1 := (Bx.new w (.slice A1 P.length c1) (.slice A2 W.length c2) 26).alloc (.cells #[.slice B1 P.length d1, .slice B2 W.length d2] 26)
  have x2 := Bx.new (w.alloc (.cells #[.slice A1 P.length c1, .slice A2 W.length c2] 26)) (.slice B1 P.length d1) (.slice B2 W.length d2) 26
  rw [World.size_alloc] at x2
  obtain ⟨ya0, ya1, ya2, ya3, ya4⟩ := id x1
  obtain ⟨yb0, yb1, yb2, yb3, yb4⟩ := id x2
  go_enter Try.func37, Try.ntmps37
  go_wp2_with fail
  refine (rInts_same A1 B1 P _ _ c1 d1 _ rfl rfl (h1.below b1 (Nat.le_refl _)) (k1.below b1 (Nat.le_refl _)) (by omega)).mono ?_
  rintro e w2 ⟨rfl, b2⟩
  have b12 := bUp b1 b2 b1.size
  have x1' := x1.below b2
  have x2' := x2.below b2
  clear ya0 ya1 ya2 ya3 ya4 yb0 yb1 yb2 yb3 yb4
  obtain ⟨ya0, ya1, ya2, ya3, ya4⟩ := id x1'
  obtain ⟨yb0, yb1, yb2, yb3, yb4⟩ := id x2'
  go_wp2_with fail
  refine (rInts_same A2 B2 W _ _ c2 d2 _ rfl rfl (h2.below b12 (Nat.le_refl _)) (k2.below b12 (Nat.le_refl _)) (by omega)).mono ?_
  rintro e w3 ⟨rfl, b3⟩
  go_wp2_with fail
  go_ret
  exact ⟨rfl, bUp b12 b3 b12.size⟩
theorem szs_tail {m : Mkd} {T : List Mkd} (h : SzMs (m :: T)) : SzMs T := ⟨by have := h.1; simp only [List.length_cons] at this; omega, fun k hk => h.2 (k + 1) (by simp only [List.length_cons]; omega)⟩
/-- What the law asks of the values. -/
structure BaF (L : List Mkd) (a b best first index fees order scale : Int) : Prop where
  hok : ArmsOk L a b
  e1 : index = best
  f1 : fees ≤ best
  f2 : order ≤ best
  f3 : 0 ≤ best
  f4 : decide (0 ≤ first) = decide (0 < best)
  bd : best ≤ 6457751764992000
  ev : best = valX L a b none (fun _ => 0)
  es : scale = scTo L b L.length
def BaIf (L : List Mkd) (a b best first index fees order scale : Int) (ok : Bool) : Prop := ok = true → BaF L a b best first index fees order scale
theorem ba_if {L : List Mkd} {a b : Int} : BaIf L a b (bvV L a b) (fpV L a b) (plV L a b (idxN L a b) false) (plV L a b (feeN L) false) (plV L a b (idxN L a b) true) (scV L a b) (armsB L a b) := fun h => by
  have hA := armsB_iff.1 h
  have hX : AtOk L (fun _ => 0) := fun k hk => (hA.arm hk).tree.n1
  have hb : bvV L a b = valX L a b none (fun _ => 0) := by rw [bvV, if_pos h]
  refine ⟨hA, ?_, ?_, ?_, ?_, ?_, ?_, hb, scV_yes h⟩
  · rw [plV_yes h, hb]; exact greedy_best hA cho_ok (cho_greedy hA) hX
  · rw [plV_yes h, hb]; exact plan_le hA cho_ok _ _ hX (Nat.lt_succ_self _)
  · rw [plV_yes h, hb]; exact plan_le hA cho_ok _ _ hX (Nat.lt_succ_self _)
  · rw [hb]; exact val_none_nn hA hX
  · rw [fpV_yes h, hb]; exact first_iff hA
  · rw [hb]; exact (valX_bd hA (pl := none) (fun c e => by cases e) hX).2
theorem rd_tail {w : World} {A : Option Addr} {m : Mkd} {T : List Mkd} (h : RdMs w A (m :: T)) : RdMs w (A.map fun p => p.add (1 * 3)) T := by
  intro k hk
  obtain ⟨ad, A1, c1, A2, c2, A3, c3, rfl, h1, h2, h3, r1, r2, r3⟩ := h (k + 1) (by simp only [List.length_cons]; omega)
  have e : ∀ j, (ad.add (1 * 3)).add (k * 3 + j) = ad.add ((k + 1) * 3 + j) := fun j => by
    rcases Nat.eq_zero_or_pos (k * 3 + j) with h0 | h0
    · rw [h0, show (k + 1) * 3 + j = 1 * 3 by omega]; rfl
    · simp only [Addr.add, if_neg (show ¬ k * 3 + j = 0 by omega), if_neg (show ¬ (k + 1) * 3 + j = 0 by omega), if_neg (show ¬ 1 * 3 = 0 by omega)]
      congr 1; omega
  refine ⟨ad.add (1 * 3), A1, c1, A2, c2, A3, c3, rfl, ?_, ?_, ?_, r1, r2, r3⟩
  · have := e 0; rw [Nat.add_zero, Nat.add_zero] at this; rw [this]; exact h1
  · rw [e 1]; exact h2
  · rw [e 2]; exact h3
noncomputable def ba36 : Code := ((Try.f4.body.bind (restFrom 36)).getD .skip)
set_option maxRecDepth 100000 in
set_option maxHeartbeats 16000000 in
theorem baTail (AL : Option Addr) (L : List Mkd) (cL : Nat) (a b best first index fees order scale : Int) (ok : Bool) (hLc : L.length ≤ cL) (HF : Hid (BaIf L a b best first index fees order scale ok)) (HS : Hid (SzMs L)) (w0 w : World) (HB : Below w0.heap.size w0 w) (hR : RdMs w AL L) (u0 u1 u2 u8 u9 u11 u12 u13 u15 u16 u17 u19 u20 u21 u23 u24 u25 u27 u28 u29 u30 u31 u32 u33 u34 u35 u36 u37 u38 u39 u40 u41 u42 u43 u44 u45 u46 u47 u48 u49 u50 u51 u52 u53 u54 u55 u56 u57 u58 u59 u60 u61 u62 u63 u64 u65 u66 u67 u68 u69 u70 u71 u72 u73 u74 u75 u76 u77 u78 u79 u80 u81 u82 u83 u84 u85 u86 u87 u88 u89 u90 u91 u92 u93 u94 u95 u96 u97 u98 u99 u100 u101 u102 u103 u104 u105 u106 u107 u108 u109 u110 u111 u112 u113 u114 u115 u116 u117 u118 u119 u120 u121 u122 u123 u124 u125 u126 u127 u128 u129 u130 u131 u132 u133 u134 u135 u136 u137 u138 u139 u140 u141 u142 u143 u144 u145 u146 u147 u148 u149 u150 u151 u152 u153 u154 u155 u156 u157 u158 u159 u160 u161 u162 u163 u164 u165 u166 u167 u168 u169 u170 u171 u172 u173 u174 u175 u176 u177 u178 u179 u180 u181 u182 u183 u184 u185 u186 u187 u188 u189 u190 u191 u192 u193 u194 u195 u196 u197 u198 u199 u200 u201 u202 u203 u204 u205 u206 u207 u208 u209 u210 u211 u212 u213 u214 u215 u216 u217 u218 u219 u220 u221 u222 u223 u224 u225 u226 u227 u228 u229 u230 u231 u232 u233 u234 u235 u236 u237 u238 u239 u240 u241 u242 u243 u244 u245 u246 u247 u248 u249 u250 u251 u252 u253 u254 u255 u256 u257 u258 u259 u260 u261 u262 u263 u264 u265 u266 u267 u268 u269 u270 u271 u272 u273 u274 u275 u276 u277 u278 u279 u280 u281 u282 u283 u284 u285 u286 u287 u288 u289 u290 u291 u292 u293 u294 u295 u296 u297 u298 u299 u300 u301 u302 u303 u304 u305 u306 u307 u308 u309 u310 u311 u312 u313 u314 u315 u316 u317 u318 : Value) :
    Code.wp Try.prog ba36 (bodyPost Try.prog Try.f4 fun e w' => e = .returned (.bool true) ∧ Below w0.heap.size w0 w') ⟨#[u0, u1, u2, .slice AL L.length cL, .int .i64 a, .int .i64 b, .int .i64 best, .bool ok, u8, u9, .int .i64 first, u11, u12, u13, .int .i64 index, u15, u16, u17, .int .i64 fees, u19, u20, u21, .int .i64 order, u23, u24, u25, .int .i64 scale, u27, u28, u29, u30, u31, u32, u33, u34, u35, u36, u37, u38, u39, u40, u41, u42, u43, u44, u45, u46, u47, u48, u49, u50, u51, u52, u53, u54, u55, u56, u57, u58, u59, u60, u61, u62, u63, u64, u65, u66, u67, u68, u69, u70, u71, u72, u73, u74, u75, u76, u77, u78, u79, u80, u81, u82, u83, u84, u85, u86, u87, u88, u89, u90, u91, u92, u93, u94, u95, u96, u97, u98, u99, u100, u101, u102, u103, u104, u105, u106, u107, u108, u109, u110, u111, u112, u113, u114, u115, u116, u117, u118, u119, u120, u121, u122, u123, u124, u125, u126, u127, u128, u129, u130, u131, u132, u133, u134, u135, u136, u137, u138, u139, u140, u141, u142, u143, u144, u145, u146, u147, u148, u149, u150, u151, u152, u153, u154, u155, u156, u157, u158, u159, u160, u161, u162, u163, u164, u165, u166, u167, u168, u169, u170, u171, u172, u173, u174, u175, u176, u177, u178, u179, u180, u181, u182, u183, u184, u185, u186, u187, u188, u189, u190, u191, u192, u193, u194, u195, u196, u197, u198, u199, u200, u201, u202, u203, u204, u205, u206, u207, u208, u209, u210, u211, u212, u213, u214, u215, u216, u217, u218, u219, u220, u221, u222, u223, u224, u225, u226, u227, u228, u229, u230, u231, u232, u233, u234, u235, u236, u237, u238, u239, u240, u241, u242, u243, u244, u245, u246, u247, u248, u249, u250, u251, u252, u253, u254, u255, u256, u257, u258, u259, u260, u261, u262, u263, u264, u265, u266, u267, u268, u269, u270, u271, u272, u273, u274, u275, u276, u277, u278, u279, u280, u281, u282, u283, u284, u285, u286, u287, u288, u289, u290, u291, u292, u293, u294, u295, u296, u297, u298, u299, u300, u301, u302, u303, u304, u305, u306, u307, u308, u309, u310, u311, u312, u313, u314, u315, u316, u317, u318], []⟩ w := by
  conv => arg 2; whnf
  cases ok
  · go_wp2_with fail
    go_ret
    exact ⟨rfl, HB⟩
  obtain ⟨hok, rfl, f1, f2, f3, f4, bd, ev, es⟩ := HF.out rfl
  have HOK := Lib.hid hok
  have HEV := Lib.hid ev
  have HES := Lib.hid es
  clear hok ev es HF
  have g1 : ¬ index < fees := by omega
  have g2 : ¬ index < order := by omega
  have g3 : ¬ index < 0 := by omega
  go_upto_region 40 with fail
  cases L with
  | nil =>
    have b0 : index = 0 := HEV.out
    have s1 : scale = 1 := HES.out
    clear HOK HEV HES
    subst b0 s1
    go_wp2_with fail
    go_ret
    exact ⟨rfl, HB⟩
  | cons m T =>
    have HT := Lib.hid (ArmsOk.tail HOK.out)
    have hz : ¬ (((m :: T).length : Int) = 0) := by simp only [List.length_cons]; omega
    have HST : Hid (SzMs T) := Lib.hid (szs_tail HS.out)
    have HR1 : Hid (cL = 1 → RdMs w AL T) := Lib.hid fun e => by
      subst e
      cases T with
      | nil => intro k hk; exact absurd hk (Nat.not_lt_zero k)
      | cons x y => simp only [List.length_cons] at hLc; omega
    have HR2 : Hid (RdMs w (Option.map (fun x : Addr => (⟨x.block, x.off + 3, none⟩ : Addr)) AL) T) := Lib.hid (rd_tail hR)
    obtain ⟨less, hless⟩ := nameB (bvV T a b)
    obtain ⟨small, hsmall⟩ := nameB (scV T a b)
    have HCB : Hid (∀ A' c' w', RdMs w' A' T → Calls Try.prog 23 #[.slice A' T.length c', .int .i64 a, .int .i64 b] w' (Quietly w' (.tuple #[.int .i64 less, .bool true]))) := Lib.hid fun A' c' w' hr => by
      have := implBv_c A' T c' a b w' hr HST.out
      rwa [armsB_iff.2 HT.out, hless] at this
    have HCS : Hid (∀ A' c' w', RdMs w' A' T → Calls Try.prog 21 #[.slice A' T.length c', .int .i64 a, .int .i64 b] w' (Quietly w' (.tuple #[.int .i64 small, .bool true]))) := Lib.hid fun A' c' w' hr => by
      have := implSc_c A' T c' a b w' hr HST.out
      rwa [armsB_iff.2 HT.out, hsmall] at this
    have HQ : Hid (∃ u, scale = u * small ∧ 1 ≤ u ∧ 1 ≤ small ∧ u * less ≤ index ∧ 0 ≤ less ∧ scale ≤ 1855425871872000) := Lib.hid (by
      obtain ⟨q1, q2, q3, q4⟩ := bandit_more HOK.out
      rw [bvV_yes (armsB_iff.2 HT.out)] at hless
      rw [scV_yes (armsB_iff.2 HT.out)] at hsmall
      refine ⟨unitX m.P m.W b 0, ?_, q2, hsmall ▸ q3, ?_, ?_, HES.out ▸ (HOK.out.sc3 (Nat.le_refl _)).2⟩
      · rw [HES.out, ← hsmall]; exact q1
      · rw [HEV.out, ← hless]; exact q4
      · rw [← hless]; exact val_none_nn HT.out fun k hk => (HT.out.arm hk).tree.n1)
    clear hless hsmall HOK HEV HES HT hLc HS
    go_upto_region 43 with fail
    · refine (HCB.out _ _ _ (HR1.out h)).mono ?_
      rintro e w2 ⟨rfl, b2⟩
      go_upto_region 44 with fail
      refine (HCS.out _ _ _ ((HR1.out h).below b2 (Nat.le_refl _))).mono ?_
      rintro e w3 ⟨rfl, b3⟩
      have HB3 := Lib.hid (bUp HB (bUp b2 b3 b2.size) HB.size)
      clear b2 b3 HCB HCS HR1 HR2
      obtain ⟨u, e1, p1, p2, p3, p4, p5⟩ := HQ.out
      have hs0 : ¬ small = 0 := by omega
      have hdv : scale.tdiv small = u := by rw [e1]; exact Int.mul_tdiv_cancel u hs0
      have hp : 0 ≤ less * u := Int.mul_nonneg p4 (by omega)
      have hq : less * u ≤ index := by rw [Int.mul_comm]; exact p3
      have hu : u ≤ 1855425871872000 := by
        have := Int.mul_le_mul_of_nonneg_left (c := u) p2 (by omega)
        rw [Int.mul_one, ← e1] at this
        omega
      have hw1 : wrap64 u = u := IntWalk.wrap64_in _ ⟨by omega, by omega⟩
      have hw2 : wrap64 (less * u) = less * u := IntWalk.wrap64_in _ ⟨by omega, by omega⟩
      go_wp2_with fail
      go_ret
      exact ⟨rfl, HB3.out⟩
    · refine (HCB.out _ _ _ (HR2.out)).mono ?_
      rintro e w2 ⟨rfl, b2⟩
      go_upto_region 44 with fail
      refine (HCS.out _ _ _ ((HR2.out).below b2 (Nat.le_refl _))).mono ?_
      rintro e w3 ⟨rfl, b3⟩
      have HB3 := Lib.hid (bUp HB (bUp b2 b3 b2.size) HB.size)
      clear b2 b3 HCB HCS HR1 HR2
      obtain ⟨u, e1, p1, p2, p3, p4, p5⟩ := HQ.out
      have hs0 : ¬ small = 0 := by omega
      have hdv : scale.tdiv small = u := by rw [e1]; exact Int.mul_tdiv_cancel u hs0
      have hp : 0 ≤ less * u := Int.mul_nonneg p4 (by omega)
      have hq : less * u ≤ index := by rw [Int.mul_comm]; exact p3
      have hu : u ≤ 1855425871872000 := by
        have := Int.mul_le_mul_of_nonneg_left (c := u) p2 (by omega)
        rw [Int.mul_one, ← e1] at this
        omega
      have hw1 : wrap64 u = u := IntWalk.wrap64_in _ ⟨by omega, by omega⟩
      have hw2 : wrap64 (less * u) = less * u := IntWalk.wrap64_in _ ⟨by omega, by omega⟩
      go_wp2_with fail
      go_ret
      exact ⟨rfl, HB3.out⟩

theorem line_is {c : List Int} (h : lineB c = true) : armB (laP c) (laW c) (laN c) = true := by
  have h' := h
  simp only [lineB, Bool.and_eq_true, decide_eq_true_eq] at h'
  simp only [laP, laW, laN, h, if_true]
  rw [line_arm h'.1]
  exact h'.2
theorem la_lens {c : List Int} : (laP c).length ≤ 5 ∧ (laW c).length ≤ 5 ∧ (laN c).length ≤ 5 := by
  cases h : lineB c with
  | false => simp [laP, laW, laN, h]
  | true =>
    have h' := h
    simp only [lineB, Bool.and_eq_true, decide_eq_true_eq] at h'
    simp only [laP, laW, laN, h, if_true, lnP_length, lnW_length, List.length_append, List.length_singleton]
    omega
noncomputable def ba28 : Code := ((Try.f4.body.bind (restFrom 28)).getD .skip)
set_option maxRecDepth 100000 in
set_option maxHeartbeats 16000000 in
theorem baMid (A : Option Addr) (bs : List Int) (c : Nat) (AL : Option Addr) (L : List Mkd) (cL : Nat) (a b best first index fees order scale : Int) (ok : Bool) (hLc : L.length ≤ cL) (HF : Hid (BaIf L a b best first index fees order scale ok)) (HS : Hid (SzMs L)) (w0 w : World) (rc : Rd w A (u8s bs)) (hb : ByOk bs) (hl : bs.length ≤ 65536) (HB : Below w0.heap.size w0 w) (hR : RdMs w AL L) (u1 u2 u8 u9 u11 u12 u13 u15 u16 u17 u19 u20 u21 u23 u24 u25 u27 u28 u29 u30 u31 u32 u33 u34 u35 u36 u37 u38 u39 u40 u41 u42 u43 u44 u45 u46 u47 u48 u49 u50 u51 u52 u53 u54 u55 u56 u57 u58 u59 u60 u61 u62 u63 u64 u65 u66 u67 u68 u69 u70 u71 u72 u73 u74 u75 u76 u77 u78 u79 u80 u81 u82 u83 u84 u85 u86 u87 u88 u89 u90 u91 u92 u93 u94 u95 u96 u97 u98 u99 u100 u101 u102 u103 u104 u105 u106 u107 u108 u109 u110 u111 u112 u113 u114 u115 u116 u117 u118 u119 u120 u121 u122 u123 u124 u125 u126 u127 u128 u129 u130 u131 u132 u133 u134 u135 u136 u137 u138 u139 u140 u141 u142 u143 u144 u145 u146 u147 u148 u149 u150 u151 u152 u153 u154 u155 u156 u157 u158 u159 u160 u161 u162 u163 u164 u165 u166 u167 u168 u169 u170 u171 u172 u173 u174 u175 u176 u177 u178 u179 u180 u181 u182 u183 u184 u185 u186 u187 u188 u189 u190 u191 u192 u193 u194 u195 u196 u197 u198 u199 u200 u201 u202 u203 u204 u205 u206 u207 u208 u209 u210 u211 u212 u213 u214 u215 u216 u217 u218 u219 u220 u221 u222 u223 u224 u225 u226 u227 u228 u229 u230 u231 u232 u233 u234 u235 u236 u237 u238 u239 u240 u241 u242 u243 u244 u245 u246 u247 u248 u249 u250 u251 u252 u253 u254 u255 u256 u257 u258 u259 u260 u261 u262 u263 u264 u265 u266 u267 u268 u269 u270 u271 u272 u273 u274 u275 u276 u277 u278 u279 u280 u281 u282 u283 u284 u285 u286 u287 u288 u289 u290 u291 u292 u293 u294 u295 u296 u297 u298 u299 u300 u301 u302 u303 u304 u305 u306 u307 u308 u309 u310 u311 u312 u313 u314 u315 u316 u317 u318 : Value) :
    Code.wp Try.prog ba28 (bodyPost Try.prog Try.f4 fun e w' => e = .returned (.bool true) ∧ Below w0.heap.size w0 w') ⟨#[.slice A bs.length c, u1, u2, .slice AL L.length cL, .int .i64 a, .int .i64 b, .int .i64 best, .bool ok, u8, u9, .int .i64 first, u11, u12, u13, .int .i64 index, u15, u16, u17, .int .i64 fees, u19, u20, u21, .int .i64 order, u23, u24, u25, .int .i64 scale, u27, u28, u29, u30, u31, u32, u33, u34, u35, u36, u37, u38, u39, u40, u41, u42, u43, u44, u45, u46, u47, u48, u49, u50, u51, u52, u53, u54, u55, u56, u57, u58, u59, u60, u61, u62, u63, u64, u65, u66, u67, u68, u69, u70, u71, u72, u73, u74, u75, u76, u77, u78, u79, u80, u81, u82, u83, u84, u85, u86, u87, u88, u89, u90, u91, u92, u93, u94, u95, u96, u97, u98, u99, u100, u101, u102, u103, u104, u105, u106, u107, u108, u109, u110, u111, u112, u113, u114, u115, u116, u117, u118, u119, u120, u121, u122, u123, u124, u125, u126, u127, u128, u129, u130, u131, u132, u133, u134, u135, u136, u137, u138, u139, u140, u141, u142, u143, u144, u145, u146, u147, u148, u149, u150, u151, u152, u153, u154, u155, u156, u157, u158, u159, u160, u161, u162, u163, u164, u165, u166, u167, u168, u169, u170, u171, u172, u173, u174, u175, u176, u177, u178, u179, u180, u181, u182, u183, u184, u185, u186, u187, u188, u189, u190, u191, u192, u193, u194, u195, u196, u197, u198, u199, u200, u201, u202, u203, u204, u205, u206, u207, u208, u209, u210, u211, u212, u213, u214, u215, u216, u217, u218, u219, u220, u221, u222, u223, u224, u225, u226, u227, u228, u229, u230, u231, u232, u233, u234, u235, u236, u237, u238, u239, u240, u241, u242, u243, u244, u245, u246, u247, u248, u249, u250, u251, u252, u253, u254, u255, u256, u257, u258, u259, u260, u261, u262, u263, u264, u265, u266, u267, u268, u269, u270, u271, u272, u273, u274, u275, u276, u277, u278, u279, u280, u281, u282, u283, u284, u285, u286, u287, u288, u289, u290, u291, u292, u293, u294, u295, u296, u297, u298, u299, u300, u301, u302, u303, u304, u305, u306, u307, u308, u309, u310, u311, u312, u313, u314, u315, u316, u317, u318], []⟩ w := by
  conv => arg 2; whnf
  go_wp2_with fail
  refine (drawLn_c A bs c _ rc hb (by omega)).mono ?_
  rintro e w1 ⟨A0, c0, xs, rfl, hx, rx, hA0, b1⟩
  replace rc := rc.below b1 (Nat.le_refl _)
  replace hR := hR.below b1 (Nat.le_refl _)
  have HB1 := bUp HB b1 HB.size
  clear b1 HB
  go_wp2_with fail
  refine (implLine_c A0 xs c0 _ rx (by omega)).mono ?_
  rintro e w2 ⟨G1, Gc1, G2, Gc2, G3, Gc3, rfl, o1, o2, o3, _, _, _, b2⟩
  obtain ⟨six, hsix⟩ := nameB (lineB xs)
  obtain ⟨GP, hGP⟩ := nameB (laP xs)
  obtain ⟨GW, hGW⟩ := nameB (laW xs)
  obtain ⟨GF, hGF⟩ := nameB (laN xs)
  have HSX : Hid (six = true → armB GP GW GF = true) := Lib.hid fun h => by rw [← hGP, ← hGW, ← hGF]; exact line_is (by rw [hsix]; exact h)
  have lens := @la_lens xs
  have CS := fun w h hA => specLine_c A0 xs c0 w h hA (by omega)
  rw [hsix, hGP, hGW, hGF] at CS
  rw [hGP, hGW, hGF] at lens
  rw [hGP] at o1
  rw [hGW] at o2
  rw [hGF] at o3
  rw [hsix, hGP, hGW, hGF]
  have HCS := Lib.hid CS
  clear CS hsix hGP hGW hGF
  have g : RdM w2 G1 GP G2 GW G3 GF := ⟨o1.rd, o2.rd, o3.rd, by omega, by omega, by omega⟩
  clear o1 o2 o3
  replace rx := rx.below b2 (Nat.le_refl _)
  replace rc := rc.below b2 (Nat.le_refl _)
  replace hR := hR.below b2 (Nat.le_refl _)
  have HB2 := bUp HB1 b2 HB1.size
  have hs2 := b2.size
  clear HB1 b2
  have blB : Below w2.heap.size w2 (w2.alloc (.cells #[.slice G1 GP.length Gc1, .slice G2 GW.length Gc2, .slice G3 GF.length Gc3] 28)) := (Below.refl _ _).alloc (Nat.le_refl _) _
  have bx := Bx3.new w2 (.slice G1 GP.length Gc1) (.slice G2 GW.length Gc2) (.slice G3 GF.length Gc3) 28
  replace g := g.below blB (Nat.le_refl _)
  replace rx := rx.below blB (Nat.le_refl _)
  replace rc := rc.below blB (Nat.le_refl _)
  replace hR := hR.below blB (Nat.le_refl _)
  have HB3 := bUp HB2 blB HB2.size
  have hz2 : (w2.alloc (.cells #[.slice G1 GP.length Gc1, .slice G2 GW.length Gc2, .slice G3 GF.length Gc3] 28)).heap.size = w2.heap.size + 1 := by simp
  have hA3 : Hid (∀ ad, A0 = some ad → ad.block < (w2.alloc (.cells #[.slice G1 GP.length Gc1, .slice G2 GW.length Gc2, .slice G3 GF.length Gc3] 28)).heap.size) := Lib.hid fun ad e => by have := hA0 ad e; omega
  clear HB2 blB hs2 hA0 hz2
  go_wp2_with fail
  generalize w2.alloc (.cells #[.slice G1 GP.length Gc1, .slice G2 GW.length Gc2, .slice G3 GF.length Gc3] 28) = v2 at *
  obtain ⟨gm, hgm⟩ : ∃ gm, gm = w2.heap.size := ⟨_, rfl⟩
  rw [← hgm] at bx ⊢
  clear hgm
  refine (HCS.out _ rx hA3.out).mono ?_
  rintro e w3 ⟨S1, Sc1, S2, Sc2, S3, Sc3, rfl, o1, o2, o3, _, _, _, b3⟩
  clear HCS rx hA3
  have s : RdM w3 S1 GP S2 GW S3 GF := ⟨o1.rd, o2.rd, o3.rd, by omega, by omega, by omega⟩
  clear o1 o2 o3
  replace g := g.below b3 (Nat.le_refl _)
  replace rc := rc.below b3 (Nat.le_refl _)
  replace hR := hR.below b3 (Nat.le_refl _)
  replace bx := bx.below b3
  have HB4 := bUp HB3 b3 HB3.size
  clear HB3 b3
  have blB : Below w3.heap.size w3 (w3.alloc (.cells #[.slice S1 GP.length Sc1, .slice S2 GW.length Sc2, .slice S3 GF.length Sc3] 28)) := (Below.refl _ _).alloc (Nat.le_refl _) _
  have by_ := Bx3.new w3 (.slice S1 GP.length Sc1) (.slice S2 GW.length Sc2) (.slice S3 GF.length Sc3) 28
  replace g := g.below blB (Nat.le_refl _)
  replace s := s.below blB (Nat.le_refl _)
  replace rc := rc.below blB (Nat.le_refl _)
  replace hR := hR.below blB (Nat.le_refl _)
  replace bx := bx.below blB
  have HB5 := bUp HB4 blB HB4.size
  clear HB4 blB
  go_upto_region 31 with fail
  generalize w3.alloc (.cells #[.slice S1 GP.length Sc1, .slice S2 GW.length Sc2, .slice S3 GF.length Sc3] 28) = v3 at *
  obtain ⟨gn, hgn⟩ : ∃ gn, gn = w3.heap.size := ⟨_, rfl⟩
  rw [← hgn] at by_ ⊢
  clear hgn
  have e6 : (six != six) = false := by cases six <;> rfl
  obtain ⟨k0, k1, k2, k3⟩ := id bx
  obtain ⟨y0, y1, y2, y3⟩ := id by_
  go_wp2_with fail
  refine (rTree_same G1 G2 S1 S2 GP GW Gc1 Gc2 Sc1 Sc2 _ g.r1 g.r2 s.r1 s.r2 (by omega) (by omega)).mono ?_
  rintro e w4 ⟨rfl, b4⟩
  clear k0 k1 k2 k3 y0 y1 y2 y3
  replace g := g.below b4 (Nat.le_refl _)
  replace s := s.below b4 (Nat.le_refl _)
  replace rc := rc.below b4 (Nat.le_refl _)
  replace hR := hR.below b4 (Nat.le_refl _)
  replace bx := bx.below b4
  replace by_ := by_.below b4
  have HB6 := bUp HB5 b4 HB5.size
  clear HB5 b4
  obtain ⟨k0, k1, k2, k3⟩ := id bx
  obtain ⟨y0, y1, y2, y3⟩ := id by_
  go_wp2_with fail
  refine (rInts_same G3 S3 GF _ _ Gc3 Sc3 _ rfl rfl g.r3 s.r3 (by omega)).mono ?_
  rintro e w5 ⟨rfl, b5⟩
  clear k0 k1 k2 k3 y0 y1 y2 y3 s by_ e6
  replace g := g.below b5 (Nat.le_refl _)
  replace rc := rc.below b5 (Nat.le_refl _)
  replace hR := hR.below b5 (Nat.le_refl _)
  replace bx := bx.below b5
  have HB7 := bUp HB6 b5 HB6.size
  clear HB6 b5
  go_wp2_with fail
  refine (drawIa_c A bs c _ rc hb (by omega)).mono ?_
  rintro e w6 ⟨D1, Dc1, DP, D2, Dc2, DW, D3, Dc3, DF, rfl, hDP, hDW, hDF, d, b6⟩
  replace g := g.below b6 (Nat.le_refl _)
  replace hR := hR.below b6 (Nat.le_refl _)
  replace bx := bx.below b6
  have HB8 := bUp HB7 b6 HB7.size
  clear HB7 b6 rc hb hl
  have blB : Below w6.heap.size w6 (w6.alloc (.cells #[.slice D1 DP.length Dc1, .slice D2 DW.length Dc2, .slice D3 DF.length Dc3] 28)) := (Below.refl _ _).alloc (Nat.le_refl _) _
  have by_ := Bx3.new w6 (.slice D1 DP.length Dc1) (.slice D2 DW.length Dc2) (.slice D3 DF.length Dc3) 28
  replace g := g.below blB (Nat.le_refl _)
  replace d := d.below blB (Nat.le_refl _)
  replace hR := hR.below blB (Nat.le_refl _)
  replace bx := bx.below blB
  have HB9 := bUp HB8 blB HB8.size
  clear HB8 blB
  go_upto_region 34 with fail
  rename_i K1 hK1 K0 hK0
  replace hK1 := Lib.hid hK1
  generalize w6.alloc (.cells #[.slice D1 DP.length Dc1, .slice D2 DW.length Dc2, .slice D3 DF.length Dc3] 28) = v6 at *
  obtain ⟨gd, hgd⟩ : ∃ gd, gd = w6.heap.size := ⟨_, rfl⟩
  rw [← hgd] at by_ ⊢
  clear hgd
  obtain ⟨k0, k1, k2, k3⟩ := id bx
  obtain ⟨y0, y1, y2, y3⟩ := id by_
  obtain ⟨q, hq⟩ := nameB (armB DP DW DF)
  have CI := fun w h => implArm_is D1 DP Dc1 D2 DW Dc2 D3 DF Dc3 q hq w h
  have CSp := fun w h => specArm_c D1 DP Dc1 D2 DW Dc2 D3 DF Dc3 w h
  rw [hq] at CSp
  have HCI := Lib.hid CI
  have HCS := Lib.hid CSp
  have eq_ : (q != q) = false := by cases q <;> rfl
  clear CI CSp hq
  cases six
  · have hd1 : Below v6.heap.size v6 v6.drew := Below.drew (Below.refl _ _)
    have SK1 : Hid (∀ w', Below v6.heap.size v6 w' → w'.cell? ⟨gm, 0, none⟩ = some (.slice G1 GP.length Gc1) ∧ w'.cell? ⟨gm, 1, none⟩ = some (.slice G2 GW.length Gc2) ∧ w'.cell? ⟨gm, 2, none⟩ = some (.slice G3 GF.length Gc3) ∧ w'.cell? ⟨gd, 0, none⟩ = some (.slice D1 DP.length Dc1) ∧ w'.cell? ⟨gd, 1, none⟩ = some (.slice D2 DW.length Dc2) ∧ w'.cell? ⟨gd, 2, none⟩ = some (.slice D3 DF.length Dc3)) := Lib.hid fun w' HV => ⟨(HV.cell (p := ⟨gm, 0, none⟩) k3).trans k0, (HV.cell (p := ⟨gm, 1, none⟩) k3).trans k1, (HV.cell (p := ⟨gm, 2, none⟩) k3).trans k2, (HV.cell (p := ⟨gd, 0, none⟩) y3).trans y0, (HV.cell (p := ⟨gd, 1, none⟩) y3).trans y1, (HV.cell (p := ⟨gd, 2, none⟩) y3).trans y2⟩
    clear k0 k1 k2 y0 y1 y2
    have hS1_0 := SK1.out _ hd1
    refine tamed_region (S := fun w' => w'.cell? ⟨gm, 0, none⟩ = some (.slice G1 GP.length Gc1) ∧ w'.cell? ⟨gm, 1, none⟩ = some (.slice G2 GW.length Gc2) ∧ w'.cell? ⟨gm, 2, none⟩ = some (.slice G3 GF.length Gc3) ∧ w'.cell? ⟨gd, 0, none⟩ = some (.slice D1 DP.length Dc1) ∧ w'.cell? ⟨gd, 1, none⟩ = some (.slice D2 DW.length Dc2) ∧ w'.cell? ⟨gd, 2, none⟩ = some (.slice D3 DF.length Dc3)) (fun _ => false) (by kernel_rfl) ?_
    refine tame (k := 0) ?_ rfl (by kernel_rfl) (by kernel_rfl) (by kernel_rfl) (by kernel_rfl) (fun _ _ _ h => h) (by kernel_rfl) hS1_0 (fun v hv => ?_) ?_
    rotate_left
    · (obtain ⟨k1, k2, k3, k4, k5, k6⟩ := hv; go_simp; all_goals rfl)
    simp only [Act.put, List.setIfInBounds_toArray]
    refine tame (k := 2) ?_ rfl (by kernel_rfl) (by kernel_rfl) (by kernel_rfl) (by kernel_rfl) (fun _ _ _ h => h) (by kernel_rfl) hS1_0 (fun v hv => ?_) ?_
    rotate_left
    · (obtain ⟨k1, k2, k3, k4, k5, k6⟩ := hv; go_simp; all_goals rfl)
    simp only [Act.put]
    refine tame_one (k := 1) (by kernel_rfl) rfl (by kernel_rfl) ?_
    go_simp
    refine (HCI.out _ (d.below hd1 (Nat.le_refl _))).mono ?_
    rintro e w7 ⟨rfl, b7⟩
    have hd1_1 := bUp hd1 b7 (Nat.le_refl _)
    have hS1_1 := Lib.hid (SK1.out _ hd1_1)
    refine ⟨by first | exact hS1_1 | exact Hid.out hS1_1, ?_⟩
    refine tame_one (k := 3) (by kernel_rfl) rfl (by kernel_rfl) ?_
    go_simp
    refine (HCS.out _ (d.below hd1_1 (Nat.le_refl _))).mono ?_
    rintro e w8 ⟨rfl, b8⟩
    have hd1_2 := bUp hd1_1 b8 hd1_1.size
    have hS1_2 := Lib.hid (SK1.out _ hd1_2)
    refine ⟨by first | exact hS1_2 | exact Hid.out hS1_2, ?_⟩
    refine tame_one (k := 4) (by kernel_rfl) rfl (by kernel_rfl) ?_
    go_simp
    refine ⟨by first | exact hS1_2 | exact Hid.out hS1_2, ?_⟩
    refine tame_one (k := 5) (by kernel_rfl) rfl (by kernel_rfl) ?_
    go_simp
    refine ⟨by first | exact hS1_2 | exact Hid.out hS1_2, ?_⟩
    refine tame_one (k := 6) (by kernel_rfl) rfl (by kernel_rfl) ?_
    go_simp
    refine ⟨by first | exact hS1_2 | exact Hid.out hS1_2, ?_⟩
    refine tame_one (k := 7) (by kernel_rfl) rfl (by kernel_rfl) ?_
    go_simp
    refine ⟨by first | exact hS1_2 | exact Hid.out hS1_2, ?_⟩
    refine tame_no (k := 8) rfl (by kernel_rfl) (by kernel_rfl) (by kernel_rfl) (fun _ _ _ h => h) (by kernel_rfl) ?_
    simp only [Act.put]
    refine tame_no (k := 9) rfl (by kernel_rfl) (by kernel_rfl) (by kernel_rfl) (fun _ _ _ h => h) (by kernel_rfl) ?_
    simp only [Act.put]
    refine tame_no (k := 10) rfl (by kernel_rfl) (by kernel_rfl) (by kernel_rfl) (fun _ _ _ h => h) (by kernel_rfl) ?_
    simp only [Act.put]
    refine tame_one (k := 11) (by kernel_rfl) rfl (by kernel_rfl) ?_
    go_simp
    refine ⟨by first | exact hS1_2 | exact Hid.out hS1_2, ?_⟩
    refine tame_one (k := 12) (by kernel_rfl) rfl (by kernel_rfl) ?_
    go_simp
    refine ⟨by first | exact hS1_2 | exact Hid.out hS1_2, ?_⟩
    refine tame_end (by kernel_rfl) ?_
    go_wp2_with fail
    refine hK1.out _ _ ?_
    exact baTail AL L cL a b best first index fees order scale ok hLc HF HS w0 _ (bUp HB9 hd1_2 HB9.size) (hR.below hd1_2 (Nat.le_refl _)) _ _ _ _ _ _ _ _ _ _ _ _ _ _ _ _ _ _ _ _ _ _ _ _ _ _ _ _ _ _ _ _ _ _ _ _ _ _ _ _ _ _ _ _ _ _ _ _ _ _ _ _ _ _ _ _ _ _ _ _ _ _ _ _ _ _ _ _ _ _ _ _ _ _ _ _ _ _ _ _ _ _ _ _ _ _ _ _ _ _ _ _ _ _ _ _ _ _ _ _ _ _ _ _ _ _ _ _ _ _ _ _ _ _ _ _ _ _ _ _ _ _ _ _ _ _ _ _ _ _ _ _ _ _ _ _ _ _ _ _ _ _ _ _ _ _ _ _ _ _ _ _ _ _ _ _ _ _ _ _ _ _ _ _ _ _ _ _ _ _ _ _ _ _ _ _ _ _ _ _ _ _ _ _ _ _ _ _ _ _ _ _ _ _ _ _ _ _ _ _ _ _ _ _ _ _ _ _ _ _ _ _ _ _ _ _ _ _ _ _ _ _ _ _ _ _ _ _ _ _ _ _ _ _ _ _ _ _ _ _ _ _ _ _ _ _ _ _ _ _ _ _ _ _ _ _ _ _ _ _ _ _ _ _ _ _ _ _ _ _ _ _ _ _ _ _ _ _ _ _ _ _ _ _ _ _ _ _ _ _ _ _ _ _ _ _ _ _ _ _ _ _ _ _ _ _ _ _ _
  · have HCG := Lib.hid fun w h => implArm_is G1 GP Gc1 G2 GW Gc2 G3 GF Gc3 true (HSX.out rfl) w h
    have hd2 : Below v6.heap.size v6 v6.drew := Below.drew (Below.refl _ _)
    have SK2 : Hid (∀ w', Below v6.heap.size v6 w' → w'.cell? ⟨gm, 0, none⟩ = some (.slice G1 GP.length Gc1) ∧ w'.cell? ⟨gm, 1, none⟩ = some (.slice G2 GW.length Gc2) ∧ w'.cell? ⟨gm, 2, none⟩ = some (.slice G3 GF.length Gc3) ∧ w'.cell? ⟨gd, 0, none⟩ = some (.slice D1 DP.length Dc1) ∧ w'.cell? ⟨gd, 1, none⟩ = some (.slice D2 DW.length Dc2) ∧ w'.cell? ⟨gd, 2, none⟩ = some (.slice D3 DF.length Dc3)) := Lib.hid fun w' HV => ⟨(HV.cell (p := ⟨gm, 0, none⟩) k3).trans k0, (HV.cell (p := ⟨gm, 1, none⟩) k3).trans k1, (HV.cell (p := ⟨gm, 2, none⟩) k3).trans k2, (HV.cell (p := ⟨gd, 0, none⟩) y3).trans y0, (HV.cell (p := ⟨gd, 1, none⟩) y3).trans y1, (HV.cell (p := ⟨gd, 2, none⟩) y3).trans y2⟩
    clear k0 k1 k2 y0 y1 y2
    have hS2_0 := SK2.out _ hd2
    refine tamed_region (S := fun w' => w'.cell? ⟨gm, 0, none⟩ = some (.slice G1 GP.length Gc1) ∧ w'.cell? ⟨gm, 1, none⟩ = some (.slice G2 GW.length Gc2) ∧ w'.cell? ⟨gm, 2, none⟩ = some (.slice G3 GF.length Gc3) ∧ w'.cell? ⟨gd, 0, none⟩ = some (.slice D1 DP.length Dc1) ∧ w'.cell? ⟨gd, 1, none⟩ = some (.slice D2 DW.length Dc2) ∧ w'.cell? ⟨gd, 2, none⟩ = some (.slice D3 DF.length Dc3)) (fun _ => false) (by kernel_rfl) ?_
    refine tame (k := 0) ?_ rfl (by kernel_rfl) (by kernel_rfl) (by kernel_rfl) (by kernel_rfl) (fun _ _ _ h => h) (by kernel_rfl) hS2_0 (fun v hv => ?_) ?_
    rotate_left
    · (obtain ⟨k1, k2, k3, k4, k5, k6⟩ := hv; go_simp; all_goals rfl)
    simp only [Act.put, List.setIfInBounds_toArray]
    refine tame (k := 2) ?_ rfl (by kernel_rfl) (by kernel_rfl) (by kernel_rfl) (by kernel_rfl) (fun _ _ _ h => h) (by kernel_rfl) hS2_0 (fun v hv => ?_) ?_
    rotate_left
    · (obtain ⟨k1, k2, k3, k4, k5, k6⟩ := hv; go_simp; all_goals rfl)
    simp only [Act.put]
    refine tame_one (k := 1) (by kernel_rfl) rfl (by kernel_rfl) ?_
    go_simp
    refine (HCI.out _ (d.below hd2 (Nat.le_refl _))).mono ?_
    rintro e w7 ⟨rfl, b7⟩
    have hd2_1 := bUp hd2 b7 (Nat.le_refl _)
    have hS2_1 := Lib.hid (SK2.out _ hd2_1)
    refine ⟨by first | exact hS2_1 | exact Hid.out hS2_1, ?_⟩
    refine tame_one (k := 3) (by kernel_rfl) rfl (by kernel_rfl) ?_
    go_simp
    refine (HCS.out _ (d.below hd2_1 (Nat.le_refl _))).mono ?_
    rintro e w8 ⟨rfl, b8⟩
    have hd2_2 := bUp hd2_1 b8 hd2_1.size
    have hS2_2 := Lib.hid (SK2.out _ hd2_2)
    refine ⟨by first | exact hS2_2 | exact Hid.out hS2_2, ?_⟩
    refine tame_one (k := 4) (by kernel_rfl) rfl (by kernel_rfl) ?_
    go_simp
    refine ⟨by first | exact hS2_2 | exact Hid.out hS2_2, ?_⟩
    refine tame_one (k := 5) (by kernel_rfl) rfl (by kernel_rfl) ?_
    go_simp
    refine ⟨by first | exact hS2_2 | exact Hid.out hS2_2, ?_⟩
    refine tame_one (k := 6) (by kernel_rfl) rfl (by kernel_rfl) ?_
    go_simp
    refine ⟨by first | exact hS2_2 | exact Hid.out hS2_2, ?_⟩
    refine tame_one (k := 7) (by kernel_rfl) rfl (by kernel_rfl) ?_
    go_simp
    refine ⟨by first | exact hS2_2 | exact Hid.out hS2_2, ?_⟩
    have hS2_2o := Hid.out hS2_2
    refine tame (k := 8) ?_ rfl (by kernel_rfl) (by kernel_rfl) (by kernel_rfl) (by kernel_rfl) (fun _ _ _ h => h) (by kernel_rfl) hS2_2o (fun v hv => ?_) ?_
    rotate_left
    · (obtain ⟨k1, k2, k3, k4, k5, k6⟩ := hv; go_simp; all_goals rfl)
    simp only [Act.put]
    refine tame_one (k := 9) (by kernel_rfl) rfl (by kernel_rfl) ?_
    go_simp
    refine (HCG.out _ (g.below hd2_2 (Nat.le_refl _))).mono ?_
    rintro e w9 ⟨rfl, b9⟩
    have hd2_3 := bUp hd2_2 b9 hd2_2.size
    have hS2_3 := Lib.hid (SK2.out _ hd2_3)
    refine ⟨by first | exact hS2_3 | exact Hid.out hS2_3, ?_⟩
    refine tame_one (k := 10) (by kernel_rfl) rfl (by kernel_rfl) ?_
    go_simp
    refine ⟨by first | exact hS2_3 | exact Hid.out hS2_3, ?_⟩
    refine tame_one (k := 11) (by kernel_rfl) rfl (by kernel_rfl) ?_
    go_simp
    refine ⟨by first | exact hS2_3 | exact Hid.out hS2_3, ?_⟩
    refine tame_one (k := 12) (by kernel_rfl) rfl (by kernel_rfl) ?_
    go_simp
    refine ⟨by first | exact hS2_3 | exact Hid.out hS2_3, ?_⟩
    refine tame_end (by kernel_rfl) ?_
    go_wp2_with fail
    refine hK1.out _ _ ?_
    exact baTail AL L cL a b best first index fees order scale ok hLc HF HS w0 _ (bUp HB9 hd2_3 HB9.size) (hR.below hd2_3 (Nat.le_refl _)) _ _ _ _ _ _ _ _ _ _ _ _ _ _ _ _ _ _ _ _ _ _ _ _ _ _ _ _ _ _ _ _ _ _ _ _ _ _ _ _ _ _ _ _ _ _ _ _ _ _ _ _ _ _ _ _ _ _ _ _ _ _ _ _ _ _ _ _ _ _ _ _ _ _ _ _ _ _ _ _ _ _ _ _ _ _ _ _ _ _ _ _ _ _ _ _ _ _ _ _ _ _ _ _ _ _ _ _ _ _ _ _ _ _ _ _ _ _ _ _ _ _ _ _ _ _ _ _ _ _ _ _ _ _ _ _ _ _ _ _ _ _ _ _ _ _ _ _ _ _ _ _ _ _ _ _ _ _ _ _ _ _ _ _ _ _ _ _ _ _ _ _ _ _ _ _ _ _ _ _ _ _ _ _ _ _ _ _ _ _ _ _ _ _ _ _ _ _ _ _ _ _ _ _ _ _ _ _ _ _ _ _ _ _ _ _ _ _ _ _ _ _ _ _ _ _ _ _ _ _ _ _ _ _ _ _ _ _ _ _ _ _ _ _ _ _ _ _ _ _ _ _ _ _ _ _ _ _ _ _ _ _ _ _ _ _ _ _ _ _ _ _ _ _ _ _ _ _ _ _ _ _ _ _ _ _ _ _ _ _ _ _ _ _ _ _ _ _ _ _ _ _ _ _ _ _ _ _ _
set_option maxRecDepth 100000 in
set_option maxHeartbeats 16000000 in
theorem lawBa (A : Option Addr) (bs : List Int) (c : Nat) (w : World) (rc : Rd w A (u8s bs)) (hb : ByOk bs) (hlen : bs.length ≤ 9223372036854775807) (_hc : bs.length ≤ c) :
    Calls Try.prog 4 #[.slice A bs.length c] w fun e w' => e = .returned (.bool true) ∧ Below w.heap.size w w' := by
  by_cases hbig : 65536 < (bs.length : Int)
  · have C := rBigB_c A bs c w hlen
    rw [decide_eq_true hbig] at C
    go_enter Try.func4, Try.ntmps4
    go_wp2_with fail
    refine C.mono ?_
    rintro e w' ⟨rfl, rfl⟩
    go_wp2
    go_ret
    exact ⟨rfl, Below.refl _ _⟩
  have hl : bs.length ≤ 65536 := by omega
  have C := rBigB_c A bs c w hlen
  rw [decide_eq_false hbig] at C
  clear hbig
  go_enter Try.func4, Try.ntmps4
  go_wp2_with fail
  refine C.mono ?_
  rintro e w' ⟨rfl, rfl⟩
  clear C
  go_wp2_with fail
  refine (drawBv_c A bs c w rc hb (by omega)).mono ?_
  rintro e w1 ⟨AL, cL, L, a, b, rfl, ⟨hL4, hLc⟩, hs, h, b1⟩
  replace rc := rc.below b1 (Nat.le_refl _)
  have HB1 := b1
  clear b1
  have HS : Hid (SzMs L) := Lib.hid ⟨by omega, fun k hk => ⟨by have := (hs k hk).1; omega, by have := (hs k hk).2.1; omega, by have := (hs k hk).2.2; omega⟩⟩
  have HF : Hid (BaIf L a b (bvV L a b) (fpV L a b) (plV L a b (idxN L a b) false) (plV L a b (feeN L) false) (plV L a b (idxN L a b) true) (scV L a b) (armsB L a b)) := Lib.hid ba_if
  clear hs hL4
  have C00 := Lib.hid fun w h => implBv_c AL L cL a b w h HS.out
  have C01 := Lib.hid fun w h => specBv_c AL L cL a b w h HS.out
  have C10 := Lib.hid fun w h => implFp_c AL L cL a b w h HS.out
  have C11 := Lib.hid fun w h => specFp_c AL L cL a b w h HS.out
  have C20 := Lib.hid fun w h => implIv_c AL L cL a b w h HS.out
  have C21 := Lib.hid fun w h => specIv_c AL L cL a b w h HS.out
  have C30 := Lib.hid fun w h => implFv_c AL L cL a b w h HS.out
  have C31 := Lib.hid fun w h => specFv_c AL L cL a b w h HS.out
  have C40 := Lib.hid fun w h => implOv_c AL L cL a b w h HS.out
  have C41 := Lib.hid fun w h => specOv_c AL L cL a b w h HS.out
  have C50 := Lib.hid fun w h => implSc_c AL L cL a b w h HS.out
  have C51 := Lib.hid fun w h => specSc_c AL L cL a b w h HS.out
  generalize bvV L a b = v0 at *
  generalize fpV L a b = v1 at *
  generalize plV L a b (idxN L a b) false = v2 at *
  generalize plV L a b (feeN L) false = v3 at *
  generalize plV L a b (idxN L a b) true = v4 at *
  generalize scV L a b = v5 at *
  generalize armsB L a b = ok at *
  go_wp2_with fail
  refine (C00.out _ h).mono ?_
  rintro e w2 ⟨rfl, bq⟩
  clear C00
  replace rc := rc.below bq (Nat.le_refl _)
  replace h := h.below bq (Nat.le_refl _)
  have HB2 := bUp HB1 bq HB1.size
  clear HB1
  clear bq
  go_wp2_with fail
  refine (C01.out _ h).mono ?_
  rintro e w3 ⟨rfl, bq⟩
  clear C01
  replace rc := rc.below bq (Nat.le_refl _)
  replace h := h.below bq (Nat.le_refl _)
  have HB3 := bUp HB2 bq HB2.size
  clear HB2
  clear bq
  go_wp2_with fail
  refine (C10.out _ h).mono ?_
  rintro e w4 ⟨rfl, bq⟩
  clear C10
  replace rc := rc.below bq (Nat.le_refl _)
  replace h := h.below bq (Nat.le_refl _)
  have HB4 := bUp HB3 bq HB3.size
  clear HB3
  clear bq
  go_wp2_with fail
  refine (C11.out _ h).mono ?_
  rintro e w5 ⟨rfl, bq⟩
  clear C11
  replace rc := rc.below bq (Nat.le_refl _)
  replace h := h.below bq (Nat.le_refl _)
  have HB5 := bUp HB4 bq HB4.size
  clear HB4
  clear bq
  go_wp2_with fail
  refine (C20.out _ h).mono ?_
  rintro e w6 ⟨rfl, bq⟩
  clear C20
  replace rc := rc.below bq (Nat.le_refl _)
  replace h := h.below bq (Nat.le_refl _)
  have HB6 := bUp HB5 bq HB5.size
  clear HB5
  clear bq
  go_wp2_with fail
  refine (C21.out _ h).mono ?_
  rintro e w7 ⟨rfl, bq⟩
  clear C21
  replace rc := rc.below bq (Nat.le_refl _)
  replace h := h.below bq (Nat.le_refl _)
  have HB7 := bUp HB6 bq HB6.size
  clear HB6
  clear bq
  go_wp2_with fail
  refine (C30.out _ h).mono ?_
  rintro e w8 ⟨rfl, bq⟩
  clear C30
  replace rc := rc.below bq (Nat.le_refl _)
  replace h := h.below bq (Nat.le_refl _)
  have HB8 := bUp HB7 bq HB7.size
  clear HB7
  clear bq
  go_wp2_with fail
  refine (C31.out _ h).mono ?_
  rintro e w9 ⟨rfl, bq⟩
  clear C31
  replace rc := rc.below bq (Nat.le_refl _)
  replace h := h.below bq (Nat.le_refl _)
  have HB9 := bUp HB8 bq HB8.size
  clear HB8
  clear bq
  go_wp2_with fail
  refine (C40.out _ h).mono ?_
  rintro e w10 ⟨rfl, bq⟩
  clear C40
  replace rc := rc.below bq (Nat.le_refl _)
  replace h := h.below bq (Nat.le_refl _)
  have HB10 := bUp HB9 bq HB9.size
  clear HB9
  clear bq
  go_wp2_with fail
  refine (C41.out _ h).mono ?_
  rintro e w11 ⟨rfl, bq⟩
  clear C41
  replace rc := rc.below bq (Nat.le_refl _)
  replace h := h.below bq (Nat.le_refl _)
  have HB11 := bUp HB10 bq HB10.size
  clear HB10
  clear bq
  go_wp2_with fail
  refine (C50.out _ h).mono ?_
  rintro e w12 ⟨rfl, bq⟩
  clear C50
  replace rc := rc.below bq (Nat.le_refl _)
  replace h := h.below bq (Nat.le_refl _)
  have HB12 := bUp HB11 bq HB11.size
  clear HB11
  clear bq
  go_wp2_with fail
  refine (C51.out _ h).mono ?_
  rintro e w13 ⟨rfl, bq⟩
  clear C51
  replace rc := rc.below bq (Nat.le_refl _)
  replace h := h.below bq (Nat.le_refl _)
  have HB13 := bUp HB12 bq HB12.size
  clear HB12
  clear bq
  go_upto_region 26 with fail
  rename_i K1 hK1 K0 hK0
  replace hK1 := Lib.hid hK1
  go_wp2_with fail
  refine hK1.out _ _ ?_
  exact baMid A bs c AL L cL a b v0 v1 v2 v3 v4 v5 ok hLc HF HS w _ rc hb hl HB13 h _ _ _ _ _ _ _ _ _ _ _ _ _ _ _ _ _ _ _ _ _ _ _ _ _ _ _ _ _ _ _ _ _ _ _ _ _ _ _ _ _ _ _ _ _ _ _ _ _ _ _ _ _ _ _ _ _ _ _ _ _ _ _ _ _ _ _ _ _ _ _ _ _ _ _ _ _ _ _ _ _ _ _ _ _ _ _ _ _ _ _ _ _ _ _ _ _ _ _ _ _ _ _ _ _ _ _ _ _ _ _ _ _ _ _ _ _ _ _ _ _ _ _ _ _ _ _ _ _ _ _ _ _ _ _ _ _ _ _ _ _ _ _ _ _ _ _ _ _ _ _ _ _ _ _ _ _ _ _ _ _ _ _ _ _ _ _ _ _ _ _ _ _ _ _ _ _ _ _ _ _ _ _ _ _ _ _ _ _ _ _ _ _ _ _ _ _ _ _ _ _ _ _ _ _ _ _ _ _ _ _ _ _ _ _ _ _ _ _ _ _ _ _ _ _ _ _ _ _ _ _ _ _ _ _ _ _ _ _ _ _ _ _ _ _ _ _ _ _ _ _ _ _ _ _ _ _ _ _ _ _ _ _ _ _ _ _ _ _ _ _ _ _ _ _ _ _ _ _ _ _ _ _ _ _ _ _ _ _ _ _ _ _ _ _ _ _ _ _ _ _ _ _ _ _ _ _ _

end Go.Proofs.Ytfobjkdkjlbkfaa
