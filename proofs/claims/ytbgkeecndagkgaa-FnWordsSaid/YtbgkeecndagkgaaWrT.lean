/- The tail of the law FnWords, behind the comparisons: all lists of throws. (Written by gen_wrt.py.) -/
import Derived.Test.YtbgkeecndagkgaaWrH
import Derived.Test.YtbgkeecndagkgaaWrN
import Derived.Test.YtbgkeecndagkgaaVwE
namespace Go.Proofs.Ytbgkeecndagkgaa
open Go.RowKit

noncomputable def wr23 : Code := ((Try.f3.body.bind (restFrom 23)).getD .skip)

set_option maxRecDepth 100000 in
set_option maxHeartbeats 8000000 in
theorem wrTail (f : Int) (wd : List Int) (n : Int) (AW : Option Addr) (cw : Nat) (AF : Option Addr) (cF : Nat) (w0 w : World) (HB : Below w0.heap.size w0 w) (rW : Rd w AW (ints wd)) (hcw : wd.length ≤ cw) (rF : Rd w AF (ints (ffV f wd n))) (u0 u1 u2 u8 u9 u11 u12 u13 u14 u15 u16 u17 u18 u19 u20 u21 u22 u23 u24 u25 u26 u27 u28 u29 u30 u31 u32 u33 u34 u35 u36 u37 u38 u39 u40 u41 u42 u43 u44 u45 u46 u47 u48 u49 u50 u51 u52 u53 u54 u55 u56 u57 u58 u59 u60 u61 u62 u63 u64 u65 u66 u67 u68 u69 u70 u71 u72 u73 u74 u75 u76 u77 u78 u79 u80 u81 u82 u83 u84 u85 u86 u87 u88 u89 u90 u91 u92 u93 u94 u95 u96 u97 u98 u99 u100 u101 u102 u103 u104 u105 u106 u107 u108 u109 u110 u111 u112 u113 u114 u115 u116 u117 u118 u119 u120 u121 u122 u123 u124 u125 u126 u127 u128 u129 u130 u131 u132 u133 u134 u135 u136 u137 u138 u139 u140 u141 u142 u143 u144 u145 u146 u147 u148 u149 u150 u151 u152 u153 u154 u155 u156 u157 u158 u159 u160 u161 u162 u163 u164 u165 u166 u167 u168 u169 u170 u171 u172 u173 u174 u175 u176 u177 u178 u179 u180 u181 u182 u183 u184 u185 u186 u187 u188 u189 u190 u191 u192 u193 u194 u195 u196 u197 u198 u199 u200 u201 u202 u203 u204 u205 u206 u207 u208 u209 u210 u211 u212 u213 u214 u215 u216 u217 u218 u219 u220 u221 u222 u223 u224 u225 u226 u227 u228 u229 u230 u231 u232 u233 u234 u235 u236 u237 u238 u239 u240 u241 u242 u243 u244 u245 u246 u247 u248 u249 u250 u251 u252 u253 u254 u255 u256 u257 u258 u259 u260 u261 u262 u263 u264 u265 u266 u267 u268 u269 u270 u271 u272 u273 u274 u275 u276 u277 u278 u279 u280 u281 u282 u283 u284 u285 u286 u287 u288 u289 u290 u291 u292 u293 u294 u295 u296 u297 u298 u299 u300 u301 u302 u303 u304 u305 u306 u307 u308 u309 u310 u311 u312 u313 u314 u315 u316 u317 u318 u319 u320 u321 u322 u323 u324 u325 u326 u327 u328 u329 u330 u331 u332 u333 u334 u335 u336 u337 u338 u339 u340 u341 u342 : Value) :
    Code.wp Try.prog wr23 (bodyPost Try.prog Try.f3 fun e w' => e = .returned (.bool true) ∧ Below w0.heap.size w0 w') ⟨#[u0, u1, u2, .int .i64 f, .slice AW wd.length cw, .int .i64 n, .slice AF (ffV f wd n).length cF, .bool (ffOk f wd n), u8, u9, .int .i64 (wwV f wd), u11, u12, u13, u14, u15, u16, u17, u18, u19, u20, u21, u22, u23, u24, u25, u26, u27, u28, u29, u30, u31, u32, u33, u34, u35, u36, u37, u38, u39, u40, u41, u42, u43, u44, u45, u46, u47, u48, u49, u50, u51, u52, u53, u54, u55, u56, u57, u58, u59, u60, u61, u62, u63, u64, u65, u66, u67, u68, u69, u70, u71, u72, u73, u74, u75, u76, u77, u78, u79, u80, u81, u82, u83, u84, u85, u86, u87, u88, u89, u90, u91, u92, u93, u94, u95, u96, u97, u98, u99, u100, u101, u102, u103, u104, u105, u106, u107, u108, u109, u110, u111, u112, u113, u114, u115, u116, u117, u118, u119, u120, u121, u122, u123, u124, u125, u126, u127, u128, u129, u130, u131, u132, u133, u134, u135, u136, u137, u138, u139, u140, u141, u142, u143, u144, u145, u146, u147, u148, u149, u150, u151, u152, u153, u154, u155, u156, u157, u158, u159, u160, u161, u162, u163, u164, u165, u166, u167, u168, u169, u170, u171, u172, u173, u174, u175, u176, u177, u178, u179, u180, u181, u182, u183, u184, u185, u186, u187, u188, u189, u190, u191, u192, u193, u194, u195, u196, u197, u198, u199, u200, u201, u202, u203, u204, u205, u206, u207, u208, u209, u210, u211, u212, u213, u214, u215, u216, u217, u218, u219, u220, u221, u222, u223, u224, u225, u226, u227, u228, u229, u230, u231, u232, u233, u234, u235, u236, u237, u238, u239, u240, u241, u242, u243, u244, u245, u246, u247, u248, u249, u250, u251, u252, u253, u254, u255, u256, u257, u258, u259, u260, u261, u262, u263, u264, u265, u266, u267, u268, u269, u270, u271, u272, u273, u274, u275, u276, u277, u278, u279, u280, u281, u282, u283, u284, u285, u286, u287, u288, u289, u290, u291, u292, u293, u294, u295, u296, u297, u298, u299, u300, u301, u302, u303, u304, u305, u306, u307, u308, u309, u310, u311, u312, u313, u314, u315, u316, u317, u318, u319, u320, u321, u322, u323, u324, u325, u326, u327, u328, u329, u330, u331, u332, u333, u334, u335, u336, u337, u338, u339, u340, u341, u342], []⟩ w := by
  conv => arg 2; whnf
  cases hok : ffOk f wd n
  · go_wp2_with fail
    go_ret
    exact ⟨rfl, HB⟩
  by_cases hf3 : 3 < f
  · go_wp2_with fail
    go_ret
    exact ⟨rfl, HB⟩
  by_cases hn6 : 6 < n
  · go_wp2_with fail
    go_ret
    exact ⟨rfl, HB⟩
  have hwn : wrdB f wd = true ∧ inB n 0 8 = true := by unfold ffOk at hok; simpa using hok
  obtain ⟨hw, hn8⟩ := hwn
  have hfv := (ff_3 hw hn8).1
  obtain ⟨b1, b2, b3, b4, b5⟩ := wrd_yes hw
  have hn0 := (inB_iff.1 hn8).1
  obtain ⟨F, rfl⟩ : ∃ F : Nat, f = (F : Int) := ⟨f.toNat, by omega⟩
  obtain ⟨M, rfl⟩ : ∃ M : Nat, n = (M : Int) := ⟨n.toNat, by omega⟩
  have hF3 : F ≤ 3 := by omega
  have hM6 : M ≤ 6 := by omega
  have HFV : Hid (ffV (F : Int) wd (M : Int) = ffO wd F M) := Lib.hid (by rw [hfv]; simp)
  have HW := Lib.hid hw
  have HOK := Lib.hid hok
  clear hfv hw hn8 b5
  have HL := Lib.hid (ffO_length wd F M)
  rw [HFV.out] at rF ⊢
  rw [HL.out]
  have bl0 : Below w.heap.size w ((w.alloc (.cells #[] 3)).alloc (.cells #[.slice (some ⟨w.heap.size, 0, none⟩) 0 0] 24)) := ((Below.refl _ _).alloc (Nat.le_refl _) _).alloc (by simp) _
  have r0 : RdC ((w.alloc (.cells #[] 3)).alloc (.cells #[.slice (some ⟨w.heap.size, 0, none⟩) 0 0] 24)) (some ⟨w.heap.size + 1, 0, none⟩) (allL F 0) := by
    intro k hk
    obtain rfl : k = 0 := by simp [allL] at hk; omega
    have e : rowAt (allL F 0) 0 = [] := rfl
    rw [e]
    exact ⟨⟨w.heap.size + 1, 0, none⟩, some ⟨w.heap.size, 0, none⟩, 0, rfl, by simp [Addr.add], by simp, Rd.nil _ _⟩
  go_wp2_with fail
  go_loopw [36, 37] (fun o q wr => ∃ (k : Nat) (A : Option Addr) (c : Nat), k ≤ M ∧ q = .int .i64 (k : Int) ∧ o = .slice A (allL F k).length c ∧ RdC wr A (allL F k) ∧ Below w.heap.size w wr) (fun _ q _ => M - (intOf q).toNat)
  case atStart => exact ⟨0, _, 1, by omega, rfl, rfl, r0, bl0⟩
  case round =>
    clear r0 bl0
    obtain ⟨v, rfl⟩ : ∃ v : World, v = wr := ⟨_, rfl⟩
    obtain ⟨k, A, c, hk, rfl, rfl, rA, hb⟩ := hrel
    have HBL := Lib.hid (allL_bd (f := F) (n := k) hF3 (by omega))
    have hrow : ∀ i, i < (allL F k).length → (rowAt (allL F k) i).length ≤ 6 := fun i hi => by have := (row_allL hi).1; omega
    by_cases hlt : k < M
    · have LX := Lib.hid (show allL F (k + 1) = flat1 F (allL F k) from rfl)
      generalize allL F k = L at *
      have hL7 := HBL.out
      go_wp2_with fail
      go_loopw [38, 39] (fun o q wr => ∃ (i : Nat) (A : Option Addr) (c : Nat) (H : List Value), i ≤ L.length ∧ q = .int .i64 (i : Int) ∧ o = .slice A (flat1 F (L.take i)).length c ∧ RowsC v wr A c H (flat1 F (L.take i))) (fun _ q _ => L.length - (intOf q).toNat)
      case atStart => exact ⟨0, _, _, [], by omega, rfl, rfl, RowsC.nil v⟩
      case round =>
        obtain ⟨y, rfl⟩ : ∃ y : World, y = wr := ⟨_, rfl⟩
        obtain ⟨i, A1, c1, H1, hi, rfl, rfl, R1⟩ := hrel
        by_cases hilt : i < L.length
        · have FT := Lib.hid (flat1_take F L i hilt)
          have FL := Lib.hid (flat1_length F (L.take i))
          have hfl : (flat1 F (L.take i)).length ≤ 2187 := by
            rw [FL.out]
            exact Nat.mul_le_mul (Nat.le_trans (by simp; omega) hL7) hF3
          generalize flat1 F (L.take i) = X at *
          have RV := Lib.hid R1
          clear R1
          go_wp2_with fail
          go_loopw [38, 40] (fun o q wr => ∃ (j : Nat) (A : Option Addr) (c : Nat) (H : List Value), j ≤ F ∧ q = .int .i64 (j : Int) ∧ o = .slice A (X ++ app1 (rowAt L i) j).length c ∧ RowsC v wr A c H (X ++ app1 (rowAt L i) j)) (fun _ q _ => F - (intOf q).toNat)
          case atStart => exact ⟨0, A1, c1, H1, by omega, rfl, by simp [app1], by simpa [app1] using RV.out⟩
          case round =>
            obtain ⟨z, rfl⟩ : ∃ z : World, z = wr := ⟨_, rfl⟩
            obtain ⟨j, A2, c2, H2, hj, rfl, rfl, R2⟩ := hrel
            have AL := Lib.hid (show (X ++ app1 (rowAt L i) j).length = X.length + j by rw [List.length_append, app1_length])
            have AS := Lib.hid (show X ++ app1 (rowAt L i) (j + 1) = (X ++ app1 (rowAt L i) j) ++ [rowAt L i ++ [(j : Int)]] by rw [app1, List.append_assoc])
            by_cases hjlt : j < F
            · obtain ⟨ad, A', c', e, q1, hcap, rr⟩ := (rA.below R2.bel (Nat.le_refl _)) i hilt
              have hrl := hrow i hilt
              subst e
              generalize rowAt L i = xs at *
              generalize X ++ app1 xs j = Y at *
              have q2 := (World.cell?_alloc_lt z (.cells #[] 3) _ (cell_lt q1)).trans q1
              have ii : (i : Int) < (L.length : Int) := by omega
              have o0 := Own.lit z [] (by decide)
              have rr2 := rr.alloc (.cells #[] 3)
              have HH2 := Lib.hid R2.hd.len
              have hsz := R2.bel.size
              have hyl : Y.length ≤ 2190 := by rw [AL.out]; omega
              clear q1
              go_wp2_with (first
                | (at_builtin; refine wp_append_ints _ rfl (.tmp 243) (.tmp 247) rfl z.heap.size _ 0 0 [] rfl rfl o0 A' xs.length c' xs rfl rfl rr2 (by simp; omega) (by simp) ?_; intro A5 c5 w5 o5 g5 b5; rw [List.nil_append] at o5; have hb5 := (Below.refl z.heap.size z).grown (grown_of_alloc g5) (Nat.le_refl _) (fun b e => by simp [blk] at e; omega))
                | (at_builtin; refine wp_append1 w5 _ _ rfl (.tmp 248) (.tmp 250) rfl z.heap.size A5 xs.length c5 xs rfl rfl o5 rfl (by omega) hb5.size ?_; intro A6 c6 w6 o6 g6 b6; have hb6 := hb5.grown g6 hb5.size (fun b e => o5.ge b e); have RY := (R2.below hb6); have RYb := Lib.hid (RY.below ((Below.refl _ _).alloc (Nat.le_refl _) (.cells #[.slice A6 (xs.length + 1) c6] 24))).own)
                | (at_builtin; refine wp_append_oneV 41 24 Try.underlying41 head_info _ rfl (.tmp 242) (.tmp 252) rfl v.heap.size A2 Y.length c2 H2 rfl HH2.out.symm RYb.out w6.heap.size 1 (.slice A6 (xs.length + 1) c6) rfl (by simp) rfl (by rw [HH2.out]; omega) (by have := hb6.size; simp; omega) ?_; intro g7 c7 w7 o7 G7 t7))
              have LN : (xs ++ [(j : Int)]).length = xs.length + 1 := by simp
              have R3 := Lib.hid (R2.push (xs := xs ++ [(j : Int)]) (hb6.alloc hb6.size (.cells #[.slice A6 (xs.length + 1) c6] 24)) (o6.alloc _) (by rw [LN]; exact o7) G7 (by
                rcases t7 with t | t
                · exact .inl t
                · exact .inr ⟨_, rfl, Nat.le_of_eq t.symm⟩))
              clear LN
              go_roundw
              case rel => exact ⟨j + 1, _, c7, _, by omega, by go_num, by rw [AS.out, List.length_append]; rfl, by rw [AS.out]; exact R3.out⟩
              case measure => simp [intOf] <;> omega
            · obtain rfl : j = F := by omega
              clear rA hrow RV
              rw [← FT.out] at R2
              rw [← FT.out]
              go_wp2_with fail
              go_roundw
              case rel => exact ⟨i + 1, A2, c2, H2, by omega, by go_num, rfl, R2⟩
              case measure => simp [intOf] <;> omega
        · obtain rfl : i = L.length := by omega
          rw [List.take_length, ← LX.out] at *
          go_wp2_with fail
          go_roundw
          case rel => exact ⟨k + 1, A1, c1, by omega, by go_num, rfl, R1.rd, bUp hb R1.bel hb.size⟩
          case measure => simp [intOf] <;> omega
    · obtain rfl : k = M := by omega
      have hrow2 := fun i (hi : i < (allL F k).length) => row_allL hi
      have htw := fun i (hi : i < (allL F k).length) => tw_word (l := rowAt (allL F k) i) HW.out hM6 (by rw [rowAt_eq hi]; exact List.getElem_mem hi)
      have hhit := fun i (hi : i < (allL F k).length) => own_hit (l := rowAt (allL F k) i) HW.out hM6 (by rw [rowAt_eq hi]; exact List.getElem_mem hi)
      have hbt := sz_take_bd (g := twV (F : Int) wd) (M := 300000) (by decide) (fun l hl => tw_bd HW.out hM6 hl) HBL.out
      have hbu := sz_take_bd (g := fun l => (unt wd l : Int)) (M := 6) (by decide) (L := allL F k) (fun l hl => ⟨by omega, by have := unt_le wd l; have := (mem_allL hl).1; omega⟩) HBL.out
      have hbf := sz_take_bd (g := fstI wd) (M := 1) (by decide) (L := allL F k) (fun l _ => by unfold fstI; split <;> omega) HBL.out
      have HS1 := Lib.hid (own_sum HW.out hM6)
      have HS2 := Lib.hid (fst_sum (wd := wd) b3 F k)
      have HT1 := Lib.hid (sz_take (twV (F : Int) wd) (allL F k))
      have HT2 := Lib.hid (sz_take (fun l => (unt wd l : Int)) (allL F k))
      have HT3 := Lib.hid (sz_take (fstI wd) (allL F k))
      have hrow3 := Lib.hid hrow2
      have htw2 := Lib.hid htw
      have hhit2 := Lib.hid hhit
      have hbt2 := Lib.hid hbt
      have hbu2 := Lib.hid hbu
      have hbf2 := Lib.hid hbf
      clear hrow hrow2 htw hhit hbt hbu hbf
      generalize allL F k = L at *
      have hL7 := HBL.out
      go_wp2_with fail
      go_loopw [41, 42, 43, 44] (fun a b d e wr => ∃ i : Nat, i ≤ L.length ∧ a = .int .i64 (sz (twV (F : Int) wd) (L.take i)) ∧ b = .int .i64 (sz (fun l => (unt wd l : Int)) (L.take i)) ∧ d = .int .i64 (sz (fstI wd) (L.take i)) ∧ e = .int .i64 (i : Int) ∧ Below v.heap.size v wr) (fun _ _ _ e _ => L.length - (intOf e).toNat)
      case atStart => exact ⟨0, by omega, rfl, rfl, rfl, rfl, Below.refl _ _⟩
      case round =>
        obtain ⟨y, rfl⟩ : ∃ y : World, y = wr := ⟨_, rfl⟩
        obtain ⟨i, hi, rfl, rfl, rfl, rfl, hy⟩ := hrel
        by_cases hilt : i < L.length
        · obtain ⟨ad, A', c', rfl, q1, hcap, rr⟩ := (rA.below hy (Nat.le_refl _)) i hilt
          obtain ⟨hx1, hx2⟩ := hrow3.out i hilt
          obtain ⟨ht1, ht2⟩ := htw2.out i hilt
          have HH := Lib.hid (hhit2.out i hilt)
          have HT4 := Lib.hid (HT1.out i hilt)
          have HT5 : Hid (sz (fun l => (unt wd l : Int)) (L.take (i + 1)) = sz (fun l => (unt wd l : Int)) (L.take i) + (unt wd (rowAt L i) : Int)) := Lib.hid (HT2.out i hilt)
          have HT6 := Lib.hid (HT3.out i hilt)
          have k1 := hbt2.out i
          have k2 := hbu2.out i
          have k3 := hbf2.out i
          have HX1 := Lib.hid hx1
          clear ht2
          generalize hxe : rowAt L i = xs at *
          have HXE := Lib.hid hxe
          clear hxe
          have hxl : xs.length ≤ 6 := by omega
          have rWy := rW.below (bUp hb hy hb.size) (Nat.le_refl _)
          have ii : (i : Int) < (L.length : Int) := by omega
          have CT := implTw_c (F : Int) AW A' wd xs cw c' y rWy rr (by omega) (by omega) hcw hcap
          rw [ht1] at CT
          replace CT := Lib.hid CT
          clear ht1 hx1
          go_wp2_with fail
          refine CT.out.mono ?_
          rintro e y2 ⟨rfl, hb2⟩
          have hy2 := bUp hy hb2 hy.size
          clear hb2 CT
          go_wp2_with fail
          go_loopw [47, 48] (fun p q wr => ∃ a m : Nat, m ≤ k ∧ p = .int .i64 (a : Int) ∧ q = .int .i64 (m : Int) ∧ AtI wd xs m a ∧ Below v.heap.size v wr) (fun _ q _ => (intOf q).toNat)
          case atStart => exact ⟨k, k, by omega, rfl, rfl, by have := AtI.start wd xs; rw [HX1.out] at this; exact this, hy2⟩
          case round =>
            clear hy hy2 rr q1 rWy hcap
            obtain ⟨z, rfl⟩ : ∃ z : World, z = wr := ⟨_, rfl⟩
            obtain ⟨a, m, hm, rfl, rfl, hat, hz⟩ := hrel
            obtain ⟨_, A', c', e, q1, hcap, rr⟩ := (rA.below hz (Nat.le_refl _)) i hilt
            injection e with e
            subst e
            rw [HXE.out] at q1 hcap rr
            have hx1 := HX1.out
            by_cases hmw : wd.length ≤ m
            · obtain ⟨l, hl⟩ : ∃ l, m = l + wd.length := ⟨m - wd.length, by omega⟩
              obtain ⟨a2, rfl, z1⟩ := rr.intN (k := 0) (by omega)
              clear z1
              have e1 : (m : Int) - (wd.length : Int) = (l : Int) := by omega
              have e2 : (m : Int) - (l : Int) = (wd.length : Int) := by omega
              have e3 : (m : Int) ≤ (c' : Int) := by omega
              have e4 : ¬ (c' = l) := by omega
              have e5 : (l : Int) ≤ (m : Int) := by omega
              have HM := Lib.hid hl
              clear hl hx1
              go_wp2_with fail
              have C := vInts_c (some (a2.add l)) AW ((xs.take m).drop l) wd (m - l) wd.length (c' - l) cw z (by rw [List.length_drop, List.length_take, HX1.out]; have := HM.out; omega) rfl (by rw [ints_drop]; exact (rr.takeI (k := m)).cut (k := l)) (rW.below (bUp hb hz hb.size) (Nat.le_refl _)) (by rw [List.length_drop, List.length_take]; omega) (by omega)
              have CE : decide ((xs.take m).drop l = wd) = hitB wd xs m := by unfold hitB; rw [show m - wd.length = l by have := HM.out; omega]
              rw [CE] at C
              have AT := Lib.hid hat
              clear CE q1 rr hcap hat
              obtain ⟨m', rfl⟩ : ∃ m', m = m' + 1 := ⟨m - 1, by omega⟩
              have e6 : ((m' + 1 : Nat) : Int) - 1 = (m' : Int) := by omega
              have hmx : m' + 1 ≤ xs.length := by rw [HX1.out]; exact hm
              cases hh : hitB wd xs (m' + 1)
              · rw [hh] at C
                refine C.mono ?_
                rintro e z2 ⟨rfl, hb3⟩
                have hz2 := bUp hz hb3 hz.size
                have AN := Lib.hid (AT.out.no hh)
                clear C hb3 hh e1 e2 e3 e4 e5
                go_wp2_with fail
                go_roundw
                case rel => exact ⟨a, m', by omega, rfl, by first | rfl | go_num, AN.out, hz2⟩
                case measure => simp [intOf] <;> omega
              · rw [hh] at C
                refine C.mono ?_
                rintro e z2 ⟨rfl, hb3⟩
                have hz2 := bUp hz hb3 hz.size
                have AN := Lib.hid (AT.out.yes hmw hmx hh)
                clear C hb3 hh e1 e2 e3 e4 e5
                go_wp2_with fail
                go_roundw
                case rel => exact ⟨m' + 1, m', by omega, rfl, by first | rfl | go_num, AN.out, hz2⟩
                case measure => simp [intOf] <;> omega
            · have AU := Lib.hid (hat.end (by omega))
              have hul := unt_le wd xs
              have AT := Lib.hid hat
              clear hat
              have AUU := Lib.hid (show unt wd xs = a from AU.out.symm)
              have w1 : IntKind.i64.wrap (sz (twV (F : Int) wd) (L.take i) + twV (F : Int) wd xs) = sz (twV (F : Int) wd) (L.take i) + twV (F : Int) wd xs := IntWalk.i64_in _ (by have := hbt2.out (i + 1); rw [HT4.out] at this; omega)
              have hak : a ≤ k := by rw [AU.out, ← HX1.out]; exact hul
              have w2 : IntKind.i64.wrap (sz (fun l => (unt wd l : Int)) (L.take i) + (a : Int)) = sz (fun l => (unt wd l : Int)) (L.take i) + (a : Int) := IntWalk.i64_in _ (by omega)
              have w3 : IntKind.i64.wrap (sz (fstI wd) (L.take i) + 1) = sz (fstI wd) (L.take i) + 1 := IntWalk.i64_in _ (by omega)
              have e0 : ¬ ((wd.length : Int) ≤ (m : Int)) := by omega
              clear hul AT hmw hm
              generalize sz (twV (F : Int) wd) (L.take i) = s1 at *
              generalize sz (fun l => (unt wd l : Int)) (L.take i) = s2 at *
              generalize sz (fstI wd) (L.take i) = s3 at *
              by_cases haw : wd.length ≤ a
              · obtain ⟨l, hl⟩ : ∃ l, a = l + wd.length := ⟨a - wd.length, by omega⟩
                obtain ⟨a2, rfl, z1⟩ := rr.intN (k := 0) (by omega)
                clear z1
                have e1 : (a : Int) - (wd.length : Int) = (l : Int) := by omega
                have e2 : (a : Int) - (l : Int) = (wd.length : Int) := by omega
                have e3 : (a : Int) ≤ (c' : Int) := by omega
                have e4 : ¬ (c' = l) := by omega
                have e5 : (l : Int) ≤ (a : Int) := by omega
                have HM := Lib.hid hl
                have e6 : (wd.length : Int) ≤ (a : Int) := by omega
                clear hl hx1
                have C := vInts_c (some (a2.add l)) AW ((xs.take a).drop l) wd (a - l) wd.length (c' - l) cw z (by rw [List.length_drop, List.length_take, HX1.out]; have := HM.out; omega) rfl (by rw [ints_drop]; exact (rr.takeI (k := a)).cut (k := l)) (rW.below (bUp hb hz hb.size) (Nat.le_refl _)) (by rw [List.length_drop, List.length_take]; omega) (by omega)
                have CE : decide ((xs.take a).drop l = wd) = hitB wd xs a := by unfold hitB; rw [show a - wd.length = l by have := HM.out; omega]
                rw [CE] at C
                have HI : Hid (hitI wd xs = hitB wd xs a) := Lib.hid (by unfold hitI; rw [AUU.out, decide_eq_true haw, Bool.true_and])
                clear CE rr hcap
                cases hh : hitB wd xs a
                · rw [hh] at C
                  have FS : Hid (fstI wd xs = 0) := Lib.hid (if_neg fun h => by rw [HI.out, hh] at h; cases h.1)
                  replace C := Lib.hid C
                  go_wp2_with fail
                  refine C.out.mono ?_
                  rintro e z2 ⟨rfl, hb3⟩
                  have hz2 := bUp hz hb3 hz.size
                  clear C hb3 hh e1 e2 e3 e4 e5 q1
                  go_wp2_with fail
                  go_roundw
                  case rel => exact ⟨i + 1, by omega, by rw [HT4.out], by rw [HT5.out, AUU.out], by rw [HT6.out, FS.out] <;> simp, by go_num, hz2⟩
                  case measure => simp [intOf] <;> omega
                · rw [hh] at C
                  have HTW := HH.out (by rw [HI.out, hh])
                  have htw1 : (twV (F : Int) wd xs != wwV (F : Int) wd) = false := by rw [HTW]; exact bne_self_eq_false _
                  replace C := Lib.hid C
                  clear HTW
                  generalize twV (F : Int) wd xs = tw at *
                  by_cases hk : a = k
                  · have FS : Hid (fstI wd xs = 1) := Lib.hid (if_pos ⟨by rw [HI.out, hh], by rw [AUU.out, HX1.out, hk]⟩)
                    have ek : ((a : Int) == (k : Int)) = true := by rw [hk]; exact BEq.rfl
                    clear hk
                    go_wp2_with fail
                    refine C.out.mono ?_
                    rintro e z2 ⟨rfl, hb3⟩
                    have hz2 := bUp hz hb3 hz.size
                    clear C hb3 hh e1 e2 e3 e4 e5 q1
                    go_wp2_with fail
                    go_roundw
                    case rel => exact ⟨i + 1, by omega, by rw [HT4.out], by rw [HT5.out, AUU.out], by rw [HT6.out, FS.out], by go_num, hz2⟩
                    case measure => simp [intOf] <;> omega
                  · have FS : Hid (fstI wd xs = 0) := Lib.hid (if_neg fun h => hk (by rw [← AUU.out, h.2, HX1.out]))
                    have ek : ((a : Int) == (k : Int)) = false := by simp; omega
                    clear hk
                    go_wp2_with fail
                    refine C.out.mono ?_
                    rintro e z2 ⟨rfl, hb3⟩
                    have hz2 := bUp hz hb3 hz.size
                    clear C hb3 hh e1 e2 e3 e4 e5 q1
                    go_wp2_with fail
                    go_roundw
                    case rel => exact ⟨i + 1, by omega, by rw [HT4.out], by rw [HT5.out, AUU.out], by rw [HT6.out, FS.out] <;> simp, by go_num, hz2⟩
                    case measure => simp [intOf] <;> omega
              · have FS : Hid (fstI wd xs = 0) := Lib.hid (if_neg fun h => by
                  have h := h.1
                  unfold hitI at h
                  rw [AUU.out, decide_eq_false haw] at h
                  cases h)
                have e7 : ¬ ((wd.length : Int) ≤ (a : Int)) := by omega
                clear q1 rr hcap
                go_wp2_with fail
                go_roundw
                case rel => exact ⟨i + 1, by omega, by rw [HT4.out], by rw [HT5.out, AUU.out], by rw [HT6.out, FS.out] <;> simp, by go_num, hz⟩
                case measure => simp [intOf] <;> omega
        · obtain rfl : i = L.length := by omega
          have hvy := bUp hb hy hb.size
          obtain ⟨af, rfl, q⟩ := (rF.below hvy (Nat.le_refl _)).intN (k := k) (by rw [HL.out]; omega)
          have ex1 : (sz (twV (F : Int) wd) L == sz (fun l => (unt wd l : Int)) L) = true := by rw [HS1.out]; exact BEq.rfl
          have ex2 : (sz (fstI wd) L == nth (ffO wd F k) k) = true := by rw [HS2.out]; exact BEq.rfl
          have ek : (k : Int) < (k : Int) + 1 := by omega
          rw [List.take_length]
          generalize nth (ffO wd F k) k = x1 at *
          generalize sz (twV (F : Int) wd) L = x2 at *
          generalize sz (fun l => (unt wd l : Int)) L = x3 at *
          generalize sz (fstI wd) L = x4 at *
          go_wp2_with fail
          go_ret
          exact ⟨rfl, bUp HB hvy HB.size⟩
end Go.Proofs.Ytbgkeecndagkgaa
