/- The market of a row: the program walk (merged of RwM RwN). -/
import Derived.Test.YtnhclpajfejnoaaRmA
import Derived.Test.YtnhclpajfejnoaaRwA
namespace Go.Proofs.Ytnhclpajfejnoaa
open Go.RowKit

theorem tame_three {P : Program} {ops : Array Oper} {Q : Exit → Act → World → Prop} {md : Region.Mode} {S : World → Prop} {z : Nat → Bool} {i j l : Nat} {oi oj ol : Oper} {n : Nat} {done : Array Bool} {a : Act} {w : World} (hr : Region.ready md ops done = [i, j, l]) (hi : ops[i]? = some oi) (hj : ops[j]? = some oj) (hl : ops[l]? = some ol)
    (hwi : Region.wanted oi (yielded ops a.tmps) = true) (hwj : Region.wanted oj (yielded ops a.tmps) = true) (hwl : Region.wanted ol (yielded ops a.tmps) = true)
    (h1 : oi.wp P a w (fun b v => (z i = false → S v) ∧ Tamed P md ops Q S z n (done.setIfInBounds i true) b v) Q)
    (h2 : oj.wp P a w (fun b v => (z j = false → S v) ∧ Tamed P md ops Q S z n (done.setIfInBounds j true) b v) Q)
    (h3 : ol.wp P a w (fun b v => (z l = false → S v) ∧ Tamed P md ops Q S z n (done.setIfInBounds l true) b v) Q) :
    Tamed P md ops Q S z (n + 1) done a w := by
  refine ⟨fun h0 => (by rw [hr] at h0; cases h0), fun k hk => ?_⟩
  rw [hr, List.mem_cons, List.mem_cons, List.mem_singleton] at hk
  rcases hk with rfl | rfl | rfl
  · unfold wpOp
    simp only [hi, hwi, if_true]
    exact .inl (Oper.wp_mono (fun _ _ hb => ⟨fun hz _ => hb.1 hz, hb.2⟩) h1)
  · unfold wpOp
    simp only [hj, hwj, if_true]
    exact .inl (Oper.wp_mono (fun _ _ hb => ⟨fun hz _ => hb.1 hz, hb.2⟩) h2)
  · unfold wpOp
    simp only [hl, hwl, if_true]
    exact .inl (Oper.wp_mono (fun _ _ hb => ⟨fun hz _ => hb.1 hz, hb.2⟩) h3)
/-- A market being filled in, its box as it was. -/
structure RmX (w0 w : World) (gr gm : Nat) (X Y Z : Value) (A1 : Option Addr) (c1 : Nat) (P : List Int) (A2 : Option Addr) (c2 : Nat) (W : List Int) (A3 : Option Addr) (c3 : Nat) (F : List Int) : Prop where
  bx : Bz w gm X Y Z
  br : Bz w gr (.slice none 0 0) (.slice none 0 0) (.slice none 0 0)
  o1 : Own w w0.heap.size A1 c1 P
  o2 : Own w w0.heap.size A2 c2 W
  o3 : Own w w0.heap.size A3 c3 F
  ap1 : ∀ b, blk A1 = some b → b ≠ gm ∧ b ≠ gr ∧ blk A2 ≠ some b ∧ blk A3 ≠ some b
  ap2 : ∀ b, blk A2 = some b → b ≠ gm ∧ b ≠ gr ∧ blk A1 ≠ some b ∧ blk A3 ≠ some b
  ap3 : ∀ b, blk A3 = some b → b ≠ gm ∧ b ≠ gr ∧ blk A1 ≠ some b ∧ blk A2 ≠ some b
  t0 : w0.heap.size ≤ gm ∧ w0.heap.size ≤ gr ∧ gr ≠ gm
  B : Below w0.heap.size w0 w
section
variable {w0 w w' : World} {gr gm : Nat} {X Y Z : Value} {A1 A2 A3 : Option Addr} {c1 c2 c3 : Nat} {P W F : List Int}
theorem RmX.below (h : RmX w0 w gr gm X Y Z A1 c1 P A2 c2 W A3 c3 F) (hb : Below w.heap.size w w') : RmX w0 w' gr gm X Y Z A1 c1 P A2 c2 W A3 c3 F :=
  ⟨h.bx.below hb, h.br.below hb, h.o1.below hb, h.o2.below hb, h.o3.below hb, h.ap1, h.ap2, h.ap3, h.t0, bUp h.B hb h.B.size⟩
theorem RmX.of (h : RmD w0 w gr gm A1 c1 P A2 c2 W A3 c3 F) : RmX w0 w gr gm (.slice A1 P.length c1) (.slice A2 W.length c2) (.slice A3 F.length c3) A1 c1 P A2 c2 W A3 c3 F := ⟨h.bx, h.br, h.o1, h.o2, h.o3, h.ap1, h.ap2, h.ap3, h.t0, h.B⟩
theorem RmX.app1 (h : RmX w0 w gr gm X Y Z A1 c1 P A2 c2 W A3 c3 F) {A1' : Option Addr} {c1' : Nat} {P' : List Int} (o : Own w' w0.heap.size A1' c1' P') (gw : w.grownBy w' (blk A1)) (t : blk A1' = blk A1 ∨ ∃ r, blk A1' = some r ∧ w.heap.size ≤ r) :
    RmX w0 w' gr gm X Y Z A1' c1' P' A2 c2 W A3 c3 F := by
  have ap : ∀ b, blk A1' = some b → b ≠ gm ∧ b ≠ gr ∧ blk A2 ≠ some b ∧ blk A3 ≠ some b := fun b e => by
    rcases t with t | ⟨r, t, hr⟩
    · exact h.ap1 b (by rw [← t]; exact e)
    · rw [t] at e
      injection e with e
      subst e
      exact ⟨by have := h.bx.b.2.2.2; omega, by have := h.br.b.2.2.2; omega, fun e => by have := h.o2.ltk r e; omega, fun e => by have := h.o3.ltk r e; omega⟩
  refine ⟨h.bx.grownR gw (fun e => (h.ap1 gm e).1 rfl), h.br.grownR gw (fun e => (h.ap1 gr e).2.1 rfl), o, h.o2.grown gw (ne_row fun b e => (h.ap1 b e).2.2.1), h.o3.grown gw (ne_row fun b e => (h.ap1 b e).2.2.2), ap, fun b e => ⟨(h.ap2 b e).1, (h.ap2 b e).2.1, fun e2 => (ap b e2).2.2.1 e, (h.ap2 b e).2.2.2⟩, fun b e => ⟨(h.ap3 b e).1, (h.ap3 b e).2.1, fun e2 => (ap b e2).2.2.2 e, (h.ap3 b e).2.2.2⟩, h.t0, h.B.grown gw h.B.size (fun b e => h.o1.ge b e)⟩
theorem RmX.app2 (h : RmX w0 w gr gm X Y Z A1 c1 P A2 c2 W A3 c3 F) {A2' : Option Addr} {c2' : Nat} {W' : List Int} (o : Own w' w0.heap.size A2' c2' W') (gw : w.grownBy w' (blk A2)) (t : blk A2' = blk A2 ∨ ∃ r, blk A2' = some r ∧ w.heap.size ≤ r) :
    RmX w0 w' gr gm X Y Z A1 c1 P A2' c2' W' A3 c3 F := by
  have ap : ∀ b, blk A2' = some b → b ≠ gm ∧ b ≠ gr ∧ blk A1 ≠ some b ∧ blk A3 ≠ some b := fun b e => by
    rcases t with t | ⟨r, t, hr⟩
    · exact h.ap2 b (by rw [← t]; exact e)
    · rw [t] at e
      injection e with e
      subst e
      exact ⟨by have := h.bx.b.2.2.2; omega, by have := h.br.b.2.2.2; omega, fun e => by have := h.o1.ltk r e; omega, fun e => by have := h.o3.ltk r e; omega⟩
  refine ⟨h.bx.grownR gw (fun e => (h.ap2 gm e).1 rfl), h.br.grownR gw (fun e => (h.ap2 gr e).2.1 rfl), h.o1.grown gw (ne_row fun b e => (h.ap2 b e).2.2.1), o, h.o3.grown gw (ne_row fun b e => (h.ap2 b e).2.2.2), fun b e => ⟨(h.ap1 b e).1, (h.ap1 b e).2.1, fun e2 => (ap b e2).2.2.1 e, (h.ap1 b e).2.2.2⟩, ap, fun b e => ⟨(h.ap3 b e).1, (h.ap3 b e).2.1, (h.ap3 b e).2.2.1, fun e2 => (ap b e2).2.2.2 e⟩, h.t0, h.B.grown gw h.B.size (fun b e => h.o2.ge b e)⟩
theorem RmX.app3 (h : RmX w0 w gr gm X Y Z A1 c1 P A2 c2 W A3 c3 F) {A3' : Option Addr} {c3' : Nat} {F' : List Int} (o : Own w' w0.heap.size A3' c3' F') (gw : w.grownBy w' (blk A3)) (t : blk A3' = blk A3 ∨ ∃ r, blk A3' = some r ∧ w.heap.size ≤ r) :
    RmX w0 w' gr gm X Y Z A1 c1 P A2 c2 W A3' c3' F' := by
  have ap : ∀ b, blk A3' = some b → b ≠ gm ∧ b ≠ gr ∧ blk A1 ≠ some b ∧ blk A2 ≠ some b := fun b e => by
    rcases t with t | ⟨r, t, hr⟩
    · exact h.ap3 b (by rw [← t]; exact e)
    · rw [t] at e
      injection e with e
      subst e
      exact ⟨by have := h.bx.b.2.2.2; omega, by have := h.br.b.2.2.2; omega, fun e => by have := h.o1.ltk r e; omega, fun e => by have := h.o2.ltk r e; omega⟩
  refine ⟨h.bx.grownR gw (fun e => (h.ap3 gm e).1 rfl), h.br.grownR gw (fun e => (h.ap3 gr e).2.1 rfl), h.o1.grown gw (ne_row fun b e => (h.ap3 b e).2.2.1), h.o2.grown gw (ne_row fun b e => (h.ap3 b e).2.2.2), o, fun b e => ⟨(h.ap1 b e).1, (h.ap1 b e).2.1, (h.ap1 b e).2.2.1, fun e2 => (ap b e2).2.2.1 e⟩, fun b e => ⟨(h.ap2 b e).1, (h.ap2 b e).2.1, (h.ap2 b e).2.2.1, fun e2 => (ap b e2).2.2.2 e⟩, ap, h.t0, h.B.grown gw h.B.size (fun b e => h.o3.ge b e)⟩
theorem RmX.store (h : RmX w0 w gr gm X Y Z A1 c1 P A2 c2 W A3 c3 F) {n1 n2 n3 : Nat} (h1 : n1 = P.length) (h2 : n2 = W.length) (h3 : n3 = F.length) :
    RmD w0 (((w.setCell ⟨gm, 0, none⟩ (.slice A1 n1 c1)).setCell ⟨gm, 1, none⟩ (.slice A2 n2 c2)).setCell ⟨gm, 2, none⟩ (.slice A3 n3 c3)) gr gm A1 c1 P A2 c2 W A3 c3 F := by
  subst h1 h2 h3
  have gs : w.grownBy (((w.setCell ⟨gm, 0, none⟩ (.slice A1 P.length c1)).setCell ⟨gm, 1, none⟩ (.slice A2 W.length c2)).setCell ⟨gm, 2, none⟩ (.slice A3 F.length c3)) (some gm) := ((grown_setCell w ⟨gm, 0, none⟩ _).trans (grown_setCell _ ⟨gm, 1, none⟩ _)).trans (grown_setCell _ ⟨gm, 2, none⟩ _)
  exact ⟨((h.bx.s0 _).s1 _).s2 _, h.br.grownR gs (by intro e; injection e with e; exact h.t0.2.2 e.symm), h.o1.grown gs (ne_blk fun b e => (h.ap1 b e).1), h.o2.grown gs (ne_blk fun b e => (h.ap2 b e).1), h.o3.grown gs (ne_blk fun b e => (h.ap3 b e).1), h.ap1, h.ap2, h.ap3, h.t0, h.B.grown gs h.B.size (fun b e => by injection e with e; have := h.t0; omega)⟩
theorem lit_apart {r V : Nat} (hr : V ≤ r) {A : Option Addr} (hA : ∀ b, blk A = some b → b < V) : ∀ ad, some (⟨r, 0, none⟩ : Addr) = some ad → some ad.block ≠ blk A := fun ad e e2 => by
  injection e with e
  subst e
  have := hA r e2.symm
  omega
end
theorem rm_end_all : ((List.range 4).all fun n => (List.range (rmK n)).all fun x => endB (rmP (rmK n)) x == decide (rmK n ≤ 2 * x + 1)) = true := by kernel_rfl
theorem rm_end {n x : Nat} (hn : n ≤ 3) (hx : x < rmK n) : endB (rmP (rmK n)) x = decide (rmK n ≤ 2 * x + 1) := by
  have := List.all_eq_true.1 rm_end_all n (List.mem_range.2 (by omega))
  exact beq_iff_eq.1 (List.all_eq_true.1 this x (List.mem_range.2 hx))
theorem rmP_succ (x : Nat) : rmP (x + 1) = rmP x ++ [if x = 0 then (-1 : Int) else (((x - 1) / 2 : Nat) : Int)] := by simp [rmP, List.range_succ]
theorem rmF_succ (u d p : Int) (x : Nat) : rmF u d p (x + 1) = rmF u d p x ++ [prX u d p x] := by simp [rmF, List.range_succ]
theorem rmK_le {n : Nat} (hn : n ≤ 3) : 1 ≤ rmK n ∧ rmK n ≤ 15 := by
  have : n = 0 ∨ n = 1 ∨ n = 2 ∨ n = 3 := by omega
  rcases this with rfl | rfl | rfl | rfl <;> decide
theorem hf_lt {x : Nat} (h : ¬ x = 0) : (x - 1) / 2 < x := by omega
theorem hf_even {x : Nat} (h0 : ¬ x = 0) (h : x % 2 = 0) : x = 2 * ((x - 1) / 2) + 2 := by omega
theorem hf_odd {x : Nat} (h : x % 2 = 1) : x = 2 * ((x - 1) / 2) + 1 := by omega
theorem hf_div (x : Nat) : ((x - 1 : Nat) : Int).tdiv 2 = (((x - 1) / 2 : Nat) : Int) := by rw [Int.tdiv_eq_ediv_of_nonneg (by omega)]; omega
theorem hf_mod {x r : Nat} (h : x % 2 = r) : (x : Int).tmod 2 = (r : Int) := by rw [Int.tmod_eq_emod_of_nonneg (by omega)]; omega
noncomputable def rm3 : Code := ((Try.f47.body.bind (restFrom 3)).getD .skip)
set_option maxRecDepth 20000 in
set_option maxHeartbeats 16000000 in
theorem rmTail (k : Nat) (hk : k ≤ 3) (u d p : Int) (hu : 1 ≤ u ∧ u ≤ 9) (hd : 1 ≤ d ∧ d ≤ 9) (HRB : Hid (rmB (k : Int) u d p = allB (rmF u d p (rmK k)) 0 20)) (w : World)
    (u4 u5 u6 u7 u9 u10 u11 u12 u13 u14 u15 u16 u17 u18 u19 u20 u21 u22 u23 u24 u25 u26 u27 u28 u29 u30 u31 u32 u33 u34 u35 u36 u37 u38 u39 u40 u41 u42 u43 u44 u45 u46 u47 u48 u49 u50 u51 u52 u53 u54 u55 u56 u57 u58 u59 u60 u61 u62 u63 u64 u65 u66 u67 u68 u69 u70 u71 u72 u73 u74 u75 u76 u77 u78 u79 u80 u81 u82 u83 u84 u85 u86 u87 u88 u89 u90 : Value) : Code.wp Try.prog rm3 (bodyPost Try.prog Try.f47 (RmGives w (rmVP (k : Int) u d p) (rmVW (k : Int) u d p) (rmVF (k : Int) u d p) (rmB (k : Int) u d p))) ⟨#[.int .i64 (k : Int), .int .i64 u, .int .i64 d, .int .i64 p, u4, u5, u6, u7, .pointer (some ⟨w.heap.size, 0, none⟩), u9, u10, u11, u12, u13, u14, u15, u16, u17, u18, u19, u20, u21, u22, u23, u24, u25, u26, u27, u28, u29, u30, u31, u32, u33, u34, u35, u36, u37, u38, u39, u40, u41, u42, u43, u44, u45, u46, u47, u48, u49, u50, u51, u52, u53, u54, u55, u56, u57, u58, u59, u60, u61, u62, u63, u64, u65, u66, u67, u68, u69, u70, u71, u72, u73, u74, u75, u76, u77, u78, u79, u80, u81, u82, u83, u84, u85, u86, u87, u88, u89, u90], []⟩ (w.alloc (.cells #[.slice none 0 0, .slice none 0 0, .slice none 0 0] 28)) := by
  conv => arg 2; whnf
  have hK15 := rmK_le hk
  obtain ⟨K, hK⟩ : ∃ K, K = rmK k := ⟨_, rfl⟩
  have s0 : IntKind.i64.wrap ((k : Int) + 1) = (k : Int) + 1 := IntWalk.i64_in _ (by omega)
  have s1' : (2 : Int) ^ (k + 1) = (K : Int) + 1 := by
    have : k = 0 ∨ k = 1 ∨ k = 2 ∨ k = 3 := by omega
    rcases this with rfl | rfl | rfl | rfl <;> subst hK <;> rfl
  rw [← hK] at hK15
  have s1 : wrap64 ((2 : Int) ^ (k + 1)) = (K : Int) + 1 := by rw [s1']; exact IntWalk.wrap64_in _ ⟨by omega, by omega⟩
  clear s1'
  have s2 : wrap64 (K : Int) = (K : Int) := IntWalk.wrap64_in _ ⟨by omega, by omega⟩
  have HK := Lib.hid hK
  have Bl : Below w.heap.size w (w.alloc (.cells #[.slice none 0 0, .slice none 0 0, .slice none 0 0] 28)) := (Below.refl _ _).alloc (Nat.le_refl _) _
  have bl2 : Below (w.alloc (.cells #[.slice none 0 0, .slice none 0 0, .slice none 0 0] 28)).heap.size (w.alloc (.cells #[.slice none 0 0, .slice none 0 0, .slice none 0 0] 28)) ((w.alloc (.cells #[.slice none 0 0, .slice none 0 0, .slice none 0 0] 28)).alloc (.cells #[.slice none 0 0, .slice none 0 0, .slice none 0 0] 28)) := (Below.refl _ _).alloc (Nat.le_refl _) _
  have T0 : RmD w ((w.alloc (.cells #[.slice none 0 0, .slice none 0 0, .slice none 0 0] 28)).alloc (.cells #[.slice none 0 0, .slice none 0 0, .slice none 0 0] 28)) w.heap.size (w.heap.size + 1) none 0 [] none 0 [] none 0 [] := by
    have B0 := Bz.new w (.slice none 0 0) (.slice none 0 0) (.slice none 0 0) 28
    have B1 := Bz.new (w.alloc (.cells #[.slice none 0 0, .slice none 0 0, .slice none 0 0] 28)) (.slice none 0 0) (.slice none 0 0) (.slice none 0 0) 28
    rw [World.size_alloc] at B1
    exact ⟨B1, B0.below bl2, Own.nil _ _, Own.nil _ _, Own.nil _ _, (fun b e => by cases e), (fun b e => by cases e), (fun b e => by cases e), ⟨by omega, Nat.le_refl _, by omega⟩, bUp Bl bl2 Bl.size⟩
  clear hK Bl bl2
  go_upto_region 5 with fail
  clear s0 s1 s2
  generalize (w.alloc (.cells #[.slice none 0 0, .slice none 0 0, .slice none 0 0] 28)).alloc (.cells #[.slice none 0 0, .slice none 0 0, .slice none 0 0] 28) = w1 at *
  obtain ⟨gm, hgm⟩ : ∃ gm, gm = w.heap.size + 1 := ⟨_, rfl⟩
  rw [← hgm] at T0 ⊢
  obtain ⟨gr, hgr⟩ : ∃ gr, gr = w.heap.size := ⟨_, rfl⟩
  replace T0 : RmD w w1 gr gm none 0 [] none 0 [] none 0 [] := by rw [hgr]; exact T0
  rw [show (Value.pointer (some ⟨w.heap.size, 0, none⟩)) = .pointer (some ⟨gr, 0, none⟩) from by rw [hgr]]
  clear hgm hgr
  replace T0 := Lib.hid T0
  go_wp2_with fail
  go_loopw [32] (fun i wr => ∃ (x : Nat) (A1 : Option Addr) (c1 : Nat) (A2 : Option Addr) (c2 : Nat) (A3 : Option Addr) (c3 : Nat), i = .int .i64 (x : Int) ∧ x ≤ K ∧ RmD w wr gr gm A1 c1 (rmP x) A2 c2 (ownTo (rmP K) x) A3 c3 (rmF u d p x) ∧ ∀ y, y < x → inB (prX u d p y) 0 20 = true) (fun i _ => K - (intOf i).toNat)
  case atStart => exact ⟨0, none, 0, none, 0, none, 0, rfl, by omega, T0.out, fun y hy => by omega⟩
  case round =>
    clear T0
    obtain ⟨v, rfl⟩ : ∃ v : World, v = wr := ⟨_, rfl⟩
    obtain ⟨x, A1, c1, A2, c2, A3, c3, rfl, hxK, T, hall⟩ := hrel
    replace T := Lib.hid T
    have HA := Lib.hid hall
    clear hall
    by_cases hlt : x < K
    · obtain ⟨pr, hpr⟩ : ∃ pr, prX u d p x = pr := ⟨_, rfl⟩
      obtain ⟨pa, hpa⟩ : ∃ pa, (if x = 0 then (-1 : Int) else (((x - 1) / 2 : Nat) : Int)) = pa := ⟨_, rfl⟩
      obtain ⟨wt, hwt⟩ : ∃ wt, (if endB (rmP K) x then (1 : Int) else 0) = wt := ⟨_, rfl⟩
      have HP1 : Hid (rmP x ++ [pa] = rmP (x + 1)) := Lib.hid (by rw [rmP_succ, hpa])
      have HW1 : Hid (ownTo (rmP K) x ++ [wt] = ownTo (rmP K) (x + 1)) := Lib.hid (by rw [ownTo_succ, hwt])
      have HF1 : Hid (rmF u d p x ++ [pr] = rmF u d p (x + 1)) := Lib.hid (by rw [rmF_succ, hpr])
      have lP : (rmP x).length = x := rmP_len x
      have lW : (ownTo (rmP K) x).length = x := ownTo_len _ x
      have lF : (rmF u d p x).length = x := rmF_len x
      have HFN : Hid (∀ y, y < x → nth (rmF u d p x) y = prX u d p y) := Lib.hid fun y hy => rmF_nth hy
      generalize rmP x = P at *
      generalize ownTo (rmP K) x = W at *
      generalize rmF u d p x = F at *
      have HLP := Lib.hid lP
      have HLW := Lib.hid lW
      have HLF := Lib.hid lF
      have HPR := Lib.hid hpr
      have HPA := Lib.hid hpa
      have HWT := Lib.hid hwt
      have hP15 : P.length ≤ 15 := by omega
      have hW15 : W.length ≤ 15 := by omega
      have hF15 : F.length ≤ 15 := by omega
      clear lP lW lF hpr hpa hwt
      go_upto_region 9 with fail
      rename_i KX hKX KL hKL K1 hK1 K0 hK0
      replace hK1 := Lib.hid hK1
      replace hKL := Lib.hid hKL
      have J19 : ∀ (B1 : Option Addr) (d1 : Nat) (B2 : Option Addr) (d2 : Nat) (B3 : Option Addr) (d3 : Nat) (w' : World), RmD w w' gr gm B1 d1 (rmP (x + 1)) B2 d2 (ownTo (rmP K) (x + 1)) B3 d3 (rmF u d p (x + 1)) → (∀ y, y < x + 1 → inB (prX u d p y) 0 20 = true) → ∀ (t9 t12 t13 t14 t15 t33 t34 t35 t36 t37 t38 t39 t40 t41 t42 t43 t44 t45 t46 t47 t48 t49 t50 t51 t52 t53 t54 t55 t56 t57 t58 t59 t60 t61 t62 t63 t64 t65 t66 t67 t68 t69 t70 t71 t72 t73 t74 t75 t76 t77 t78 t79 t80 t81 t82 t83 t84 t85 t86 t87 t88 t89 : Value), KL ⟨#[.int .i64 (k : Int), .int .i64 u, .int .i64 d, .int .i64 p, u4, u5, u6, u7, .pointer (some ⟨gr, 0, none⟩), t9, .pointer (some ⟨gm, 0, none⟩), .int .i64 (K : Int), t12, t13, t14, t15, u16, u17, u18, u19, u20, u21, u22, u23, u24, u25, .agg #[.slice none 0 0, .slice none 0 0, .slice none 0 0], .int .i64 (k : Int), .int .i64 ((k : Int) + 1), .int .i64 (wrap64 ((2 : Int) ^ (k + 1))), .int .i64 (K : Int), .int .i64 (K : Int), .int .i64 (x : Int), t33, t34, t35, t36, t37, t38, t39, t40, t41, t42, t43, t44, t45, t46, t47, t48, t49, t50, t51, t52, t53, t54, t55, t56, t57, t58, t59, t60, t61, t62, t63, t64, t65, t66, t67, t68, t69, t70, t71, t72, t73, t74, t75, t76, t77, t78, t79, t80, t81, t82, t83, t84, t85, t86, t87, t88, t89, u90], []⟩ w' := by
        intro B1 d1 B2 d2 B3 d3 w' TD hal t9 t12 t13 t14 t15 t33 t34 t35 t36 t37 t38 t39 t40 t41 t42 t43 t44 t45 t46 t47 t48 t49 t50 t51 t52 t53 t54 t55 t56 t57 t58 t59 t60 t61 t62 t63 t64 t65 t66 t67 t68 t69 t70 t71 t72 t73 t74 t75 t76 t77 t78 t79 t80 t81 t82 t83 t84 t85 t86 t87 t88 t89
        have TZ := Lib.hid TD
        have HAL := Lib.hid hal
        clear TD hal hK1
        refine hKL.out _ _ ?_
        go_wp2_with fail
        go_roundw
        case rel => first | exact ⟨x + 1, _, _, _, _, _, _, by go_num, by omega, TZ.out, HAL.out⟩ | (refine ⟨_, _, _, _, _, _, _, _, _, _, _, _, _, _, _, _, _, _, _, _, _, _, _, _, _, _, _, _, _, _, _, _, _, _, _, _, _, _, _, _, _, _, _, _, _, _, _, _, _, _, _, _, _, _, _, _, _, _, _, _, _, _, _, ?_, rfl⟩; exact ⟨x + 1, _, _, _, _, _, _, by go_num, by omega, TZ.out, HAL.out⟩)
        case measure => simp [intOf] <;> omega
      replace J19 := Lib.hid J19
      clear hKL
      have J14 : ∀ (y9 y33 y34 y35 y36 y37 y38 y39 y40 y41 y42 y43 y44 y45 y46 y47 y48 y49 y50 y51 y52 y53 y54 y55 y56 y57 y58 y59 y60 y61 y62 y63 y64 y65 y66 y67 y68 y69 y70 y71 y72 y73 y74 y75 y76 y77 y78 y79 y80 y81 y82 y83 y84 y85 y86 y87 y88 y89 : Value), K1 ⟨#[.int .i64 (k : Int), .int .i64 u, .int .i64 d, .int .i64 p, u4, u5, u6, u7, .pointer (some ⟨gr, 0, none⟩), y9, .pointer (some ⟨gm, 0, none⟩), .int .i64 (K : Int), .int .i64 (x : Int), .int .i64 pa, .int .i64 pr, .int .i64 0, u16, u17, u18, u19, u20, u21, u22, u23, u24, u25, .agg #[.slice none 0 0, .slice none 0 0, .slice none 0 0], .int .i64 (k : Int), .int .i64 ((k : Int) + 1), .int .i64 (wrap64 ((2 : Int) ^ (k + 1))), .int .i64 (K : Int), .int .i64 (K : Int), .int .i64 (x : Int), y33, y34, y35, y36, y37, y38, y39, y40, y41, y42, y43, y44, y45, y46, y47, y48, y49, y50, y51, y52, y53, y54, y55, y56, y57, y58, y59, y60, y61, y62, y63, y64, y65, y66, y67, y68, y69, y70, y71, y72, y73, y74, y75, y76, y77, y78, y79, y80, y81, y82, y83, y84, y85, y86, y87, y88, y89, u90], []⟩ v := by
        intro y9 y33 y34 y35 y36 y37 y38 y39 y40 y41 y42 y43 y44 y45 y46 y47 y48 y49 y50 y51 y52 y53 y54 y55 y56 y57 y58 y59 y60 y61 y62 y63 y64 y65 y66 y67 y68 y69 y70 y71 y72 y73 y74 y75 y76 y77 y78 y79 y80 y81 y82 y83 y84 y85 y86 y87 y88 y89
        refine hK1.out _ _ ?_
        have e1 : IntKind.i64.wrap (2 * (x : Int)) = 2 * (x : Int) := IntWalk.i64_in _ (by omega)
        have e2 : IntKind.i64.wrap (2 * (x : Int) + 1) = 2 * (x : Int) + 1 := IntWalk.i64_in _ (by omega)
        go_upto_region 14 with fail
        rename_i K3 hK3 K2 hK2
        replace hK3 := Lib.hid hK3
        have J16 : ∀ (z9 z33 z34 z35 z36 z37 z38 z39 z40 z41 z42 z43 z44 z45 z46 z47 z48 z49 z50 z51 z52 z53 z54 z55 z56 z57 z58 z59 z60 z61 z62 z63 z64 z65 z66 z67 z68 z69 z70 z71 z72 z73 z74 z75 z76 z77 z78 z79 z80 z81 z82 z83 z84 z85 z86 z87 z88 z89 : Value), K3 ⟨#[.int .i64 (k : Int), .int .i64 u, .int .i64 d, .int .i64 p, u4, u5, u6, u7, .pointer (some ⟨gr, 0, none⟩), z9, .pointer (some ⟨gm, 0, none⟩), .int .i64 (K : Int), .int .i64 (x : Int), .int .i64 pa, .int .i64 pr, .int .i64 wt, u16, u17, u18, u19, u20, u21, u22, u23, u24, u25, .agg #[.slice none 0 0, .slice none 0 0, .slice none 0 0], .int .i64 (k : Int), .int .i64 ((k : Int) + 1), .int .i64 (wrap64 ((2 : Int) ^ (k + 1))), .int .i64 (K : Int), .int .i64 (K : Int), .int .i64 (x : Int), z33, z34, z35, z36, z37, z38, z39, z40, z41, z42, z43, z44, z45, z46, z47, z48, z49, z50, z51, z52, z53, z54, z55, z56, z57, z58, z59, z60, z61, z62, z63, z64, z65, z66, z67, z68, z69, z70, z71, z72, z73, z74, z75, z76, z77, z78, z79, z80, z81, z82, z83, z84, z85, z86, z87, z88, z89, u90], []⟩ v := by
          intro z9 z33 z34 z35 z36 z37 z38 z39 z40 z41 z42 z43 z44 z45 z46 z47 z48 z49 z50 z51 z52 z53 z54 z55 z56 z57 z58 z59 z60 z61 z62 z63 z64 z65 z66 z67 z68 z69 z70 z71 z72 z73 z74 z75 z76 z77 z78 z79 z80 z81 z82 z83 z84 z85 z86 z87 z88 z89
          refine hK3.out _ _ ?_
          clear e1 e2 hK3 hK2
          try clear hK1 hK0
          try clear hKX
          have CI := within_c pr 0 20
          cases hin : inB pr 0 20
          · rw [hin] at CI
            have HNO : Hid (rmB (k : Int) u d p = false) := Lib.hid (by rw [HRB.out]; exact allB_no (k := x) (by rw [rmF_len, ← HK.out]; exact hlt) (by rw [rmF_nth (by rw [← HK.out]; exact hlt), HPR.out]; exact hin))
            clear hin
            go_wp2_with fail
            refine (CI _).mono ?_
            rintro e w' ⟨rfl, rfl⟩
            clear CI
            obtain ⟨⟨k3, k4, k5, k6⟩, k7, k8, k9⟩ := id T.out.br
            go_wp2_with fail
            have RF := T.out.fin (.slice none 0 0) (.slice none 0 0) (.slice none 0 0)
            exact bodyPost_ret (v := .tuple #[mkV none 0 0 none 0 0 none 0 0, .bool false]) (by simp [results, Try.results47, go_sem, k3, k4, k5]) rfl (by rw [(rm_no HNO.out).1, (rm_no HNO.out).2.1, (rm_no HNO.out).2.2, HNO.out]; exact ⟨none, 0, none, 0, none, 0, rfl, Own.nil _ _, Own.nil _ _, Own.nil _ _, RF.2.2.2⟩)
          · rw [hin] at CI
            have HALL : Hid (∀ y, y < x + 1 → inB (prX u d p y) 0 20 = true) := Lib.hid fun y hy => by
              rcases Nat.lt_or_ge y x with h | h
              · exact HA.out y h
              · rw [show y = x by omega, HPR.out]; exact hin
            clear hin
            go_wp2_with fail
            refine (CI _).mono ?_
            rintro e w' ⟨rfl, rfl⟩
            clear CI
            go_upto_region 18 with fail
            have k0 := T.out.bx.b.1
            have k1 := T.out.bx.b.2.1
            have k2 := T.out.bx.b.2.2.1
            have hd1 : Below v.heap.size v v.drew := Below.drew (Below.refl _ _)
            have SK1 : Hid (∀ w', Below v.heap.size v w' → w'.cell? ⟨gm, 0, none⟩ = some (.slice A1 P.length c1) ∧ w'.cell? ⟨gm, 1, none⟩ = some (.slice A2 W.length c2) ∧ w'.cell? ⟨gm, 2, none⟩ = some (.slice A3 F.length c3)) := Lib.hid fun w' HV => ⟨(HV.cell (cell_lt k0)).trans k0, (HV.cell (cell_lt k1)).trans k1, (HV.cell (cell_lt k2)).trans k2⟩
            clear k0 k1 k2
            have hS1_0 := SK1.out _ hd1
            refine tamed_region (S := fun w' => w'.cell? ⟨gm, 0, none⟩ = some (.slice A1 P.length c1) ∧ w'.cell? ⟨gm, 1, none⟩ = some (.slice A2 W.length c2) ∧ w'.cell? ⟨gm, 2, none⟩ = some (.slice A3 F.length c3)) (fun k => k == 19 || k == 22 || k == 24) (by kernel_rfl) ?_
            refine tame0 (k := 0) ?_ rfl (by kernel_rfl) (by kernel_rfl) (by kernel_rfl) (fun _ _ _ h => h) (by kernel_rfl) (fun v => ?_) ?_
            rotate_left
            · (go_simp; all_goals rfl)
            simp only [Act.put, List.setIfInBounds_toArray]
            refine tame0 (k := 1) ?_ rfl (by kernel_rfl) (by kernel_rfl) (by kernel_rfl) (fun _ _ _ h => h) (by kernel_rfl) (fun v => ?_) ?_
            rotate_left
            · (go_simp; all_goals rfl)
            simp only [Act.put]
            refine tameT (k := 2) ?_ rfl (by kernel_rfl) (by kernel_rfl) (by kernel_rfl) (by kernel_rfl) (by kernel_rfl) (fun _ _ _ h => h) (by kernel_rfl) hS1_0 (fun v hv => ?_) ?_
            rotate_left
            · (obtain ⟨k1, k2, k3⟩ := hv; go_simp; all_goals rfl)
            simp only [Act.put]
            refine tame0 (k := 3) ?_ rfl (by kernel_rfl) (by kernel_rfl) (by kernel_rfl) (fun _ _ _ h => h) (by kernel_rfl) (fun v => ?_) ?_
            rotate_left
            · (go_simp; all_goals rfl)
            simp only [Act.put]
            refine tame0 (k := 6) ?_ rfl (by kernel_rfl) (by kernel_rfl) (by kernel_rfl) (fun _ _ _ h => h) (by kernel_rfl) (fun v => ?_) ?_
            rotate_left
            · (go_simp; all_goals rfl)
            simp only [Act.put]
            refine tame0 (k := 7) ?_ rfl (by kernel_rfl) (by kernel_rfl) (by kernel_rfl) (fun _ _ _ h => h) (by kernel_rfl) (fun v => ?_) ?_
            rotate_left
            · (go_simp; all_goals rfl)
            simp only [Act.put]
            refine tameT (k := 8) ?_ rfl (by kernel_rfl) (by kernel_rfl) (by kernel_rfl) (by kernel_rfl) (by kernel_rfl) (fun _ _ _ h => h) (by kernel_rfl) hS1_0 (fun v hv => ?_) ?_
            rotate_left
            · (obtain ⟨k1, k2, k3⟩ := hv; go_simp; all_goals rfl)
            simp only [Act.put]
            refine tame0 (k := 9) ?_ rfl (by kernel_rfl) (by kernel_rfl) (by kernel_rfl) (fun _ _ _ h => h) (by kernel_rfl) (fun v => ?_) ?_
            rotate_left
            · (go_simp; all_goals rfl)
            simp only [Act.put]
            refine tame0 (k := 12) ?_ rfl (by kernel_rfl) (by kernel_rfl) (by kernel_rfl) (fun _ _ _ h => h) (by kernel_rfl) (fun v => ?_) ?_
            rotate_left
            · (go_simp; all_goals rfl)
            simp only [Act.put]
            refine tameT (k := 13) ?_ rfl (by kernel_rfl) (by kernel_rfl) (by kernel_rfl) (by kernel_rfl) (by kernel_rfl) (fun _ _ _ h => h) (by kernel_rfl) hS1_0 (fun v hv => ?_) ?_
            rotate_left
            · (obtain ⟨k1, k2, k3⟩ := hv; go_simp; all_goals rfl)
            simp only [Act.put]
            refine tame0 (k := 14) ?_ rfl (by kernel_rfl) (by kernel_rfl) (by kernel_rfl) (fun _ _ _ h => h) (by kernel_rfl) (fun v => ?_) ?_
            rotate_left
            · (go_simp; all_goals rfl)
            simp only [Act.put]
            go_simp
            have TX := Lib.hid ((RmX.of T.out).below (Below.drew (Below.refl _ _)))
            have HV1 : Hid (∀ b, blk A1 = some b → b < v.heap.size) := Lib.hid fun b e => T.out.o1.ltk b e
            have HV2 : Hid (∀ b, blk A2 = some b → b < v.heap.size) := Lib.hid fun b e => T.out.o2.ltk b e
            have HV3 : Hid (∀ b, blk A3 = some b → b < v.heap.size) := Lib.hid fun b e => T.out.o3.ltk b e
            have zz0 : v.heap.size ≤ v.drew.heap.size := Nat.le_refl _
            clear hS1_0 SK1 hd1
            obtain ⟨x0, hx0⟩ : ∃ x0, x0 = v.drew := ⟨_, rfl⟩
            rw [← hx0] at TX zz0 ⊢
            clear hx0 T
            refine tame_three (i := 4) (j := 10) (l := 15) (by kernel_rfl) rfl rfl rfl (by kernel_rfl) (by kernel_rfl) (by kernel_rfl) ?_ ?_ ?_
            · go_simp
              have bl1 : Below x0.heap.size x0 (x0.alloc (.cells #[.int .i64 pa] 3)) := (Below.refl _ _).alloc (Nat.le_refl _) _
              have T1 := Lib.hid (TX.out.below bl1)
              have R1_1 := Lib.hid (Rd.box x0 pa 3)
              have zz1 := Nat.le_trans zz0 bl1.size
              clear bl1
              generalize x0.alloc (.cells #[.int .i64 pa] 3) = x1 at *
              refine ⟨⟨T1.out.bx.b.1, T1.out.bx.b.2.1, T1.out.bx.b.2.2.1⟩, ?_⟩
              refine tame_three (i := 5) (j := 10) (l := 15) (by kernel_rfl) rfl rfl rfl (by kernel_rfl) (by kernel_rfl) (by kernel_rfl) ?_ ?_ ?_
              · refine op_append_ints _ (.tmp 69) (.tmp 71) rfl w.heap.size A1 P.length c1 P rfl rfl T1.out.o1 (some ⟨x0.heap.size, 0, none⟩) 1 1 [pa] rfl rfl R1_1.out (by simp; omega) T1.out.B.size ?_
                intro B2 d2 x2 o2 g2 b2
                have T2 := Lib.hid (T1.out.app1 o2 g2 (b2.imp id fun t => ⟨_, t, Nat.le_refl _⟩))
                have zz2 := Nat.le_trans zz1 g2.size
                clear o2 g2 b2
                refine ⟨fun _ => ⟨T2.out.bx.b.1, T2.out.bx.b.2.1, T2.out.bx.b.2.2.1⟩, ?_⟩
                simp only [Act.put]
                refine tame0 (k := 17) ?_ rfl (by kernel_rfl) (by kernel_rfl) (by kernel_rfl) (fun _ _ _ h => h) (by kernel_rfl) (fun v => ?_) ?_
                rotate_left
                · (go_simp; all_goals rfl)
                simp only [Act.put, List.setIfInBounds_toArray]
                refine tame0 (k := 18) ?_ rfl (by kernel_rfl) (by kernel_rfl) (by kernel_rfl) (fun _ _ _ h => h) (by kernel_rfl) (fun v => ?_) ?_
                rotate_left
                · (go_simp; all_goals rfl)
                simp only [Act.put]
                refine tame_two (i := 10) (j := 15) (by kernel_rfl) rfl rfl (by kernel_rfl) (by kernel_rfl) ?_ ?_
                · go_simp
                  have bl3 : Below x2.heap.size x2 (x2.alloc (.cells #[.int .i64 wt] 3)) := (Below.refl _ _).alloc (Nat.le_refl _) _
                  have T3 := Lib.hid (T2.out.below bl3)
                  have R2_3 := Lib.hid (Rd.box x2 wt 3)
                  have zz3 := Nat.le_trans zz2 bl3.size
                  clear bl3
                  generalize x2.alloc (.cells #[.int .i64 wt] 3) = x3 at *
                  refine ⟨⟨T3.out.bx.b.1, T3.out.bx.b.2.1, T3.out.bx.b.2.2.1⟩, ?_⟩
                  refine tame_two (i := 11) (j := 15) (by kernel_rfl) rfl rfl (by kernel_rfl) (by kernel_rfl) ?_ ?_
                  · refine op_append_ints _ (.tmp 75) (.tmp 77) rfl w.heap.size A2 W.length c2 W rfl rfl T3.out.o2 (some ⟨x2.heap.size, 0, none⟩) 1 1 [wt] rfl rfl R2_3.out (by simp; omega) T3.out.B.size ?_
                    intro B4 d4 x4 o4 g4 b4
                    have T4 := Lib.hid (T3.out.app2 o4 g4 (b4.imp id fun t => ⟨_, t, Nat.le_refl _⟩))
                    have zz4 := Nat.le_trans zz3 g4.size
                    clear o4 g4 b4
                    refine ⟨fun _ => ⟨T4.out.bx.b.1, T4.out.bx.b.2.1, T4.out.bx.b.2.2.1⟩, ?_⟩
                    simp only [Act.put]
                    refine tame_one (k := 15) (by kernel_rfl) rfl (by kernel_rfl) ?_
                    go_simp
                    have bl5 : Below x4.heap.size x4 (x4.alloc (.cells #[.int .i64 pr] 3)) := (Below.refl _ _).alloc (Nat.le_refl _) _
                    have T5 := Lib.hid (T4.out.below bl5)
                    have R3_5 := Lib.hid (Rd.box x4 pr 3)
                    have zz5 := Nat.le_trans zz4 bl5.size
                    clear bl5
                    generalize x4.alloc (.cells #[.int .i64 pr] 3) = x5 at *
                    refine ⟨⟨T5.out.bx.b.1, T5.out.bx.b.2.1, T5.out.bx.b.2.2.1⟩, ?_⟩
                    refine tame_one (k := 16) (by kernel_rfl) rfl (by kernel_rfl) ?_
                    refine op_append_ints _ (.tmp 80) (.tmp 82) rfl w.heap.size A3 F.length c3 F rfl rfl T5.out.o3 (some ⟨x4.heap.size, 0, none⟩) 1 1 [pr] rfl rfl R3_5.out (by simp; omega) T5.out.B.size ?_
                    intro B6 d6 x6 o6 g6 b6
                    have T6 := Lib.hid (T5.out.app3 o6 g6 (b6.imp id fun t => ⟨_, t, Nat.le_refl _⟩))
                    have zz6 := Nat.le_trans zz5 g6.size
                    clear o6 g6 b6
                    refine ⟨fun _ => ⟨T6.out.bx.b.1, T6.out.bx.b.2.1, T6.out.bx.b.2.2.1⟩, ?_⟩
                    simp only [Act.put]
                    obtain ⟨⟨f0, f1, f2, f3⟩, f4, f5, f6⟩ := id T6.out.bx
                    refine tame_one (k := 19) (by kernel_rfl) rfl (by kernel_rfl) ?_
                    go_simp
                    try (refine ⟨fun h => absurd h (by decide), ?_⟩)
                    refine tame0 (k := 20) ?_ rfl (by kernel_rfl) (by kernel_rfl) (by kernel_rfl) (fun _ _ _ h => h) (by kernel_rfl) (fun v => ?_) ?_
                    rotate_left
                    · (go_simp; all_goals rfl)
                    simp only [Act.put, List.setIfInBounds_toArray]
                    refine tame0 (k := 21) ?_ rfl (by kernel_rfl) (by kernel_rfl) (by kernel_rfl) (fun _ _ _ h => h) (by kernel_rfl) (fun v => ?_) ?_
                    rotate_left
                    · (go_simp; all_goals rfl)
                    simp only [Act.put]
                    refine tame_one (k := 22) (by kernel_rfl) rfl (by kernel_rfl) ?_
                    go_simp
                    try (refine ⟨fun h => absurd h (by decide), ?_⟩)
                    refine tame0 (k := 23) ?_ rfl (by kernel_rfl) (by kernel_rfl) (by kernel_rfl) (fun _ _ _ h => h) (by kernel_rfl) (fun v => ?_) ?_
                    rotate_left
                    · (go_simp; all_goals rfl)
                    simp only [Act.put, List.setIfInBounds_toArray]
                    refine tame_one (k := 24) (by kernel_rfl) rfl (by kernel_rfl) ?_
                    go_simp
                    try (refine ⟨fun h => absurd h (by decide), ?_⟩)
                    refine tame_end (by kernel_rfl) ?_
                    have TZ := Lib.hid (T6.out.store (n1 := P.length + 1) (n2 := W.length + 1) (n3 := F.length + 1) (by simp) (by simp) (by simp))
                    rw [HP1.out, HW1.out, HF1.out] at TZ
                    show KL _ _
                    exact J19.out _ _ _ _ _ _ _ TZ.out HALL.out _ _ _ _ _ _ _ _ _ _ _ _ _ _ _ _ _ _ _ _ _ _ _ _ _ _ _ _ _ _ _ _ _ _ _ _ _ _ _ _ _ _ _ _ _ _ _ _ _ _ _ _ _ _ _ _ _ _ _ _ _ _
                  · go_simp
                    have bl7 : Below x3.heap.size x3 (x3.alloc (.cells #[.int .i64 pr] 3)) := (Below.refl _ _).alloc (Nat.le_refl _) _
                    have T7 := Lib.hid (T3.out.below bl7)
                    have R2_7 := Lib.hid (R2_3.out.below bl7 (Nat.le_refl _))
                    have R3_7 := Lib.hid (Rd.box x3 pr 3)
                    have zz7 := Nat.le_trans zz3 bl7.size
                    clear bl7
                    generalize x3.alloc (.cells #[.int .i64 pr] 3) = x7 at *
                    refine ⟨⟨T7.out.bx.b.1, T7.out.bx.b.2.1, T7.out.bx.b.2.2.1⟩, ?_⟩
                    refine tame_one (k := 11) (by kernel_rfl) rfl (by kernel_rfl) ?_
                    refine op_append_ints _ (.tmp 75) (.tmp 77) rfl w.heap.size A2 W.length c2 W rfl rfl T7.out.o2 (some ⟨x2.heap.size, 0, none⟩) 1 1 [wt] rfl rfl R2_7.out (by simp; omega) T7.out.B.size ?_
                    intro B8 d8 x8 o8 g8 b8
                    have T8 := Lib.hid (T7.out.app2 o8 g8 (b8.imp id fun t => ⟨_, t, Nat.le_refl _⟩))
                    have R3_8 := Lib.hid (R3_7.out.grown g8 (lit_apart zz3 HV2.out))
                    have zz8 := Nat.le_trans zz7 g8.size
                    clear o8 g8 b8
                    refine ⟨fun _ => ⟨T8.out.bx.b.1, T8.out.bx.b.2.1, T8.out.bx.b.2.2.1⟩, ?_⟩
                    simp only [Act.put]
                    refine tame_one (k := 16) (by kernel_rfl) rfl (by kernel_rfl) ?_
                    refine op_append_ints _ (.tmp 80) (.tmp 82) rfl w.heap.size A3 F.length c3 F rfl rfl T8.out.o3 (some ⟨x3.heap.size, 0, none⟩) 1 1 [pr] rfl rfl R3_8.out (by simp; omega) T8.out.B.size ?_
                    intro B9 d9 x9 o9 g9 b9
                    have T9 := Lib.hid (T8.out.app3 o9 g9 (b9.imp id fun t => ⟨_, t, Nat.le_refl _⟩))
                    have zz9 := Nat.le_trans zz8 g9.size
                    clear o9 g9 b9
                    refine ⟨fun _ => ⟨T9.out.bx.b.1, T9.out.bx.b.2.1, T9.out.bx.b.2.2.1⟩, ?_⟩
                    simp only [Act.put]
                    obtain ⟨⟨f0, f1, f2, f3⟩, f4, f5, f6⟩ := id T9.out.bx
                    refine tame_one (k := 19) (by kernel_rfl) rfl (by kernel_rfl) ?_
                    go_simp
                    try (refine ⟨fun h => absurd h (by decide), ?_⟩)
                    refine tame0 (k := 20) ?_ rfl (by kernel_rfl) (by kernel_rfl) (by kernel_rfl) (fun _ _ _ h => h) (by kernel_rfl) (fun v => ?_) ?_
                    rotate_left
                    · (go_simp; all_goals rfl)
                    simp only [Act.put, List.setIfInBounds_toArray]
                    refine tame0 (k := 21) ?_ rfl (by kernel_rfl) (by kernel_rfl) (by kernel_rfl) (fun _ _ _ h => h) (by kernel_rfl) (fun v => ?_) ?_
                    rotate_left
                    · (go_simp; all_goals rfl)
                    simp only [Act.put]
                    refine tame_one (k := 22) (by kernel_rfl) rfl (by kernel_rfl) ?_
                    go_simp
                    try (refine ⟨fun h => absurd h (by decide), ?_⟩)
                    refine tame0 (k := 23) ?_ rfl (by kernel_rfl) (by kernel_rfl) (by kernel_rfl) (fun _ _ _ h => h) (by kernel_rfl) (fun v => ?_) ?_
                    rotate_left
                    · (go_simp; all_goals rfl)
                    simp only [Act.put, List.setIfInBounds_toArray]
                    refine tame_one (k := 24) (by kernel_rfl) rfl (by kernel_rfl) ?_
                    go_simp
                    try (refine ⟨fun h => absurd h (by decide), ?_⟩)
                    refine tame_end (by kernel_rfl) ?_
                    have TZ := Lib.hid (T9.out.store (n1 := P.length + 1) (n2 := W.length + 1) (n3 := F.length + 1) (by simp) (by simp) (by simp))
                    rw [HP1.out, HW1.out, HF1.out] at TZ
                    show KL _ _
                    exact J19.out _ _ _ _ _ _ _ TZ.out HALL.out _ _ _ _ _ _ _ _ _ _ _ _ _ _ _ _ _ _ _ _ _ _ _ _ _ _ _ _ _ _ _ _ _ _ _ _ _ _ _ _ _ _ _ _ _ _ _ _ _ _ _ _ _ _ _ _ _ _ _ _ _ _
                · go_simp
                  have bl10 : Below x2.heap.size x2 (x2.alloc (.cells #[.int .i64 pr] 3)) := (Below.refl _ _).alloc (Nat.le_refl _) _
                  have T10 := Lib.hid (T2.out.below bl10)
                  have R3_10 := Lib.hid (Rd.box x2 pr 3)
                  have zz10 := Nat.le_trans zz2 bl10.size
                  clear bl10
                  generalize x2.alloc (.cells #[.int .i64 pr] 3) = x10 at *
                  refine ⟨⟨T10.out.bx.b.1, T10.out.bx.b.2.1, T10.out.bx.b.2.2.1⟩, ?_⟩
                  refine tame_one (k := 10) (by kernel_rfl) rfl (by kernel_rfl) ?_
                  go_simp
                  have bl11 : Below x10.heap.size x10 (x10.alloc (.cells #[.int .i64 wt] 3)) := (Below.refl _ _).alloc (Nat.le_refl _) _
                  have T11 := Lib.hid (T10.out.below bl11)
                  have R3_11 := Lib.hid (R3_10.out.below bl11 (Nat.le_refl _))
                  have R2_11 := Lib.hid (Rd.box x10 wt 3)
                  have zz11 := Nat.le_trans zz10 bl11.size
                  clear bl11
                  generalize x10.alloc (.cells #[.int .i64 wt] 3) = x11 at *
                  refine ⟨⟨T11.out.bx.b.1, T11.out.bx.b.2.1, T11.out.bx.b.2.2.1⟩, ?_⟩
                  refine tame_one (k := 11) (by kernel_rfl) rfl (by kernel_rfl) ?_
                  refine op_append_ints _ (.tmp 75) (.tmp 77) rfl w.heap.size A2 W.length c2 W rfl rfl T11.out.o2 (some ⟨x10.heap.size, 0, none⟩) 1 1 [wt] rfl rfl R2_11.out (by simp; omega) T11.out.B.size ?_
                  intro B12 d12 x12 o12 g12 b12
                  have T12 := Lib.hid (T11.out.app2 o12 g12 (b12.imp id fun t => ⟨_, t, Nat.le_refl _⟩))
                  have R3_12 := Lib.hid (R3_11.out.grown g12 (lit_apart zz2 HV2.out))
                  have zz12 := Nat.le_trans zz11 g12.size
                  clear o12 g12 b12
                  refine ⟨fun _ => ⟨T12.out.bx.b.1, T12.out.bx.b.2.1, T12.out.bx.b.2.2.1⟩, ?_⟩
                  simp only [Act.put]
                  refine tame_one (k := 16) (by kernel_rfl) rfl (by kernel_rfl) ?_
                  refine op_append_ints _ (.tmp 80) (.tmp 82) rfl w.heap.size A3 F.length c3 F rfl rfl T12.out.o3 (some ⟨x2.heap.size, 0, none⟩) 1 1 [pr] rfl rfl R3_12.out (by simp; omega) T12.out.B.size ?_
                  intro B13 d13 x13 o13 g13 b13
                  have T13 := Lib.hid (T12.out.app3 o13 g13 (b13.imp id fun t => ⟨_, t, Nat.le_refl _⟩))
                  have zz13 := Nat.le_trans zz12 g13.size
                  clear o13 g13 b13
                  refine ⟨fun _ => ⟨T13.out.bx.b.1, T13.out.bx.b.2.1, T13.out.bx.b.2.2.1⟩, ?_⟩
                  simp only [Act.put]
                  obtain ⟨⟨f0, f1, f2, f3⟩, f4, f5, f6⟩ := id T13.out.bx
                  refine tame_one (k := 19) (by kernel_rfl) rfl (by kernel_rfl) ?_
                  go_simp
                  try (refine ⟨fun h => absurd h (by decide), ?_⟩)
                  refine tame0 (k := 20) ?_ rfl (by kernel_rfl) (by kernel_rfl) (by kernel_rfl) (fun _ _ _ h => h) (by kernel_rfl) (fun v => ?_) ?_
                  rotate_left
                  · (go_simp; all_goals rfl)
                  simp only [Act.put, List.setIfInBounds_toArray]
                  refine tame0 (k := 21) ?_ rfl (by kernel_rfl) (by kernel_rfl) (by kernel_rfl) (fun _ _ _ h => h) (by kernel_rfl) (fun v => ?_) ?_
                  rotate_left
                  · (go_simp; all_goals rfl)
                  simp only [Act.put]
                  refine tame_one (k := 22) (by kernel_rfl) rfl (by kernel_rfl) ?_
                  go_simp
                  try (refine ⟨fun h => absurd h (by decide), ?_⟩)
                  refine tame0 (k := 23) ?_ rfl (by kernel_rfl) (by kernel_rfl) (by kernel_rfl) (fun _ _ _ h => h) (by kernel_rfl) (fun v => ?_) ?_
                  rotate_left
                  · (go_simp; all_goals rfl)
                  simp only [Act.put, List.setIfInBounds_toArray]
                  refine tame_one (k := 24) (by kernel_rfl) rfl (by kernel_rfl) ?_
                  go_simp
                  try (refine ⟨fun h => absurd h (by decide), ?_⟩)
                  refine tame_end (by kernel_rfl) ?_
                  have TZ := Lib.hid (T13.out.store (n1 := P.length + 1) (n2 := W.length + 1) (n3 := F.length + 1) (by simp) (by simp) (by simp))
                  rw [HP1.out, HW1.out, HF1.out] at TZ
                  show KL _ _
                  exact J19.out _ _ _ _ _ _ _ TZ.out HALL.out _ _ _ _ _ _ _ _ _ _ _ _ _ _ _ _ _ _ _ _ _ _ _ _ _ _ _ _ _ _ _ _ _ _ _ _ _ _ _ _ _ _ _ _ _ _ _ _ _ _ _ _ _ _ _ _ _ _ _ _ _ _
              · go_simp
                have bl14 : Below x1.heap.size x1 (x1.alloc (.cells #[.int .i64 wt] 3)) := (Below.refl _ _).alloc (Nat.le_refl _) _
                have T14 := Lib.hid (T1.out.below bl14)
                have R1_14 := Lib.hid (R1_1.out.below bl14 (Nat.le_refl _))
                have R2_14 := Lib.hid (Rd.box x1 wt 3)
                have zz14 := Nat.le_trans zz1 bl14.size
                clear bl14
                generalize x1.alloc (.cells #[.int .i64 wt] 3) = x14 at *
                refine ⟨⟨T14.out.bx.b.1, T14.out.bx.b.2.1, T14.out.bx.b.2.2.1⟩, ?_⟩
                refine tame_two (i := 5) (j := 15) (by kernel_rfl) rfl rfl (by kernel_rfl) (by kernel_rfl) ?_ ?_
                · refine op_append_ints _ (.tmp 69) (.tmp 71) rfl w.heap.size A1 P.length c1 P rfl rfl T14.out.o1 (some ⟨x0.heap.size, 0, none⟩) 1 1 [pa] rfl rfl R1_14.out (by simp; omega) T14.out.B.size ?_
                  intro B15 d15 x15 o15 g15 b15
                  have T15 := Lib.hid (T14.out.app1 o15 g15 (b15.imp id fun t => ⟨_, t, Nat.le_refl _⟩))
                  have R2_15 := Lib.hid (R2_14.out.grown g15 (lit_apart zz1 HV1.out))
                  have zz15 := Nat.le_trans zz14 g15.size
                  clear o15 g15 b15
                  refine ⟨fun _ => ⟨T15.out.bx.b.1, T15.out.bx.b.2.1, T15.out.bx.b.2.2.1⟩, ?_⟩
                  simp only [Act.put]
                  refine tame0 (k := 17) ?_ rfl (by kernel_rfl) (by kernel_rfl) (by kernel_rfl) (fun _ _ _ h => h) (by kernel_rfl) (fun v => ?_) ?_
                  rotate_left
                  · (go_simp; all_goals rfl)
                  simp only [Act.put, List.setIfInBounds_toArray]
                  refine tame0 (k := 18) ?_ rfl (by kernel_rfl) (by kernel_rfl) (by kernel_rfl) (fun _ _ _ h => h) (by kernel_rfl) (fun v => ?_) ?_
                  rotate_left
                  · (go_simp; all_goals rfl)
                  simp only [Act.put]
                  refine tame_two (i := 11) (j := 15) (by kernel_rfl) rfl rfl (by kernel_rfl) (by kernel_rfl) ?_ ?_
                  · refine op_append_ints _ (.tmp 75) (.tmp 77) rfl w.heap.size A2 W.length c2 W rfl rfl T15.out.o2 (some ⟨x1.heap.size, 0, none⟩) 1 1 [wt] rfl rfl R2_15.out (by simp; omega) T15.out.B.size ?_
                    intro B16 d16 x16 o16 g16 b16
                    have T16 := Lib.hid (T15.out.app2 o16 g16 (b16.imp id fun t => ⟨_, t, Nat.le_refl _⟩))
                    have zz16 := Nat.le_trans zz15 g16.size
                    clear o16 g16 b16
                    refine ⟨fun _ => ⟨T16.out.bx.b.1, T16.out.bx.b.2.1, T16.out.bx.b.2.2.1⟩, ?_⟩
                    simp only [Act.put]
                    refine tame_one (k := 15) (by kernel_rfl) rfl (by kernel_rfl) ?_
                    go_simp
                    have bl17 : Below x16.heap.size x16 (x16.alloc (.cells #[.int .i64 pr] 3)) := (Below.refl _ _).alloc (Nat.le_refl _) _
                    have T17 := Lib.hid (T16.out.below bl17)
                    have R3_17 := Lib.hid (Rd.box x16 pr 3)
                    have zz17 := Nat.le_trans zz16 bl17.size
                    clear bl17
                    generalize x16.alloc (.cells #[.int .i64 pr] 3) = x17 at *
                    refine ⟨⟨T17.out.bx.b.1, T17.out.bx.b.2.1, T17.out.bx.b.2.2.1⟩, ?_⟩
                    refine tame_one (k := 16) (by kernel_rfl) rfl (by kernel_rfl) ?_
                    refine op_append_ints _ (.tmp 80) (.tmp 82) rfl w.heap.size A3 F.length c3 F rfl rfl T17.out.o3 (some ⟨x16.heap.size, 0, none⟩) 1 1 [pr] rfl rfl R3_17.out (by simp; omega) T17.out.B.size ?_
                    intro B18 d18 x18 o18 g18 b18
                    have T18 := Lib.hid (T17.out.app3 o18 g18 (b18.imp id fun t => ⟨_, t, Nat.le_refl _⟩))
                    have zz18 := Nat.le_trans zz17 g18.size
                    clear o18 g18 b18
                    refine ⟨fun _ => ⟨T18.out.bx.b.1, T18.out.bx.b.2.1, T18.out.bx.b.2.2.1⟩, ?_⟩
                    simp only [Act.put]
                    obtain ⟨⟨f0, f1, f2, f3⟩, f4, f5, f6⟩ := id T18.out.bx
                    refine tame_one (k := 19) (by kernel_rfl) rfl (by kernel_rfl) ?_
                    go_simp
                    try (refine ⟨fun h => absurd h (by decide), ?_⟩)
                    refine tame0 (k := 20) ?_ rfl (by kernel_rfl) (by kernel_rfl) (by kernel_rfl) (fun _ _ _ h => h) (by kernel_rfl) (fun v => ?_) ?_
                    rotate_left
                    · (go_simp; all_goals rfl)
                    simp only [Act.put, List.setIfInBounds_toArray]
                    refine tame0 (k := 21) ?_ rfl (by kernel_rfl) (by kernel_rfl) (by kernel_rfl) (fun _ _ _ h => h) (by kernel_rfl) (fun v => ?_) ?_
                    rotate_left
                    · (go_simp; all_goals rfl)
                    simp only [Act.put]
                    refine tame_one (k := 22) (by kernel_rfl) rfl (by kernel_rfl) ?_
                    go_simp
                    try (refine ⟨fun h => absurd h (by decide), ?_⟩)
                    refine tame0 (k := 23) ?_ rfl (by kernel_rfl) (by kernel_rfl) (by kernel_rfl) (fun _ _ _ h => h) (by kernel_rfl) (fun v => ?_) ?_
                    rotate_left
                    · (go_simp; all_goals rfl)
                    simp only [Act.put, List.setIfInBounds_toArray]
                    refine tame_one (k := 24) (by kernel_rfl) rfl (by kernel_rfl) ?_
                    go_simp
                    try (refine ⟨fun h => absurd h (by decide), ?_⟩)
                    refine tame_end (by kernel_rfl) ?_
                    have TZ := Lib.hid (T18.out.store (n1 := P.length + 1) (n2 := W.length + 1) (n3 := F.length + 1) (by simp) (by simp) (by simp))
                    rw [HP1.out, HW1.out, HF1.out] at TZ
                    show KL _ _
                    exact J19.out _ _ _ _ _ _ _ TZ.out HALL.out _ _ _ _ _ _ _ _ _ _ _ _ _ _ _ _ _ _ _ _ _ _ _ _ _ _ _ _ _ _ _ _ _ _ _ _ _ _ _ _ _ _ _ _ _ _ _ _ _ _ _ _ _ _ _ _ _ _ _ _ _ _
                  · go_simp
                    have bl19 : Below x15.heap.size x15 (x15.alloc (.cells #[.int .i64 pr] 3)) := (Below.refl _ _).alloc (Nat.le_refl _) _
                    have T19 := Lib.hid (T15.out.below bl19)
                    have R2_19 := Lib.hid (R2_15.out.below bl19 (Nat.le_refl _))
                    have R3_19 := Lib.hid (Rd.box x15 pr 3)
                    have zz19 := Nat.le_trans zz15 bl19.size
                    clear bl19
                    generalize x15.alloc (.cells #[.int .i64 pr] 3) = x19 at *
                    refine ⟨⟨T19.out.bx.b.1, T19.out.bx.b.2.1, T19.out.bx.b.2.2.1⟩, ?_⟩
                    refine tame_one (k := 11) (by kernel_rfl) rfl (by kernel_rfl) ?_
                    refine op_append_ints _ (.tmp 75) (.tmp 77) rfl w.heap.size A2 W.length c2 W rfl rfl T19.out.o2 (some ⟨x1.heap.size, 0, none⟩) 1 1 [wt] rfl rfl R2_19.out (by simp; omega) T19.out.B.size ?_
                    intro B20 d20 x20 o20 g20 b20
                    have T20 := Lib.hid (T19.out.app2 o20 g20 (b20.imp id fun t => ⟨_, t, Nat.le_refl _⟩))
                    have R3_20 := Lib.hid (R3_19.out.grown g20 (lit_apart zz15 HV2.out))
                    have zz20 := Nat.le_trans zz19 g20.size
                    clear o20 g20 b20
                    refine ⟨fun _ => ⟨T20.out.bx.b.1, T20.out.bx.b.2.1, T20.out.bx.b.2.2.1⟩, ?_⟩
                    simp only [Act.put]
                    refine tame_one (k := 16) (by kernel_rfl) rfl (by kernel_rfl) ?_
                    refine op_append_ints _ (.tmp 80) (.tmp 82) rfl w.heap.size A3 F.length c3 F rfl rfl T20.out.o3 (some ⟨x15.heap.size, 0, none⟩) 1 1 [pr] rfl rfl R3_20.out (by simp; omega) T20.out.B.size ?_
                    intro B21 d21 x21 o21 g21 b21
                    have T21 := Lib.hid (T20.out.app3 o21 g21 (b21.imp id fun t => ⟨_, t, Nat.le_refl _⟩))
                    have zz21 := Nat.le_trans zz20 g21.size
                    clear o21 g21 b21
                    refine ⟨fun _ => ⟨T21.out.bx.b.1, T21.out.bx.b.2.1, T21.out.bx.b.2.2.1⟩, ?_⟩
                    simp only [Act.put]
                    obtain ⟨⟨f0, f1, f2, f3⟩, f4, f5, f6⟩ := id T21.out.bx
                    refine tame_one (k := 19) (by kernel_rfl) rfl (by kernel_rfl) ?_
                    go_simp
                    try (refine ⟨fun h => absurd h (by decide), ?_⟩)
                    refine tame0 (k := 20) ?_ rfl (by kernel_rfl) (by kernel_rfl) (by kernel_rfl) (fun _ _ _ h => h) (by kernel_rfl) (fun v => ?_) ?_
                    rotate_left
                    · (go_simp; all_goals rfl)
                    simp only [Act.put, List.setIfInBounds_toArray]
                    refine tame0 (k := 21) ?_ rfl (by kernel_rfl) (by kernel_rfl) (by kernel_rfl) (fun _ _ _ h => h) (by kernel_rfl) (fun v => ?_) ?_
                    rotate_left
                    · (go_simp; all_goals rfl)
                    simp only [Act.put]
                    refine tame_one (k := 22) (by kernel_rfl) rfl (by kernel_rfl) ?_
                    go_simp
                    try (refine ⟨fun h => absurd h (by decide), ?_⟩)
                    refine tame0 (k := 23) ?_ rfl (by kernel_rfl) (by kernel_rfl) (by kernel_rfl) (fun _ _ _ h => h) (by kernel_rfl) (fun v => ?_) ?_
                    rotate_left
                    · (go_simp; all_goals rfl)
                    simp only [Act.put, List.setIfInBounds_toArray]
                    refine tame_one (k := 24) (by kernel_rfl) rfl (by kernel_rfl) ?_
                    go_simp
                    try (refine ⟨fun h => absurd h (by decide), ?_⟩)
                    refine tame_end (by kernel_rfl) ?_
                    have TZ := Lib.hid (T21.out.store (n1 := P.length + 1) (n2 := W.length + 1) (n3 := F.length + 1) (by simp) (by simp) (by simp))
                    rw [HP1.out, HW1.out, HF1.out] at TZ
                    show KL _ _
                    exact J19.out _ _ _ _ _ _ _ TZ.out HALL.out _ _ _ _ _ _ _ _ _ _ _ _ _ _ _ _ _ _ _ _ _ _ _ _ _ _ _ _ _ _ _ _ _ _ _ _ _ _ _ _ _ _ _ _ _ _ _ _ _ _ _ _ _ _ _ _ _ _ _ _ _ _
                · go_simp
                  have bl22 : Below x14.heap.size x14 (x14.alloc (.cells #[.int .i64 pr] 3)) := (Below.refl _ _).alloc (Nat.le_refl _) _
                  have T22 := Lib.hid (T14.out.below bl22)
                  have R1_22 := Lib.hid (R1_14.out.below bl22 (Nat.le_refl _))
                  have R2_22 := Lib.hid (R2_14.out.below bl22 (Nat.le_refl _))
                  have R3_22 := Lib.hid (Rd.box x14 pr 3)
                  have zz22 := Nat.le_trans zz14 bl22.size
                  clear bl22
                  generalize x14.alloc (.cells #[.int .i64 pr] 3) = x22 at *
                  refine ⟨⟨T22.out.bx.b.1, T22.out.bx.b.2.1, T22.out.bx.b.2.2.1⟩, ?_⟩
                  refine tame_one (k := 5) (by kernel_rfl) rfl (by kernel_rfl) ?_
                  refine op_append_ints _ (.tmp 69) (.tmp 71) rfl w.heap.size A1 P.length c1 P rfl rfl T22.out.o1 (some ⟨x0.heap.size, 0, none⟩) 1 1 [pa] rfl rfl R1_22.out (by simp; omega) T22.out.B.size ?_
                  intro B23 d23 x23 o23 g23 b23
                  have T23 := Lib.hid (T22.out.app1 o23 g23 (b23.imp id fun t => ⟨_, t, Nat.le_refl _⟩))
                  have R2_23 := Lib.hid (R2_22.out.grown g23 (lit_apart zz1 HV1.out))
                  have R3_23 := Lib.hid (R3_22.out.grown g23 (lit_apart zz14 HV1.out))
                  have zz23 := Nat.le_trans zz22 g23.size
                  clear o23 g23 b23
                  refine ⟨fun _ => ⟨T23.out.bx.b.1, T23.out.bx.b.2.1, T23.out.bx.b.2.2.1⟩, ?_⟩
                  simp only [Act.put]
                  refine tame0 (k := 17) ?_ rfl (by kernel_rfl) (by kernel_rfl) (by kernel_rfl) (fun _ _ _ h => h) (by kernel_rfl) (fun v => ?_) ?_
                  rotate_left
                  · (go_simp; all_goals rfl)
                  simp only [Act.put, List.setIfInBounds_toArray]
                  refine tame0 (k := 18) ?_ rfl (by kernel_rfl) (by kernel_rfl) (by kernel_rfl) (fun _ _ _ h => h) (by kernel_rfl) (fun v => ?_) ?_
                  rotate_left
                  · (go_simp; all_goals rfl)
                  simp only [Act.put]
                  refine tame_one (k := 11) (by kernel_rfl) rfl (by kernel_rfl) ?_
                  refine op_append_ints _ (.tmp 75) (.tmp 77) rfl w.heap.size A2 W.length c2 W rfl rfl T23.out.o2 (some ⟨x1.heap.size, 0, none⟩) 1 1 [wt] rfl rfl R2_23.out (by simp; omega) T23.out.B.size ?_
                  intro B24 d24 x24 o24 g24 b24
                  have T24 := Lib.hid (T23.out.app2 o24 g24 (b24.imp id fun t => ⟨_, t, Nat.le_refl _⟩))
                  have R3_24 := Lib.hid (R3_23.out.grown g24 (lit_apart zz14 HV2.out))
                  have zz24 := Nat.le_trans zz23 g24.size
                  clear o24 g24 b24
                  refine ⟨fun _ => ⟨T24.out.bx.b.1, T24.out.bx.b.2.1, T24.out.bx.b.2.2.1⟩, ?_⟩
                  simp only [Act.put]
                  refine tame_one (k := 16) (by kernel_rfl) rfl (by kernel_rfl) ?_
                  refine op_append_ints _ (.tmp 80) (.tmp 82) rfl w.heap.size A3 F.length c3 F rfl rfl T24.out.o3 (some ⟨x14.heap.size, 0, none⟩) 1 1 [pr] rfl rfl R3_24.out (by simp; omega) T24.out.B.size ?_
                  intro B25 d25 x25 o25 g25 b25
                  have T25 := Lib.hid (T24.out.app3 o25 g25 (b25.imp id fun t => ⟨_, t, Nat.le_refl _⟩))
                  have zz25 := Nat.le_trans zz24 g25.size
                  clear o25 g25 b25
                  refine ⟨fun _ => ⟨T25.out.bx.b.1, T25.out.bx.b.2.1, T25.out.bx.b.2.2.1⟩, ?_⟩
                  simp only [Act.put]
                  obtain ⟨⟨f0, f1, f2, f3⟩, f4, f5, f6⟩ := id T25.out.bx
                  refine tame_one (k := 19) (by kernel_rfl) rfl (by kernel_rfl) ?_
                  go_simp
                  try (refine ⟨fun h => absurd h (by decide), ?_⟩)
                  refine tame0 (k := 20) ?_ rfl (by kernel_rfl) (by kernel_rfl) (by kernel_rfl) (fun _ _ _ h => h) (by kernel_rfl) (fun v => ?_) ?_
                  rotate_left
                  · (go_simp; all_goals rfl)
                  simp only [Act.put, List.setIfInBounds_toArray]
                  refine tame0 (k := 21) ?_ rfl (by kernel_rfl) (by kernel_rfl) (by kernel_rfl) (fun _ _ _ h => h) (by kernel_rfl) (fun v => ?_) ?_
                  rotate_left
                  · (go_simp; all_goals rfl)
                  simp only [Act.put]
                  refine tame_one (k := 22) (by kernel_rfl) rfl (by kernel_rfl) ?_
                  go_simp
                  try (refine ⟨fun h => absurd h (by decide), ?_⟩)
                  refine tame0 (k := 23) ?_ rfl (by kernel_rfl) (by kernel_rfl) (by kernel_rfl) (fun _ _ _ h => h) (by kernel_rfl) (fun v => ?_) ?_
                  rotate_left
                  · (go_simp; all_goals rfl)
                  simp only [Act.put, List.setIfInBounds_toArray]
                  refine tame_one (k := 24) (by kernel_rfl) rfl (by kernel_rfl) ?_
                  go_simp
                  try (refine ⟨fun h => absurd h (by decide), ?_⟩)
                  refine tame_end (by kernel_rfl) ?_
                  have TZ := Lib.hid (T25.out.store (n1 := P.length + 1) (n2 := W.length + 1) (n3 := F.length + 1) (by simp) (by simp) (by simp))
                  rw [HP1.out, HW1.out, HF1.out] at TZ
                  show KL _ _
                  exact J19.out _ _ _ _ _ _ _ TZ.out HALL.out _ _ _ _ _ _ _ _ _ _ _ _ _ _ _ _ _ _ _ _ _ _ _ _ _ _ _ _ _ _ _ _ _ _ _ _ _ _ _ _ _ _ _ _ _ _ _ _ _ _ _ _ _ _ _ _ _ _ _ _ _ _
              · go_simp
                have bl26 : Below x1.heap.size x1 (x1.alloc (.cells #[.int .i64 pr] 3)) := (Below.refl _ _).alloc (Nat.le_refl _) _
                have T26 := Lib.hid (T1.out.below bl26)
                have R1_26 := Lib.hid (R1_1.out.below bl26 (Nat.le_refl _))
                have R3_26 := Lib.hid (Rd.box x1 pr 3)
                have zz26 := Nat.le_trans zz1 bl26.size
                clear bl26
                generalize x1.alloc (.cells #[.int .i64 pr] 3) = x26 at *
                refine ⟨⟨T26.out.bx.b.1, T26.out.bx.b.2.1, T26.out.bx.b.2.2.1⟩, ?_⟩
                refine tame_two (i := 5) (j := 10) (by kernel_rfl) rfl rfl (by kernel_rfl) (by kernel_rfl) ?_ ?_
                · refine op_append_ints _ (.tmp 69) (.tmp 71) rfl w.heap.size A1 P.length c1 P rfl rfl T26.out.o1 (some ⟨x0.heap.size, 0, none⟩) 1 1 [pa] rfl rfl R1_26.out (by simp; omega) T26.out.B.size ?_
                  intro B27 d27 x27 o27 g27 b27
                  have T27 := Lib.hid (T26.out.app1 o27 g27 (b27.imp id fun t => ⟨_, t, Nat.le_refl _⟩))
                  have R3_27 := Lib.hid (R3_26.out.grown g27 (lit_apart zz1 HV1.out))
                  have zz27 := Nat.le_trans zz26 g27.size
                  clear o27 g27 b27
                  refine ⟨fun _ => ⟨T27.out.bx.b.1, T27.out.bx.b.2.1, T27.out.bx.b.2.2.1⟩, ?_⟩
                  simp only [Act.put]
                  refine tame0 (k := 17) ?_ rfl (by kernel_rfl) (by kernel_rfl) (by kernel_rfl) (fun _ _ _ h => h) (by kernel_rfl) (fun v => ?_) ?_
                  rotate_left
                  · (go_simp; all_goals rfl)
                  simp only [Act.put, List.setIfInBounds_toArray]
                  refine tame0 (k := 18) ?_ rfl (by kernel_rfl) (by kernel_rfl) (by kernel_rfl) (fun _ _ _ h => h) (by kernel_rfl) (fun v => ?_) ?_
                  rotate_left
                  · (go_simp; all_goals rfl)
                  simp only [Act.put]
                  refine tame_one (k := 10) (by kernel_rfl) rfl (by kernel_rfl) ?_
                  go_simp
                  have bl28 : Below x27.heap.size x27 (x27.alloc (.cells #[.int .i64 wt] 3)) := (Below.refl _ _).alloc (Nat.le_refl _) _
                  have T28 := Lib.hid (T27.out.below bl28)
                  have R3_28 := Lib.hid (R3_27.out.below bl28 (Nat.le_refl _))
                  have R2_28 := Lib.hid (Rd.box x27 wt 3)
                  have zz28 := Nat.le_trans zz27 bl28.size
                  clear bl28
                  generalize x27.alloc (.cells #[.int .i64 wt] 3) = x28 at *
                  refine ⟨⟨T28.out.bx.b.1, T28.out.bx.b.2.1, T28.out.bx.b.2.2.1⟩, ?_⟩
                  refine tame_one (k := 11) (by kernel_rfl) rfl (by kernel_rfl) ?_
                  refine op_append_ints _ (.tmp 75) (.tmp 77) rfl w.heap.size A2 W.length c2 W rfl rfl T28.out.o2 (some ⟨x27.heap.size, 0, none⟩) 1 1 [wt] rfl rfl R2_28.out (by simp; omega) T28.out.B.size ?_
                  intro B29 d29 x29 o29 g29 b29
                  have T29 := Lib.hid (T28.out.app2 o29 g29 (b29.imp id fun t => ⟨_, t, Nat.le_refl _⟩))
                  have R3_29 := Lib.hid (R3_28.out.grown g29 (lit_apart zz1 HV2.out))
                  have zz29 := Nat.le_trans zz28 g29.size
                  clear o29 g29 b29
                  refine ⟨fun _ => ⟨T29.out.bx.b.1, T29.out.bx.b.2.1, T29.out.bx.b.2.2.1⟩, ?_⟩
                  simp only [Act.put]
                  refine tame_one (k := 16) (by kernel_rfl) rfl (by kernel_rfl) ?_
                  refine op_append_ints _ (.tmp 80) (.tmp 82) rfl w.heap.size A3 F.length c3 F rfl rfl T29.out.o3 (some ⟨x1.heap.size, 0, none⟩) 1 1 [pr] rfl rfl R3_29.out (by simp; omega) T29.out.B.size ?_
                  intro B30 d30 x30 o30 g30 b30
                  have T30 := Lib.hid (T29.out.app3 o30 g30 (b30.imp id fun t => ⟨_, t, Nat.le_refl _⟩))
                  have zz30 := Nat.le_trans zz29 g30.size
                  clear o30 g30 b30
                  refine ⟨fun _ => ⟨T30.out.bx.b.1, T30.out.bx.b.2.1, T30.out.bx.b.2.2.1⟩, ?_⟩
                  simp only [Act.put]
                  obtain ⟨⟨f0, f1, f2, f3⟩, f4, f5, f6⟩ := id T30.out.bx
                  refine tame_one (k := 19) (by kernel_rfl) rfl (by kernel_rfl) ?_
                  go_simp
                  try (refine ⟨fun h => absurd h (by decide), ?_⟩)
                  refine tame0 (k := 20) ?_ rfl (by kernel_rfl) (by kernel_rfl) (by kernel_rfl) (fun _ _ _ h => h) (by kernel_rfl) (fun v => ?_) ?_
                  rotate_left
                  · (go_simp; all_goals rfl)
                  simp only [Act.put, List.setIfInBounds_toArray]
                  refine tame0 (k := 21) ?_ rfl (by kernel_rfl) (by kernel_rfl) (by kernel_rfl) (fun _ _ _ h => h) (by kernel_rfl) (fun v => ?_) ?_
                  rotate_left
                  · (go_simp; all_goals rfl)
                  simp only [Act.put]
                  refine tame_one (k := 22) (by kernel_rfl) rfl (by kernel_rfl) ?_
                  go_simp
                  try (refine ⟨fun h => absurd h (by decide), ?_⟩)
                  refine tame0 (k := 23) ?_ rfl (by kernel_rfl) (by kernel_rfl) (by kernel_rfl) (fun _ _ _ h => h) (by kernel_rfl) (fun v => ?_) ?_
                  rotate_left
                  · (go_simp; all_goals rfl)
                  simp only [Act.put, List.setIfInBounds_toArray]
                  refine tame_one (k := 24) (by kernel_rfl) rfl (by kernel_rfl) ?_
                  go_simp
                  try (refine ⟨fun h => absurd h (by decide), ?_⟩)
                  refine tame_end (by kernel_rfl) ?_
                  have TZ := Lib.hid (T30.out.store (n1 := P.length + 1) (n2 := W.length + 1) (n3 := F.length + 1) (by simp) (by simp) (by simp))
                  rw [HP1.out, HW1.out, HF1.out] at TZ
                  show KL _ _
                  exact J19.out _ _ _ _ _ _ _ TZ.out HALL.out _ _ _ _ _ _ _ _ _ _ _ _ _ _ _ _ _ _ _ _ _ _ _ _ _ _ _ _ _ _ _ _ _ _ _ _ _ _ _ _ _ _ _ _ _ _ _ _ _ _ _ _ _ _ _ _ _ _ _ _ _ _
                · go_simp
                  have bl31 : Below x26.heap.size x26 (x26.alloc (.cells #[.int .i64 wt] 3)) := (Below.refl _ _).alloc (Nat.le_refl _) _
                  have T31 := Lib.hid (T26.out.below bl31)
                  have R1_31 := Lib.hid (R1_26.out.below bl31 (Nat.le_refl _))
                  have R3_31 := Lib.hid (R3_26.out.below bl31 (Nat.le_refl _))
                  have R2_31 := Lib.hid (Rd.box x26 wt 3)
                  have zz31 := Nat.le_trans zz26 bl31.size
                  clear bl31
                  generalize x26.alloc (.cells #[.int .i64 wt] 3) = x31 at *
                  refine ⟨⟨T31.out.bx.b.1, T31.out.bx.b.2.1, T31.out.bx.b.2.2.1⟩, ?_⟩
                  refine tame_one (k := 5) (by kernel_rfl) rfl (by kernel_rfl) ?_
                  refine op_append_ints _ (.tmp 69) (.tmp 71) rfl w.heap.size A1 P.length c1 P rfl rfl T31.out.o1 (some ⟨x0.heap.size, 0, none⟩) 1 1 [pa] rfl rfl R1_31.out (by simp; omega) T31.out.B.size ?_
                  intro B32 d32 x32 o32 g32 b32
                  have T32 := Lib.hid (T31.out.app1 o32 g32 (b32.imp id fun t => ⟨_, t, Nat.le_refl _⟩))
                  have R3_32 := Lib.hid (R3_31.out.grown g32 (lit_apart zz1 HV1.out))
                  have R2_32 := Lib.hid (R2_31.out.grown g32 (lit_apart zz26 HV1.out))
                  have zz32 := Nat.le_trans zz31 g32.size
                  clear o32 g32 b32
                  refine ⟨fun _ => ⟨T32.out.bx.b.1, T32.out.bx.b.2.1, T32.out.bx.b.2.2.1⟩, ?_⟩
                  simp only [Act.put]
                  refine tame0 (k := 17) ?_ rfl (by kernel_rfl) (by kernel_rfl) (by kernel_rfl) (fun _ _ _ h => h) (by kernel_rfl) (fun v => ?_) ?_
                  rotate_left
                  · (go_simp; all_goals rfl)
                  simp only [Act.put, List.setIfInBounds_toArray]
                  refine tame0 (k := 18) ?_ rfl (by kernel_rfl) (by kernel_rfl) (by kernel_rfl) (fun _ _ _ h => h) (by kernel_rfl) (fun v => ?_) ?_
                  rotate_left
                  · (go_simp; all_goals rfl)
                  simp only [Act.put]
                  refine tame_one (k := 11) (by kernel_rfl) rfl (by kernel_rfl) ?_
                  refine op_append_ints _ (.tmp 75) (.tmp 77) rfl w.heap.size A2 W.length c2 W rfl rfl T32.out.o2 (some ⟨x26.heap.size, 0, none⟩) 1 1 [wt] rfl rfl R2_32.out (by simp; omega) T32.out.B.size ?_
                  intro B33 d33 x33 o33 g33 b33
                  have T33 := Lib.hid (T32.out.app2 o33 g33 (b33.imp id fun t => ⟨_, t, Nat.le_refl _⟩))
                  have R3_33 := Lib.hid (R3_32.out.grown g33 (lit_apart zz1 HV2.out))
                  have zz33 := Nat.le_trans zz32 g33.size
                  clear o33 g33 b33
                  refine ⟨fun _ => ⟨T33.out.bx.b.1, T33.out.bx.b.2.1, T33.out.bx.b.2.2.1⟩, ?_⟩
                  simp only [Act.put]
                  refine tame_one (k := 16) (by kernel_rfl) rfl (by kernel_rfl) ?_
                  refine op_append_ints _ (.tmp 80) (.tmp 82) rfl w.heap.size A3 F.length c3 F rfl rfl T33.out.o3 (some ⟨x1.heap.size, 0, none⟩) 1 1 [pr] rfl rfl R3_33.out (by simp; omega) T33.out.B.size ?_
                  intro B34 d34 x34 o34 g34 b34
                  have T34 := Lib.hid (T33.out.app3 o34 g34 (b34.imp id fun t => ⟨_, t, Nat.le_refl _⟩))
                  have zz34 := Nat.le_trans zz33 g34.size
                  clear o34 g34 b34
                  refine ⟨fun _ => ⟨T34.out.bx.b.1, T34.out.bx.b.2.1, T34.out.bx.b.2.2.1⟩, ?_⟩
                  simp only [Act.put]
                  obtain ⟨⟨f0, f1, f2, f3⟩, f4, f5, f6⟩ := id T34.out.bx
                  refine tame_one (k := 19) (by kernel_rfl) rfl (by kernel_rfl) ?_
                  go_simp
                  try (refine ⟨fun h => absurd h (by decide), ?_⟩)
                  refine tame0 (k := 20) ?_ rfl (by kernel_rfl) (by kernel_rfl) (by kernel_rfl) (fun _ _ _ h => h) (by kernel_rfl) (fun v => ?_) ?_
                  rotate_left
                  · (go_simp; all_goals rfl)
                  simp only [Act.put, List.setIfInBounds_toArray]
                  refine tame0 (k := 21) ?_ rfl (by kernel_rfl) (by kernel_rfl) (by kernel_rfl) (fun _ _ _ h => h) (by kernel_rfl) (fun v => ?_) ?_
                  rotate_left
                  · (go_simp; all_goals rfl)
                  simp only [Act.put]
                  refine tame_one (k := 22) (by kernel_rfl) rfl (by kernel_rfl) ?_
                  go_simp
                  try (refine ⟨fun h => absurd h (by decide), ?_⟩)
                  refine tame0 (k := 23) ?_ rfl (by kernel_rfl) (by kernel_rfl) (by kernel_rfl) (fun _ _ _ h => h) (by kernel_rfl) (fun v => ?_) ?_
                  rotate_left
                  · (go_simp; all_goals rfl)
                  simp only [Act.put, List.setIfInBounds_toArray]
                  refine tame_one (k := 24) (by kernel_rfl) rfl (by kernel_rfl) ?_
                  go_simp
                  try (refine ⟨fun h => absurd h (by decide), ?_⟩)
                  refine tame_end (by kernel_rfl) ?_
                  have TZ := Lib.hid (T34.out.store (n1 := P.length + 1) (n2 := W.length + 1) (n3 := F.length + 1) (by simp) (by simp) (by simp))
                  rw [HP1.out, HW1.out, HF1.out] at TZ
                  show KL _ _
                  exact J19.out _ _ _ _ _ _ _ TZ.out HALL.out _ _ _ _ _ _ _ _ _ _ _ _ _ _ _ _ _ _ _ _ _ _ _ _ _ _ _ _ _ _ _ _ _ _ _ _ _ _ _ _ _ _ _ _ _ _ _ _ _ _ _ _ _ _ _ _ _ _ _ _ _ _
            · go_simp
              have bl35 : Below x0.heap.size x0 (x0.alloc (.cells #[.int .i64 wt] 3)) := (Below.refl _ _).alloc (Nat.le_refl _) _
              have T35 := Lib.hid (TX.out.below bl35)
              have R2_35 := Lib.hid (Rd.box x0 wt 3)
              have zz35 := Nat.le_trans zz0 bl35.size
              clear bl35
              generalize x0.alloc (.cells #[.int .i64 wt] 3) = x35 at *
              refine ⟨⟨T35.out.bx.b.1, T35.out.bx.b.2.1, T35.out.bx.b.2.2.1⟩, ?_⟩
              refine tame_two (i := 4) (j := 15) (by kernel_rfl) rfl rfl (by kernel_rfl) (by kernel_rfl) ?_ ?_
              · go_simp
                have bl36 : Below x35.heap.size x35 (x35.alloc (.cells #[.int .i64 pa] 3)) := (Below.refl _ _).alloc (Nat.le_refl _) _
                have T36 := Lib.hid (T35.out.below bl36)
                have R2_36 := Lib.hid (R2_35.out.below bl36 (Nat.le_refl _))
                have R1_36 := Lib.hid (Rd.box x35 pa 3)
                have zz36 := Nat.le_trans zz35 bl36.size
                clear bl36
                generalize x35.alloc (.cells #[.int .i64 pa] 3) = x36 at *
                refine ⟨⟨T36.out.bx.b.1, T36.out.bx.b.2.1, T36.out.bx.b.2.2.1⟩, ?_⟩
                refine tame_two (i := 5) (j := 15) (by kernel_rfl) rfl rfl (by kernel_rfl) (by kernel_rfl) ?_ ?_
                · refine op_append_ints _ (.tmp 69) (.tmp 71) rfl w.heap.size A1 P.length c1 P rfl rfl T36.out.o1 (some ⟨x35.heap.size, 0, none⟩) 1 1 [pa] rfl rfl R1_36.out (by simp; omega) T36.out.B.size ?_
                  intro B37 d37 x37 o37 g37 b37
                  have T37 := Lib.hid (T36.out.app1 o37 g37 (b37.imp id fun t => ⟨_, t, Nat.le_refl _⟩))
                  have R2_37 := Lib.hid (R2_36.out.grown g37 (lit_apart zz0 HV1.out))
                  have zz37 := Nat.le_trans zz36 g37.size
                  clear o37 g37 b37
                  refine ⟨fun _ => ⟨T37.out.bx.b.1, T37.out.bx.b.2.1, T37.out.bx.b.2.2.1⟩, ?_⟩
                  simp only [Act.put]
                  refine tame0 (k := 17) ?_ rfl (by kernel_rfl) (by kernel_rfl) (by kernel_rfl) (fun _ _ _ h => h) (by kernel_rfl) (fun v => ?_) ?_
                  rotate_left
                  · (go_simp; all_goals rfl)
                  simp only [Act.put, List.setIfInBounds_toArray]
                  refine tame0 (k := 18) ?_ rfl (by kernel_rfl) (by kernel_rfl) (by kernel_rfl) (fun _ _ _ h => h) (by kernel_rfl) (fun v => ?_) ?_
                  rotate_left
                  · (go_simp; all_goals rfl)
                  simp only [Act.put]
                  refine tame_two (i := 11) (j := 15) (by kernel_rfl) rfl rfl (by kernel_rfl) (by kernel_rfl) ?_ ?_
                  · refine op_append_ints _ (.tmp 75) (.tmp 77) rfl w.heap.size A2 W.length c2 W rfl rfl T37.out.o2 (some ⟨x0.heap.size, 0, none⟩) 1 1 [wt] rfl rfl R2_37.out (by simp; omega) T37.out.B.size ?_
                    intro B38 d38 x38 o38 g38 b38
                    have T38 := Lib.hid (T37.out.app2 o38 g38 (b38.imp id fun t => ⟨_, t, Nat.le_refl _⟩))
                    have zz38 := Nat.le_trans zz37 g38.size
                    clear o38 g38 b38
                    refine ⟨fun _ => ⟨T38.out.bx.b.1, T38.out.bx.b.2.1, T38.out.bx.b.2.2.1⟩, ?_⟩
                    simp only [Act.put]
                    refine tame_one (k := 15) (by kernel_rfl) rfl (by kernel_rfl) ?_
                    go_simp
                    have bl39 : Below x38.heap.size x38 (x38.alloc (.cells #[.int .i64 pr] 3)) := (Below.refl _ _).alloc (Nat.le_refl _) _
                    have T39 := Lib.hid (T38.out.below bl39)
                    have R3_39 := Lib.hid (Rd.box x38 pr 3)
                    have zz39 := Nat.le_trans zz38 bl39.size
                    clear bl39
                    generalize x38.alloc (.cells #[.int .i64 pr] 3) = x39 at *
                    refine ⟨⟨T39.out.bx.b.1, T39.out.bx.b.2.1, T39.out.bx.b.2.2.1⟩, ?_⟩
                    refine tame_one (k := 16) (by kernel_rfl) rfl (by kernel_rfl) ?_
                    refine op_append_ints _ (.tmp 80) (.tmp 82) rfl w.heap.size A3 F.length c3 F rfl rfl T39.out.o3 (some ⟨x38.heap.size, 0, none⟩) 1 1 [pr] rfl rfl R3_39.out (by simp; omega) T39.out.B.size ?_
                    intro B40 d40 x40 o40 g40 b40
                    have T40 := Lib.hid (T39.out.app3 o40 g40 (b40.imp id fun t => ⟨_, t, Nat.le_refl _⟩))
                    have zz40 := Nat.le_trans zz39 g40.size
                    clear o40 g40 b40
                    refine ⟨fun _ => ⟨T40.out.bx.b.1, T40.out.bx.b.2.1, T40.out.bx.b.2.2.1⟩, ?_⟩
                    simp only [Act.put]
                    obtain ⟨⟨f0, f1, f2, f3⟩, f4, f5, f6⟩ := id T40.out.bx
                    refine tame_one (k := 19) (by kernel_rfl) rfl (by kernel_rfl) ?_
                    go_simp
                    try (refine ⟨fun h => absurd h (by decide), ?_⟩)
                    refine tame0 (k := 20) ?_ rfl (by kernel_rfl) (by kernel_rfl) (by kernel_rfl) (fun _ _ _ h => h) (by kernel_rfl) (fun v => ?_) ?_
                    rotate_left
                    · (go_simp; all_goals rfl)
                    simp only [Act.put, List.setIfInBounds_toArray]
                    refine tame0 (k := 21) ?_ rfl (by kernel_rfl) (by kernel_rfl) (by kernel_rfl) (fun _ _ _ h => h) (by kernel_rfl) (fun v => ?_) ?_
                    rotate_left
                    · (go_simp; all_goals rfl)
                    simp only [Act.put]
                    refine tame_one (k := 22) (by kernel_rfl) rfl (by kernel_rfl) ?_
                    go_simp
                    try (refine ⟨fun h => absurd h (by decide), ?_⟩)
                    refine tame0 (k := 23) ?_ rfl (by kernel_rfl) (by kernel_rfl) (by kernel_rfl) (fun _ _ _ h => h) (by kernel_rfl) (fun v => ?_) ?_
                    rotate_left
                    · (go_simp; all_goals rfl)
                    simp only [Act.put, List.setIfInBounds_toArray]
                    refine tame_one (k := 24) (by kernel_rfl) rfl (by kernel_rfl) ?_
                    go_simp
                    try (refine ⟨fun h => absurd h (by decide), ?_⟩)
                    refine tame_end (by kernel_rfl) ?_
                    have TZ := Lib.hid (T40.out.store (n1 := P.length + 1) (n2 := W.length + 1) (n3 := F.length + 1) (by simp) (by simp) (by simp))
                    rw [HP1.out, HW1.out, HF1.out] at TZ
                    show KL _ _
                    exact J19.out _ _ _ _ _ _ _ TZ.out HALL.out _ _ _ _ _ _ _ _ _ _ _ _ _ _ _ _ _ _ _ _ _ _ _ _ _ _ _ _ _ _ _ _ _ _ _ _ _ _ _ _ _ _ _ _ _ _ _ _ _ _ _ _ _ _ _ _ _ _ _ _ _ _
                  · go_simp
                    have bl41 : Below x37.heap.size x37 (x37.alloc (.cells #[.int .i64 pr] 3)) := (Below.refl _ _).alloc (Nat.le_refl _) _
                    have T41 := Lib.hid (T37.out.below bl41)
                    have R2_41 := Lib.hid (R2_37.out.below bl41 (Nat.le_refl _))
                    have R3_41 := Lib.hid (Rd.box x37 pr 3)
                    have zz41 := Nat.le_trans zz37 bl41.size
                    clear bl41
                    generalize x37.alloc (.cells #[.int .i64 pr] 3) = x41 at *
                    refine ⟨⟨T41.out.bx.b.1, T41.out.bx.b.2.1, T41.out.bx.b.2.2.1⟩, ?_⟩
                    refine tame_one (k := 11) (by kernel_rfl) rfl (by kernel_rfl) ?_
                    refine op_append_ints _ (.tmp 75) (.tmp 77) rfl w.heap.size A2 W.length c2 W rfl rfl T41.out.o2 (some ⟨x0.heap.size, 0, none⟩) 1 1 [wt] rfl rfl R2_41.out (by simp; omega) T41.out.B.size ?_
                    intro B42 d42 x42 o42 g42 b42
                    have T42 := Lib.hid (T41.out.app2 o42 g42 (b42.imp id fun t => ⟨_, t, Nat.le_refl _⟩))
                    have R3_42 := Lib.hid (R3_41.out.grown g42 (lit_apart zz37 HV2.out))
                    have zz42 := Nat.le_trans zz41 g42.size
                    clear o42 g42 b42
                    refine ⟨fun _ => ⟨T42.out.bx.b.1, T42.out.bx.b.2.1, T42.out.bx.b.2.2.1⟩, ?_⟩
                    simp only [Act.put]
                    refine tame_one (k := 16) (by kernel_rfl) rfl (by kernel_rfl) ?_
                    refine op_append_ints _ (.tmp 80) (.tmp 82) rfl w.heap.size A3 F.length c3 F rfl rfl T42.out.o3 (some ⟨x37.heap.size, 0, none⟩) 1 1 [pr] rfl rfl R3_42.out (by simp; omega) T42.out.B.size ?_
                    intro B43 d43 x43 o43 g43 b43
                    have T43 := Lib.hid (T42.out.app3 o43 g43 (b43.imp id fun t => ⟨_, t, Nat.le_refl _⟩))
                    have zz43 := Nat.le_trans zz42 g43.size
                    clear o43 g43 b43
                    refine ⟨fun _ => ⟨T43.out.bx.b.1, T43.out.bx.b.2.1, T43.out.bx.b.2.2.1⟩, ?_⟩
                    simp only [Act.put]
                    obtain ⟨⟨f0, f1, f2, f3⟩, f4, f5, f6⟩ := id T43.out.bx
                    refine tame_one (k := 19) (by kernel_rfl) rfl (by kernel_rfl) ?_
                    go_simp
                    try (refine ⟨fun h => absurd h (by decide), ?_⟩)
                    refine tame0 (k := 20) ?_ rfl (by kernel_rfl) (by kernel_rfl) (by kernel_rfl) (fun _ _ _ h => h) (by kernel_rfl) (fun v => ?_) ?_
                    rotate_left
                    · (go_simp; all_goals rfl)
                    simp only [Act.put, List.setIfInBounds_toArray]
                    refine tame0 (k := 21) ?_ rfl (by kernel_rfl) (by kernel_rfl) (by kernel_rfl) (fun _ _ _ h => h) (by kernel_rfl) (fun v => ?_) ?_
                    rotate_left
                    · (go_simp; all_goals rfl)
                    simp only [Act.put]
                    refine tame_one (k := 22) (by kernel_rfl) rfl (by kernel_rfl) ?_
                    go_simp
                    try (refine ⟨fun h => absurd h (by decide), ?_⟩)
                    refine tame0 (k := 23) ?_ rfl (by kernel_rfl) (by kernel_rfl) (by kernel_rfl) (fun _ _ _ h => h) (by kernel_rfl) (fun v => ?_) ?_
                    rotate_left
                    · (go_simp; all_goals rfl)
                    simp only [Act.put, List.setIfInBounds_toArray]
                    refine tame_one (k := 24) (by kernel_rfl) rfl (by kernel_rfl) ?_
                    go_simp
                    try (refine ⟨fun h => absurd h (by decide), ?_⟩)
                    refine tame_end (by kernel_rfl) ?_
                    have TZ := Lib.hid (T43.out.store (n1 := P.length + 1) (n2 := W.length + 1) (n3 := F.length + 1) (by simp) (by simp) (by simp))
                    rw [HP1.out, HW1.out, HF1.out] at TZ
                    show KL _ _
                    exact J19.out _ _ _ _ _ _ _ TZ.out HALL.out _ _ _ _ _ _ _ _ _ _ _ _ _ _ _ _ _ _ _ _ _ _ _ _ _ _ _ _ _ _ _ _ _ _ _ _ _ _ _ _ _ _ _ _ _ _ _ _ _ _ _ _ _ _ _ _ _ _ _ _ _ _
                · go_simp
                  have bl44 : Below x36.heap.size x36 (x36.alloc (.cells #[.int .i64 pr] 3)) := (Below.refl _ _).alloc (Nat.le_refl _) _
                  have T44 := Lib.hid (T36.out.below bl44)
                  have R2_44 := Lib.hid (R2_36.out.below bl44 (Nat.le_refl _))
                  have R1_44 := Lib.hid (R1_36.out.below bl44 (Nat.le_refl _))
                  have R3_44 := Lib.hid (Rd.box x36 pr 3)
                  have zz44 := Nat.le_trans zz36 bl44.size
                  clear bl44
                  generalize x36.alloc (.cells #[.int .i64 pr] 3) = x44 at *
                  refine ⟨⟨T44.out.bx.b.1, T44.out.bx.b.2.1, T44.out.bx.b.2.2.1⟩, ?_⟩
                  refine tame_one (k := 5) (by kernel_rfl) rfl (by kernel_rfl) ?_
                  refine op_append_ints _ (.tmp 69) (.tmp 71) rfl w.heap.size A1 P.length c1 P rfl rfl T44.out.o1 (some ⟨x35.heap.size, 0, none⟩) 1 1 [pa] rfl rfl R1_44.out (by simp; omega) T44.out.B.size ?_
                  intro B45 d45 x45 o45 g45 b45
                  have T45 := Lib.hid (T44.out.app1 o45 g45 (b45.imp id fun t => ⟨_, t, Nat.le_refl _⟩))
                  have R2_45 := Lib.hid (R2_44.out.grown g45 (lit_apart zz0 HV1.out))
                  have R3_45 := Lib.hid (R3_44.out.grown g45 (lit_apart zz36 HV1.out))
                  have zz45 := Nat.le_trans zz44 g45.size
                  clear o45 g45 b45
                  refine ⟨fun _ => ⟨T45.out.bx.b.1, T45.out.bx.b.2.1, T45.out.bx.b.2.2.1⟩, ?_⟩
                  simp only [Act.put]
                  refine tame0 (k := 17) ?_ rfl (by kernel_rfl) (by kernel_rfl) (by kernel_rfl) (fun _ _ _ h => h) (by kernel_rfl) (fun v => ?_) ?_
                  rotate_left
                  · (go_simp; all_goals rfl)
                  simp only [Act.put, List.setIfInBounds_toArray]
                  refine tame0 (k := 18) ?_ rfl (by kernel_rfl) (by kernel_rfl) (by kernel_rfl) (fun _ _ _ h => h) (by kernel_rfl) (fun v => ?_) ?_
                  rotate_left
                  · (go_simp; all_goals rfl)
                  simp only [Act.put]
                  refine tame_one (k := 11) (by kernel_rfl) rfl (by kernel_rfl) ?_
                  refine op_append_ints _ (.tmp 75) (.tmp 77) rfl w.heap.size A2 W.length c2 W rfl rfl T45.out.o2 (some ⟨x0.heap.size, 0, none⟩) 1 1 [wt] rfl rfl R2_45.out (by simp; omega) T45.out.B.size ?_
                  intro B46 d46 x46 o46 g46 b46
                  have T46 := Lib.hid (T45.out.app2 o46 g46 (b46.imp id fun t => ⟨_, t, Nat.le_refl _⟩))
                  have R3_46 := Lib.hid (R3_45.out.grown g46 (lit_apart zz36 HV2.out))
                  have zz46 := Nat.le_trans zz45 g46.size
                  clear o46 g46 b46
                  refine ⟨fun _ => ⟨T46.out.bx.b.1, T46.out.bx.b.2.1, T46.out.bx.b.2.2.1⟩, ?_⟩
                  simp only [Act.put]
                  refine tame_one (k := 16) (by kernel_rfl) rfl (by kernel_rfl) ?_
                  refine op_append_ints _ (.tmp 80) (.tmp 82) rfl w.heap.size A3 F.length c3 F rfl rfl T46.out.o3 (some ⟨x36.heap.size, 0, none⟩) 1 1 [pr] rfl rfl R3_46.out (by simp; omega) T46.out.B.size ?_
                  intro B47 d47 x47 o47 g47 b47
                  have T47 := Lib.hid (T46.out.app3 o47 g47 (b47.imp id fun t => ⟨_, t, Nat.le_refl _⟩))
                  have zz47 := Nat.le_trans zz46 g47.size
                  clear o47 g47 b47
                  refine ⟨fun _ => ⟨T47.out.bx.b.1, T47.out.bx.b.2.1, T47.out.bx.b.2.2.1⟩, ?_⟩
                  simp only [Act.put]
                  obtain ⟨⟨f0, f1, f2, f3⟩, f4, f5, f6⟩ := id T47.out.bx
                  refine tame_one (k := 19) (by kernel_rfl) rfl (by kernel_rfl) ?_
                  go_simp
                  try (refine ⟨fun h => absurd h (by decide), ?_⟩)
                  refine tame0 (k := 20) ?_ rfl (by kernel_rfl) (by kernel_rfl) (by kernel_rfl) (fun _ _ _ h => h) (by kernel_rfl) (fun v => ?_) ?_
                  rotate_left
                  · (go_simp; all_goals rfl)
                  simp only [Act.put, List.setIfInBounds_toArray]
                  refine tame0 (k := 21) ?_ rfl (by kernel_rfl) (by kernel_rfl) (by kernel_rfl) (fun _ _ _ h => h) (by kernel_rfl) (fun v => ?_) ?_
                  rotate_left
                  · (go_simp; all_goals rfl)
                  simp only [Act.put]
                  refine tame_one (k := 22) (by kernel_rfl) rfl (by kernel_rfl) ?_
                  go_simp
                  try (refine ⟨fun h => absurd h (by decide), ?_⟩)
                  refine tame0 (k := 23) ?_ rfl (by kernel_rfl) (by kernel_rfl) (by kernel_rfl) (fun _ _ _ h => h) (by kernel_rfl) (fun v => ?_) ?_
                  rotate_left
                  · (go_simp; all_goals rfl)
                  simp only [Act.put, List.setIfInBounds_toArray]
                  refine tame_one (k := 24) (by kernel_rfl) rfl (by kernel_rfl) ?_
                  go_simp
                  try (refine ⟨fun h => absurd h (by decide), ?_⟩)
                  refine tame_end (by kernel_rfl) ?_
                  have TZ := Lib.hid (T47.out.store (n1 := P.length + 1) (n2 := W.length + 1) (n3 := F.length + 1) (by simp) (by simp) (by simp))
                  rw [HP1.out, HW1.out, HF1.out] at TZ
                  show KL _ _
                  exact J19.out _ _ _ _ _ _ _ TZ.out HALL.out _ _ _ _ _ _ _ _ _ _ _ _ _ _ _ _ _ _ _ _ _ _ _ _ _ _ _ _ _ _ _ _ _ _ _ _ _ _ _ _ _ _ _ _ _ _ _ _ _ _ _ _ _ _ _ _ _ _ _ _ _ _
              · go_simp
                have bl48 : Below x35.heap.size x35 (x35.alloc (.cells #[.int .i64 pr] 3)) := (Below.refl _ _).alloc (Nat.le_refl _) _
                have T48 := Lib.hid (T35.out.below bl48)
                have R2_48 := Lib.hid (R2_35.out.below bl48 (Nat.le_refl _))
                have R3_48 := Lib.hid (Rd.box x35 pr 3)
                have zz48 := Nat.le_trans zz35 bl48.size
                clear bl48
                generalize x35.alloc (.cells #[.int .i64 pr] 3) = x48 at *
                refine ⟨⟨T48.out.bx.b.1, T48.out.bx.b.2.1, T48.out.bx.b.2.2.1⟩, ?_⟩
                refine tame_one (k := 4) (by kernel_rfl) rfl (by kernel_rfl) ?_
                go_simp
                have bl49 : Below x48.heap.size x48 (x48.alloc (.cells #[.int .i64 pa] 3)) := (Below.refl _ _).alloc (Nat.le_refl _) _
                have T49 := Lib.hid (T48.out.below bl49)
                have R2_49 := Lib.hid (R2_48.out.below bl49 (Nat.le_refl _))
                have R3_49 := Lib.hid (R3_48.out.below bl49 (Nat.le_refl _))
                have R1_49 := Lib.hid (Rd.box x48 pa 3)
                have zz49 := Nat.le_trans zz48 bl49.size
                clear bl49
                generalize x48.alloc (.cells #[.int .i64 pa] 3) = x49 at *
                refine ⟨⟨T49.out.bx.b.1, T49.out.bx.b.2.1, T49.out.bx.b.2.2.1⟩, ?_⟩
                refine tame_one (k := 5) (by kernel_rfl) rfl (by kernel_rfl) ?_
                refine op_append_ints _ (.tmp 69) (.tmp 71) rfl w.heap.size A1 P.length c1 P rfl rfl T49.out.o1 (some ⟨x48.heap.size, 0, none⟩) 1 1 [pa] rfl rfl R1_49.out (by simp; omega) T49.out.B.size ?_
                intro B50 d50 x50 o50 g50 b50
                have T50 := Lib.hid (T49.out.app1 o50 g50 (b50.imp id fun t => ⟨_, t, Nat.le_refl _⟩))
                have R2_50 := Lib.hid (R2_49.out.grown g50 (lit_apart zz0 HV1.out))
                have R3_50 := Lib.hid (R3_49.out.grown g50 (lit_apart zz35 HV1.out))
                have zz50 := Nat.le_trans zz49 g50.size
                clear o50 g50 b50
                refine ⟨fun _ => ⟨T50.out.bx.b.1, T50.out.bx.b.2.1, T50.out.bx.b.2.2.1⟩, ?_⟩
                simp only [Act.put]
                refine tame0 (k := 17) ?_ rfl (by kernel_rfl) (by kernel_rfl) (by kernel_rfl) (fun _ _ _ h => h) (by kernel_rfl) (fun v => ?_) ?_
                rotate_left
                · (go_simp; all_goals rfl)
                simp only [Act.put, List.setIfInBounds_toArray]
                refine tame0 (k := 18) ?_ rfl (by kernel_rfl) (by kernel_rfl) (by kernel_rfl) (fun _ _ _ h => h) (by kernel_rfl) (fun v => ?_) ?_
                rotate_left
                · (go_simp; all_goals rfl)
                simp only [Act.put]
                refine tame_one (k := 11) (by kernel_rfl) rfl (by kernel_rfl) ?_
                refine op_append_ints _ (.tmp 75) (.tmp 77) rfl w.heap.size A2 W.length c2 W rfl rfl T50.out.o2 (some ⟨x0.heap.size, 0, none⟩) 1 1 [wt] rfl rfl R2_50.out (by simp; omega) T50.out.B.size ?_
                intro B51 d51 x51 o51 g51 b51
                have T51 := Lib.hid (T50.out.app2 o51 g51 (b51.imp id fun t => ⟨_, t, Nat.le_refl _⟩))
                have R3_51 := Lib.hid (R3_50.out.grown g51 (lit_apart zz35 HV2.out))
                have zz51 := Nat.le_trans zz50 g51.size
                clear o51 g51 b51
                refine ⟨fun _ => ⟨T51.out.bx.b.1, T51.out.bx.b.2.1, T51.out.bx.b.2.2.1⟩, ?_⟩
                simp only [Act.put]
                refine tame_one (k := 16) (by kernel_rfl) rfl (by kernel_rfl) ?_
                refine op_append_ints _ (.tmp 80) (.tmp 82) rfl w.heap.size A3 F.length c3 F rfl rfl T51.out.o3 (some ⟨x35.heap.size, 0, none⟩) 1 1 [pr] rfl rfl R3_51.out (by simp; omega) T51.out.B.size ?_
                intro B52 d52 x52 o52 g52 b52
                have T52 := Lib.hid (T51.out.app3 o52 g52 (b52.imp id fun t => ⟨_, t, Nat.le_refl _⟩))
                have zz52 := Nat.le_trans zz51 g52.size
                clear o52 g52 b52
                refine ⟨fun _ => ⟨T52.out.bx.b.1, T52.out.bx.b.2.1, T52.out.bx.b.2.2.1⟩, ?_⟩
                simp only [Act.put]
                obtain ⟨⟨f0, f1, f2, f3⟩, f4, f5, f6⟩ := id T52.out.bx
                refine tame_one (k := 19) (by kernel_rfl) rfl (by kernel_rfl) ?_
                go_simp
                try (refine ⟨fun h => absurd h (by decide), ?_⟩)
                refine tame0 (k := 20) ?_ rfl (by kernel_rfl) (by kernel_rfl) (by kernel_rfl) (fun _ _ _ h => h) (by kernel_rfl) (fun v => ?_) ?_
                rotate_left
                · (go_simp; all_goals rfl)
                simp only [Act.put, List.setIfInBounds_toArray]
                refine tame0 (k := 21) ?_ rfl (by kernel_rfl) (by kernel_rfl) (by kernel_rfl) (fun _ _ _ h => h) (by kernel_rfl) (fun v => ?_) ?_
                rotate_left
                · (go_simp; all_goals rfl)
                simp only [Act.put]
                refine tame_one (k := 22) (by kernel_rfl) rfl (by kernel_rfl) ?_
                go_simp
                try (refine ⟨fun h => absurd h (by decide), ?_⟩)
                refine tame0 (k := 23) ?_ rfl (by kernel_rfl) (by kernel_rfl) (by kernel_rfl) (fun _ _ _ h => h) (by kernel_rfl) (fun v => ?_) ?_
                rotate_left
                · (go_simp; all_goals rfl)
                simp only [Act.put, List.setIfInBounds_toArray]
                refine tame_one (k := 24) (by kernel_rfl) rfl (by kernel_rfl) ?_
                go_simp
                try (refine ⟨fun h => absurd h (by decide), ?_⟩)
                refine tame_end (by kernel_rfl) ?_
                have TZ := Lib.hid (T52.out.store (n1 := P.length + 1) (n2 := W.length + 1) (n3 := F.length + 1) (by simp) (by simp) (by simp))
                rw [HP1.out, HW1.out, HF1.out] at TZ
                show KL _ _
                exact J19.out _ _ _ _ _ _ _ TZ.out HALL.out _ _ _ _ _ _ _ _ _ _ _ _ _ _ _ _ _ _ _ _ _ _ _ _ _ _ _ _ _ _ _ _ _ _ _ _ _ _ _ _ _ _ _ _ _ _ _ _ _ _ _ _ _ _ _ _ _ _ _ _ _ _
            · go_simp
              have bl53 : Below x0.heap.size x0 (x0.alloc (.cells #[.int .i64 pr] 3)) := (Below.refl _ _).alloc (Nat.le_refl _) _
              have T53 := Lib.hid (TX.out.below bl53)
              have R3_53 := Lib.hid (Rd.box x0 pr 3)
              have zz53 := Nat.le_trans zz0 bl53.size
              clear bl53
              generalize x0.alloc (.cells #[.int .i64 pr] 3) = x53 at *
              refine ⟨⟨T53.out.bx.b.1, T53.out.bx.b.2.1, T53.out.bx.b.2.2.1⟩, ?_⟩
              refine tame_two (i := 4) (j := 10) (by kernel_rfl) rfl rfl (by kernel_rfl) (by kernel_rfl) ?_ ?_
              · go_simp
                have bl54 : Below x53.heap.size x53 (x53.alloc (.cells #[.int .i64 pa] 3)) := (Below.refl _ _).alloc (Nat.le_refl _) _
                have T54 := Lib.hid (T53.out.below bl54)
                have R3_54 := Lib.hid (R3_53.out.below bl54 (Nat.le_refl _))
                have R1_54 := Lib.hid (Rd.box x53 pa 3)
                have zz54 := Nat.le_trans zz53 bl54.size
                clear bl54
                generalize x53.alloc (.cells #[.int .i64 pa] 3) = x54 at *
                refine ⟨⟨T54.out.bx.b.1, T54.out.bx.b.2.1, T54.out.bx.b.2.2.1⟩, ?_⟩
                refine tame_two (i := 5) (j := 10) (by kernel_rfl) rfl rfl (by kernel_rfl) (by kernel_rfl) ?_ ?_
                · refine op_append_ints _ (.tmp 69) (.tmp 71) rfl w.heap.size A1 P.length c1 P rfl rfl T54.out.o1 (some ⟨x53.heap.size, 0, none⟩) 1 1 [pa] rfl rfl R1_54.out (by simp; omega) T54.out.B.size ?_
                  intro B55 d55 x55 o55 g55 b55
                  have T55 := Lib.hid (T54.out.app1 o55 g55 (b55.imp id fun t => ⟨_, t, Nat.le_refl _⟩))
                  have R3_55 := Lib.hid (R3_54.out.grown g55 (lit_apart zz0 HV1.out))
                  have zz55 := Nat.le_trans zz54 g55.size
                  clear o55 g55 b55
                  refine ⟨fun _ => ⟨T55.out.bx.b.1, T55.out.bx.b.2.1, T55.out.bx.b.2.2.1⟩, ?_⟩
                  simp only [Act.put]
                  refine tame0 (k := 17) ?_ rfl (by kernel_rfl) (by kernel_rfl) (by kernel_rfl) (fun _ _ _ h => h) (by kernel_rfl) (fun v => ?_) ?_
                  rotate_left
                  · (go_simp; all_goals rfl)
                  simp only [Act.put, List.setIfInBounds_toArray]
                  refine tame0 (k := 18) ?_ rfl (by kernel_rfl) (by kernel_rfl) (by kernel_rfl) (fun _ _ _ h => h) (by kernel_rfl) (fun v => ?_) ?_
                  rotate_left
                  · (go_simp; all_goals rfl)
                  simp only [Act.put]
                  refine tame_one (k := 10) (by kernel_rfl) rfl (by kernel_rfl) ?_
                  go_simp
                  have bl56 : Below x55.heap.size x55 (x55.alloc (.cells #[.int .i64 wt] 3)) := (Below.refl _ _).alloc (Nat.le_refl _) _
                  have T56 := Lib.hid (T55.out.below bl56)
                  have R3_56 := Lib.hid (R3_55.out.below bl56 (Nat.le_refl _))
                  have R2_56 := Lib.hid (Rd.box x55 wt 3)
                  have zz56 := Nat.le_trans zz55 bl56.size
                  clear bl56
                  generalize x55.alloc (.cells #[.int .i64 wt] 3) = x56 at *
                  refine ⟨⟨T56.out.bx.b.1, T56.out.bx.b.2.1, T56.out.bx.b.2.2.1⟩, ?_⟩
                  refine tame_one (k := 11) (by kernel_rfl) rfl (by kernel_rfl) ?_
                  refine op_append_ints _ (.tmp 75) (.tmp 77) rfl w.heap.size A2 W.length c2 W rfl rfl T56.out.o2 (some ⟨x55.heap.size, 0, none⟩) 1 1 [wt] rfl rfl R2_56.out (by simp; omega) T56.out.B.size ?_
                  intro B57 d57 x57 o57 g57 b57
                  have T57 := Lib.hid (T56.out.app2 o57 g57 (b57.imp id fun t => ⟨_, t, Nat.le_refl _⟩))
                  have R3_57 := Lib.hid (R3_56.out.grown g57 (lit_apart zz0 HV2.out))
                  have zz57 := Nat.le_trans zz56 g57.size
                  clear o57 g57 b57
                  refine ⟨fun _ => ⟨T57.out.bx.b.1, T57.out.bx.b.2.1, T57.out.bx.b.2.2.1⟩, ?_⟩
                  simp only [Act.put]
                  refine tame_one (k := 16) (by kernel_rfl) rfl (by kernel_rfl) ?_
                  refine op_append_ints _ (.tmp 80) (.tmp 82) rfl w.heap.size A3 F.length c3 F rfl rfl T57.out.o3 (some ⟨x0.heap.size, 0, none⟩) 1 1 [pr] rfl rfl R3_57.out (by simp; omega) T57.out.B.size ?_
                  intro B58 d58 x58 o58 g58 b58
                  have T58 := Lib.hid (T57.out.app3 o58 g58 (b58.imp id fun t => ⟨_, t, Nat.le_refl _⟩))
                  have zz58 := Nat.le_trans zz57 g58.size
                  clear o58 g58 b58
                  refine ⟨fun _ => ⟨T58.out.bx.b.1, T58.out.bx.b.2.1, T58.out.bx.b.2.2.1⟩, ?_⟩
                  simp only [Act.put]
                  obtain ⟨⟨f0, f1, f2, f3⟩, f4, f5, f6⟩ := id T58.out.bx
                  refine tame_one (k := 19) (by kernel_rfl) rfl (by kernel_rfl) ?_
                  go_simp
                  try (refine ⟨fun h => absurd h (by decide), ?_⟩)
                  refine tame0 (k := 20) ?_ rfl (by kernel_rfl) (by kernel_rfl) (by kernel_rfl) (fun _ _ _ h => h) (by kernel_rfl) (fun v => ?_) ?_
                  rotate_left
                  · (go_simp; all_goals rfl)
                  simp only [Act.put, List.setIfInBounds_toArray]
                  refine tame0 (k := 21) ?_ rfl (by kernel_rfl) (by kernel_rfl) (by kernel_rfl) (fun _ _ _ h => h) (by kernel_rfl) (fun v => ?_) ?_
                  rotate_left
                  · (go_simp; all_goals rfl)
                  simp only [Act.put]
                  refine tame_one (k := 22) (by kernel_rfl) rfl (by kernel_rfl) ?_
                  go_simp
                  try (refine ⟨fun h => absurd h (by decide), ?_⟩)
                  refine tame0 (k := 23) ?_ rfl (by kernel_rfl) (by kernel_rfl) (by kernel_rfl) (fun _ _ _ h => h) (by kernel_rfl) (fun v => ?_) ?_
                  rotate_left
                  · (go_simp; all_goals rfl)
                  simp only [Act.put, List.setIfInBounds_toArray]
                  refine tame_one (k := 24) (by kernel_rfl) rfl (by kernel_rfl) ?_
                  go_simp
                  try (refine ⟨fun h => absurd h (by decide), ?_⟩)
                  refine tame_end (by kernel_rfl) ?_
                  have TZ := Lib.hid (T58.out.store (n1 := P.length + 1) (n2 := W.length + 1) (n3 := F.length + 1) (by simp) (by simp) (by simp))
                  rw [HP1.out, HW1.out, HF1.out] at TZ
                  show KL _ _
                  exact J19.out _ _ _ _ _ _ _ TZ.out HALL.out _ _ _ _ _ _ _ _ _ _ _ _ _ _ _ _ _ _ _ _ _ _ _ _ _ _ _ _ _ _ _ _ _ _ _ _ _ _ _ _ _ _ _ _ _ _ _ _ _ _ _ _ _ _ _ _ _ _ _ _ _ _
                · go_simp
                  have bl59 : Below x54.heap.size x54 (x54.alloc (.cells #[.int .i64 wt] 3)) := (Below.refl _ _).alloc (Nat.le_refl _) _
                  have T59 := Lib.hid (T54.out.below bl59)
                  have R3_59 := Lib.hid (R3_54.out.below bl59 (Nat.le_refl _))
                  have R1_59 := Lib.hid (R1_54.out.below bl59 (Nat.le_refl _))
                  have R2_59 := Lib.hid (Rd.box x54 wt 3)
                  have zz59 := Nat.le_trans zz54 bl59.size
                  clear bl59
                  generalize x54.alloc (.cells #[.int .i64 wt] 3) = x59 at *
                  refine ⟨⟨T59.out.bx.b.1, T59.out.bx.b.2.1, T59.out.bx.b.2.2.1⟩, ?_⟩
                  refine tame_one (k := 5) (by kernel_rfl) rfl (by kernel_rfl) ?_
                  refine op_append_ints _ (.tmp 69) (.tmp 71) rfl w.heap.size A1 P.length c1 P rfl rfl T59.out.o1 (some ⟨x53.heap.size, 0, none⟩) 1 1 [pa] rfl rfl R1_59.out (by simp; omega) T59.out.B.size ?_
                  intro B60 d60 x60 o60 g60 b60
                  have T60 := Lib.hid (T59.out.app1 o60 g60 (b60.imp id fun t => ⟨_, t, Nat.le_refl _⟩))
                  have R3_60 := Lib.hid (R3_59.out.grown g60 (lit_apart zz0 HV1.out))
                  have R2_60 := Lib.hid (R2_59.out.grown g60 (lit_apart zz54 HV1.out))
                  have zz60 := Nat.le_trans zz59 g60.size
                  clear o60 g60 b60
                  refine ⟨fun _ => ⟨T60.out.bx.b.1, T60.out.bx.b.2.1, T60.out.bx.b.2.2.1⟩, ?_⟩
                  simp only [Act.put]
                  refine tame0 (k := 17) ?_ rfl (by kernel_rfl) (by kernel_rfl) (by kernel_rfl) (fun _ _ _ h => h) (by kernel_rfl) (fun v => ?_) ?_
                  rotate_left
                  · (go_simp; all_goals rfl)
                  simp only [Act.put, List.setIfInBounds_toArray]
                  refine tame0 (k := 18) ?_ rfl (by kernel_rfl) (by kernel_rfl) (by kernel_rfl) (fun _ _ _ h => h) (by kernel_rfl) (fun v => ?_) ?_
                  rotate_left
                  · (go_simp; all_goals rfl)
                  simp only [Act.put]
                  refine tame_one (k := 11) (by kernel_rfl) rfl (by kernel_rfl) ?_
                  refine op_append_ints _ (.tmp 75) (.tmp 77) rfl w.heap.size A2 W.length c2 W rfl rfl T60.out.o2 (some ⟨x54.heap.size, 0, none⟩) 1 1 [wt] rfl rfl R2_60.out (by simp; omega) T60.out.B.size ?_
                  intro B61 d61 x61 o61 g61 b61
                  have T61 := Lib.hid (T60.out.app2 o61 g61 (b61.imp id fun t => ⟨_, t, Nat.le_refl _⟩))
                  have R3_61 := Lib.hid (R3_60.out.grown g61 (lit_apart zz0 HV2.out))
                  have zz61 := Nat.le_trans zz60 g61.size
                  clear o61 g61 b61
                  refine ⟨fun _ => ⟨T61.out.bx.b.1, T61.out.bx.b.2.1, T61.out.bx.b.2.2.1⟩, ?_⟩
                  simp only [Act.put]
                  refine tame_one (k := 16) (by kernel_rfl) rfl (by kernel_rfl) ?_
                  refine op_append_ints _ (.tmp 80) (.tmp 82) rfl w.heap.size A3 F.length c3 F rfl rfl T61.out.o3 (some ⟨x0.heap.size, 0, none⟩) 1 1 [pr] rfl rfl R3_61.out (by simp; omega) T61.out.B.size ?_
                  intro B62 d62 x62 o62 g62 b62
                  have T62 := Lib.hid (T61.out.app3 o62 g62 (b62.imp id fun t => ⟨_, t, Nat.le_refl _⟩))
                  have zz62 := Nat.le_trans zz61 g62.size
                  clear o62 g62 b62
                  refine ⟨fun _ => ⟨T62.out.bx.b.1, T62.out.bx.b.2.1, T62.out.bx.b.2.2.1⟩, ?_⟩
                  simp only [Act.put]
                  obtain ⟨⟨f0, f1, f2, f3⟩, f4, f5, f6⟩ := id T62.out.bx
                  refine tame_one (k := 19) (by kernel_rfl) rfl (by kernel_rfl) ?_
                  go_simp
                  try (refine ⟨fun h => absurd h (by decide), ?_⟩)
                  refine tame0 (k := 20) ?_ rfl (by kernel_rfl) (by kernel_rfl) (by kernel_rfl) (fun _ _ _ h => h) (by kernel_rfl) (fun v => ?_) ?_
                  rotate_left
                  · (go_simp; all_goals rfl)
                  simp only [Act.put, List.setIfInBounds_toArray]
                  refine tame0 (k := 21) ?_ rfl (by kernel_rfl) (by kernel_rfl) (by kernel_rfl) (fun _ _ _ h => h) (by kernel_rfl) (fun v => ?_) ?_
                  rotate_left
                  · (go_simp; all_goals rfl)
                  simp only [Act.put]
                  refine tame_one (k := 22) (by kernel_rfl) rfl (by kernel_rfl) ?_
                  go_simp
                  try (refine ⟨fun h => absurd h (by decide), ?_⟩)
                  refine tame0 (k := 23) ?_ rfl (by kernel_rfl) (by kernel_rfl) (by kernel_rfl) (fun _ _ _ h => h) (by kernel_rfl) (fun v => ?_) ?_
                  rotate_left
                  · (go_simp; all_goals rfl)
                  simp only [Act.put, List.setIfInBounds_toArray]
                  refine tame_one (k := 24) (by kernel_rfl) rfl (by kernel_rfl) ?_
                  go_simp
                  try (refine ⟨fun h => absurd h (by decide), ?_⟩)
                  refine tame_end (by kernel_rfl) ?_
                  have TZ := Lib.hid (T62.out.store (n1 := P.length + 1) (n2 := W.length + 1) (n3 := F.length + 1) (by simp) (by simp) (by simp))
                  rw [HP1.out, HW1.out, HF1.out] at TZ
                  show KL _ _
                  exact J19.out _ _ _ _ _ _ _ TZ.out HALL.out _ _ _ _ _ _ _ _ _ _ _ _ _ _ _ _ _ _ _ _ _ _ _ _ _ _ _ _ _ _ _ _ _ _ _ _ _ _ _ _ _ _ _ _ _ _ _ _ _ _ _ _ _ _ _ _ _ _ _ _ _ _
              · go_simp
                have bl63 : Below x53.heap.size x53 (x53.alloc (.cells #[.int .i64 wt] 3)) := (Below.refl _ _).alloc (Nat.le_refl _) _
                have T63 := Lib.hid (T53.out.below bl63)
                have R3_63 := Lib.hid (R3_53.out.below bl63 (Nat.le_refl _))
                have R2_63 := Lib.hid (Rd.box x53 wt 3)
                have zz63 := Nat.le_trans zz53 bl63.size
                clear bl63
                generalize x53.alloc (.cells #[.int .i64 wt] 3) = x63 at *
                refine ⟨⟨T63.out.bx.b.1, T63.out.bx.b.2.1, T63.out.bx.b.2.2.1⟩, ?_⟩
                refine tame_one (k := 4) (by kernel_rfl) rfl (by kernel_rfl) ?_
                go_simp
                have bl64 : Below x63.heap.size x63 (x63.alloc (.cells #[.int .i64 pa] 3)) := (Below.refl _ _).alloc (Nat.le_refl _) _
                have T64 := Lib.hid (T63.out.below bl64)
                have R3_64 := Lib.hid (R3_63.out.below bl64 (Nat.le_refl _))
                have R2_64 := Lib.hid (R2_63.out.below bl64 (Nat.le_refl _))
                have R1_64 := Lib.hid (Rd.box x63 pa 3)
                have zz64 := Nat.le_trans zz63 bl64.size
                clear bl64
                generalize x63.alloc (.cells #[.int .i64 pa] 3) = x64 at *
                refine ⟨⟨T64.out.bx.b.1, T64.out.bx.b.2.1, T64.out.bx.b.2.2.1⟩, ?_⟩
                refine tame_one (k := 5) (by kernel_rfl) rfl (by kernel_rfl) ?_
                refine op_append_ints _ (.tmp 69) (.tmp 71) rfl w.heap.size A1 P.length c1 P rfl rfl T64.out.o1 (some ⟨x63.heap.size, 0, none⟩) 1 1 [pa] rfl rfl R1_64.out (by simp; omega) T64.out.B.size ?_
                intro B65 d65 x65 o65 g65 b65
                have T65 := Lib.hid (T64.out.app1 o65 g65 (b65.imp id fun t => ⟨_, t, Nat.le_refl _⟩))
                have R3_65 := Lib.hid (R3_64.out.grown g65 (lit_apart zz0 HV1.out))
                have R2_65 := Lib.hid (R2_64.out.grown g65 (lit_apart zz53 HV1.out))
                have zz65 := Nat.le_trans zz64 g65.size
                clear o65 g65 b65
                refine ⟨fun _ => ⟨T65.out.bx.b.1, T65.out.bx.b.2.1, T65.out.bx.b.2.2.1⟩, ?_⟩
                simp only [Act.put]
                refine tame0 (k := 17) ?_ rfl (by kernel_rfl) (by kernel_rfl) (by kernel_rfl) (fun _ _ _ h => h) (by kernel_rfl) (fun v => ?_) ?_
                rotate_left
                · (go_simp; all_goals rfl)
                simp only [Act.put, List.setIfInBounds_toArray]
                refine tame0 (k := 18) ?_ rfl (by kernel_rfl) (by kernel_rfl) (by kernel_rfl) (fun _ _ _ h => h) (by kernel_rfl) (fun v => ?_) ?_
                rotate_left
                · (go_simp; all_goals rfl)
                simp only [Act.put]
                refine tame_one (k := 11) (by kernel_rfl) rfl (by kernel_rfl) ?_
                refine op_append_ints _ (.tmp 75) (.tmp 77) rfl w.heap.size A2 W.length c2 W rfl rfl T65.out.o2 (some ⟨x53.heap.size, 0, none⟩) 1 1 [wt] rfl rfl R2_65.out (by simp; omega) T65.out.B.size ?_
                intro B66 d66 x66 o66 g66 b66
                have T66 := Lib.hid (T65.out.app2 o66 g66 (b66.imp id fun t => ⟨_, t, Nat.le_refl _⟩))
                have R3_66 := Lib.hid (R3_65.out.grown g66 (lit_apart zz0 HV2.out))
                have zz66 := Nat.le_trans zz65 g66.size
                clear o66 g66 b66
                refine ⟨fun _ => ⟨T66.out.bx.b.1, T66.out.bx.b.2.1, T66.out.bx.b.2.2.1⟩, ?_⟩
                simp only [Act.put]
                refine tame_one (k := 16) (by kernel_rfl) rfl (by kernel_rfl) ?_
                refine op_append_ints _ (.tmp 80) (.tmp 82) rfl w.heap.size A3 F.length c3 F rfl rfl T66.out.o3 (some ⟨x0.heap.size, 0, none⟩) 1 1 [pr] rfl rfl R3_66.out (by simp; omega) T66.out.B.size ?_
                intro B67 d67 x67 o67 g67 b67
                have T67 := Lib.hid (T66.out.app3 o67 g67 (b67.imp id fun t => ⟨_, t, Nat.le_refl _⟩))
                have zz67 := Nat.le_trans zz66 g67.size
                clear o67 g67 b67
                refine ⟨fun _ => ⟨T67.out.bx.b.1, T67.out.bx.b.2.1, T67.out.bx.b.2.2.1⟩, ?_⟩
                simp only [Act.put]
                obtain ⟨⟨f0, f1, f2, f3⟩, f4, f5, f6⟩ := id T67.out.bx
                refine tame_one (k := 19) (by kernel_rfl) rfl (by kernel_rfl) ?_
                go_simp
                try (refine ⟨fun h => absurd h (by decide), ?_⟩)
                refine tame0 (k := 20) ?_ rfl (by kernel_rfl) (by kernel_rfl) (by kernel_rfl) (fun _ _ _ h => h) (by kernel_rfl) (fun v => ?_) ?_
                rotate_left
                · (go_simp; all_goals rfl)
                simp only [Act.put, List.setIfInBounds_toArray]
                refine tame0 (k := 21) ?_ rfl (by kernel_rfl) (by kernel_rfl) (by kernel_rfl) (fun _ _ _ h => h) (by kernel_rfl) (fun v => ?_) ?_
                rotate_left
                · (go_simp; all_goals rfl)
                simp only [Act.put]
                refine tame_one (k := 22) (by kernel_rfl) rfl (by kernel_rfl) ?_
                go_simp
                try (refine ⟨fun h => absurd h (by decide), ?_⟩)
                refine tame0 (k := 23) ?_ rfl (by kernel_rfl) (by kernel_rfl) (by kernel_rfl) (fun _ _ _ h => h) (by kernel_rfl) (fun v => ?_) ?_
                rotate_left
                · (go_simp; all_goals rfl)
                simp only [Act.put, List.setIfInBounds_toArray]
                refine tame_one (k := 24) (by kernel_rfl) rfl (by kernel_rfl) ?_
                go_simp
                try (refine ⟨fun h => absurd h (by decide), ?_⟩)
                refine tame_end (by kernel_rfl) ?_
                have TZ := Lib.hid (T67.out.store (n1 := P.length + 1) (n2 := W.length + 1) (n3 := F.length + 1) (by simp) (by simp) (by simp))
                rw [HP1.out, HW1.out, HF1.out] at TZ
                show KL _ _
                exact J19.out _ _ _ _ _ _ _ TZ.out HALL.out _ _ _ _ _ _ _ _ _ _ _ _ _ _ _ _ _ _ _ _ _ _ _ _ _ _ _ _ _ _ _ _ _ _ _ _ _ _ _ _ _ _ _ _ _ _ _ _ _ _ _ _ _ _ _ _ _ _ _ _ _ _
        by_cases hw : K ≤ 2 * x + 1
        · obtain rfl : wt = 1 := by rw [← HWT.out, show endB (rmP K) x = decide (K ≤ 2 * x + 1) from by rw [HK.out]; exact rm_end hk (by rw [← HK.out]; exact hlt), decide_eq_true hw]; rfl
          have hw2 : (K : Int) ≤ 2 * (x : Int) + 1 := by omega
          go_wp2_with fail
          exact J16 _ _ _ _ _ _ _ _ _ _ _ _ _ _ _ _ _ _ _ _ _ _ _ _ _ _ _ _ _ _ _ _ _ _ _ _ _ _ _ _ _ _ _ _ _ _ _ _ _ _ _ _ _ _ _ _ _ _
        · obtain rfl : wt = 0 := by rw [← HWT.out, show endB (rmP K) x = decide (K ≤ 2 * x + 1) from by rw [HK.out]; exact rm_end hk (by rw [← HK.out]; exact hlt), decide_eq_false hw]; rfl
          have hw2 : ¬ (K : Int) ≤ 2 * (x : Int) + 1 := by omega
          go_wp2_with fail
          exact J16 _ _ _ _ _ _ _ _ _ _ _ _ _ _ _ _ _ _ _ _ _ _ _ _ _ _ _ _ _ _ _ _ _ _ _ _ _ _ _ _ _ _ _ _ _ _ _ _ _ _ _ _ _ _ _ _ _ _
      by_cases hx0 : x = 0
      · subst hx0
        obtain rfl : pr = p := by rw [← HPR.out]; exact prX_zero
        obtain rfl : pa = -1 := by rw [← HPA.out]; rfl
        go_wp2_with fail
        exact J14 _ _ _ _ _ _ _ _ _ _ _ _ _ _ _ _ _ _ _ _ _ _ _ _ _ _ _ _ _ _ _ _ _ _ _ _ _ _ _ _ _ _ _ _ _ _ _ _ _ _ _ _ _ _ _ _ _ _
      · have hx0' : (0 : Int) < (x : Int) := by omega
        have ex1 : IntKind.i64.wrap ((x : Int) - 1) = ((x - 1 : Nat) : Int) := by rw [show (x : Int) - 1 = ((x - 1 : Nat) : Int) by omega]; exact IntWalk.i64_in _ (by omega)
        have fl := hf_lt hx0
        have fd := Lib.hid (hf_div x)
        have FE : Hid (x % 2 = 0 → x = 2 * ((x - 1) / 2) + 2) := Lib.hid (hf_even hx0)
        have FO : Hid (x % 2 = 1 → x = 2 * ((x - 1) / 2) + 1) := Lib.hid hf_odd
        have hpa := HPA.out
        rw [if_neg hx0] at hpa
        generalize (x - 1) / 2 = y at *
        obtain ⟨x1, hx1⟩ : ∃ x1 : Nat, x1 = x - 1 := ⟨_, rfl⟩
        rw [← hx1] at fd ex1
        subst hpa
        clear hx1 hx0
        have hyx : y < x := fl
        have HYX := Lib.hid hyx
        have e2' : wrap64 (y : Int) = (y : Int) := IntWalk.wrap64_in _ ⟨by omega, by omega⟩
        clear fl hyx
        have fd2 := fd.out
        go_upto_region 11 with fail
        clear fd2 fd ex1 hx0'
        have qb := inB_iff.1 (HA.out y HYX.out)
        obtain ⟨a3, rfl, _, _⟩ := T.out.o3.form (by rw [HLF.out]; have := HYX.out; omega)
        have qx := T.out.o3.cellN (k := y) (by rw [HLF.out]; exact HYX.out)
        rw [HFN.out y HYX.out] at qx
        have k2 := T.out.bx.b.2.2.1
        obtain ⟨q, hq⟩ : ∃ q, prX u d p y = q := ⟨_, rfl⟩
        rw [hq] at qb qx
        have HQ := Lib.hid hq
        clear hq
        have iy : (y : Int) < (F.length : Int) := by rw [HLF.out]; have := HYX.out; omega
        have e3 : IntKind.i64.wrap (q + u) = q + u := IntWalk.i64_in _ (by omega)
        have e4 : IntKind.i64.wrap (q - d) = q - d := IntWalk.i64_in _ (by omega)
        go_upto_region 12 with fail
        clear e3 qb
        rcases Nat.mod_two_eq_zero_or_one x with hm | hm
        · obtain rfl : pr = q - d := by
            rw [← HPR.out, ← HQ.out, FE.out hm]
            exact prX_even y
          have e5 : (x : Int).tmod 2 = 0 := hf_mod hm
          clear hm
          go_upto_region 13 with fail
          clear e5
          go_wp2_with fail
          exact J14 _ _ _ _ _ _ _ _ _ _ _ _ _ _ _ _ _ _ _ _ _ _ _ _ _ _ _ _ _ _ _ _ _ _ _ _ _ _ _ _ _ _ _ _ _ _ _ _ _ _ _ _ _ _ _ _ _ _
        · obtain rfl : pr = q + u := by
            rw [← HPR.out, ← HQ.out, FO.out hm]
            exact prX_odd y
          have e5 : (x : Int).tmod 2 = 1 := hf_mod hm
          clear hm qx k2 iy e4
          go_wp2_with fail
          exact J14 _ _ _ _ _ _ _ _ _ _ _ _ _ _ _ _ _ _ _ _ _ _ _ _ _ _ _ _ _ _ _ _ _ _ _ _ _ _ _ _ _ _ _ _ _ _ _ _ _ _ _ _ _ _ _ _ _ _
    · obtain rfl : x = K := by omega
      have hR : rmB (k : Int) u d p = true := by
        rw [HRB.out]
        refine List.all_eq_true.2 fun q hq => ?_
        obtain ⟨j, hj, e⟩ := List.mem_iff_getElem.1 hq
        rw [rmF_len, ← HK.out] at hj
        rw [← e, ← nth_eq (by rw [rmF_len, ← HK.out]; exact hj), rmF_nth (by rw [← HK.out]; exact hj)]
        exact HA.out j hj
      have hY := rm_yes hR
      have e0 : (k : Int).toNat = k := Int.toNat_natCast k
      rw [e0, ← HK.out] at hY
      have HY := Lib.hid (And.intro hY hR)
      have eW : ownTo (rmP x) x = ownW (rmP x) := by rw [← ownTo_all, rmP_len]
      rw [eW] at T
      clear hY hR e0 eW
      have k0 := T.out.bx.b.1
      have k1 := T.out.bx.b.2.1
      have k2 := T.out.bx.b.2.2.1
      obtain ⟨⟨k3, k4, k5, k6⟩, k7, k8, k9⟩ := id T.out.br
      go_wp2_with fail
      have RF := T.out.fin (.slice A1 (rmP x).length c1) (.slice A2 (ownW (rmP x)).length c2) (.slice A3 (rmF u d p x).length c3)
      exact bodyPost_ret (v := .tuple #[mkV A1 (rmP x).length c1 A2 (ownW (rmP x)).length c2 A3 (rmF u d p x).length c3, .bool true]) (by simp [results, Try.results47, go_sem, k3, k4, k5]) rfl (by rw [HY.out.1.1, HY.out.1.2.1, HY.out.1.2.2, HY.out.2]; exact ⟨A1, c1, A2, c2, A3, c3, rfl, RF.1, RF.2.1, RF.2.2.1, RF.2.2.2⟩)

set_option maxRecDepth 20000 in
set_option maxHeartbeats 4000000 in
theorem implRm_c (n u d p : Int) (w : World) : Calls Try.prog 47 #[.int .i64 n, .int .i64 u, .int .i64 d, .int .i64 p] w (RmGives w (rmVP n u d p) (rmVW n u d p) (rmVF n u d p) (rmB n u d p)) := by
  have Bl : Below w.heap.size w (w.alloc (.cells #[.slice none 0 0, .slice none 0 0, .slice none 0 0] 28)) := (Below.refl _ _).alloc (Nat.le_refl _) _
  have B0 := Bz.new w (.slice none 0 0) (.slice none 0 0) (.slice none 0 0) 28
  have FAIL : Hid (RmGives w [] [] [] false (.returned (.tuple #[mkV none 0 0 none 0 0 none 0 0, .bool false])) (w.alloc (.cells #[.slice none 0 0, .slice none 0 0, .slice none 0 0] 28))) := Lib.hid ⟨none, 0, none, 0, none, 0, rfl, Own.nil _ _, Own.nil _ _, Own.nil _ _, Bl⟩
  by_cases hrow : rowB n u d = true ∧ n ≤ 3
  case neg =>
    have hno : rmB n u d p = false := by
      cases hb : rmB n u d p
      · rfl
      · exfalso
        simp only [rmB, Bool.and_eq_true, decide_eq_true_eq] at hb
        exact hrow ⟨by simp only [rowB, Bool.and_eq_true]; exact hb.1.1, hb.1.2⟩
    rw [(rm_no hno).1, (rm_no hno).2.1, (rm_no hno).2.2, hno]
    clear hno
    obtain ⟨⟨k3, k4, k5, k6⟩, k7, k8, k9⟩ := id B0
    cases hr : rowB n u d
    · have C := isRow_c n u d (w.alloc (.cells #[.slice none 0 0, .slice none 0 0, .slice none 0 0] 28))
      rw [hr] at C
      clear hr hrow
      go_enter Try.func47, Try.ntmps47
      go_wp2_with fail
      refine C.mono ?_
      rintro e w' ⟨rfl, rfl⟩
      go_wp2_with fail
      exact bodyPost_ret (v := .tuple #[mkV none 0 0 none 0 0 none 0 0, .bool false]) (by simp [results, Try.results47, go_sem, k3, k4, k5]) rfl FAIL.out
    · have C := isRow_c n u d (w.alloc (.cells #[.slice none 0 0, .slice none 0 0, .slice none 0 0] 28))
      rw [hr] at C
      have hn : 3 < n := Int.not_le.1 fun h => hrow ⟨hr, h⟩
      clear hr hrow
      go_enter Try.func47, Try.ntmps47
      go_wp2_with fail
      refine C.mono ?_
      rintro e w' ⟨rfl, rfl⟩
      go_wp2_with fail
      exact bodyPost_ret (v := .tuple #[mkV none 0 0 none 0 0 none 0 0, .bool false]) (by simp [results, Try.results47, go_sem, k3, k4, k5]) rfl FAIL.out
  obtain ⟨hr, hn3⟩ := hrow
  have hb3 : (0 ≤ n ∧ n ≤ 4) ∧ (1 ≤ u ∧ u ≤ 9) ∧ (1 ≤ d ∧ d ≤ 9) := by
    simp only [rowB, Bool.and_eq_true] at hr
    exact ⟨inB_iff.1 hr.1.1, inB_iff.1 hr.1.2, inB_iff.1 hr.2⟩
  obtain ⟨⟨hn0, _⟩, hu, hd⟩ := hb3
  have HRB : Hid (rmB n u d p = allB (rmF u d p (rmK n.toNat)) 0 20) := Lib.hid (by
    simp only [rowB] at hr
    rw [rmB, hr, decide_eq_true hn3]; rfl)
  have C := isRow_c n u d (w.alloc (.cells #[.slice none 0 0, .slice none 0 0, .slice none 0 0] 28))
  rw [hr] at C
  clear hr Bl B0 FAIL
  obtain ⟨k, rfl⟩ : ∃ k : Nat, n = (k : Int) := ⟨n.toNat, by omega⟩
  rw [Int.toNat_natCast] at HRB
  have hk3 : k ≤ 3 := by omega
  have hnn3 : ¬ 3 < (k : Int) := by omega
  go_enter Try.func47, Try.ntmps47
  go_upto_region 1 with fail
  rename_i K1 hK1 K0 hK0
  replace hK1 := Lib.hid hK1
  go_wp2_with fail
  refine C.mono ?_
  rintro e w' ⟨rfl, rfl⟩
  clear C
  go_wp2_with fail
  refine hK1.out _ _ ?_
  exact rmTail k hk3 u d p hu hd HRB w _ _ _ _ _ _ _ _ _ _ _ _ _ _ _ _ _ _ _ _ _ _ _ _ _ _ _ _ _ _ _ _ _ _ _ _ _ _ _ _ _ _ _ _ _ _ _ _ _ _ _ _ _ _ _ _ _ _ _ _ _ _ _ _ _ _ _ _ _ _ _ _ _ _ _ _ _ _ _ _ _ _ _ _ _ _

end Go.Proofs.Ytnhclpajfejnoaa
