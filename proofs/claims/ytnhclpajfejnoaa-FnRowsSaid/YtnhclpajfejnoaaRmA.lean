/- The market of a row: plainly, and the reference's walk. -/
import Derived.Test.YtnhclpajfejnoaaTreA
import Derived.Test.YtnhclpajfejnoaaDrK
import Derived.Test.YtnhclpajfejnoaaMktW
import Derived.Test.YtnhclpajfejnoaaButA
namespace Go.Proofs.Ytnhclpajfejnoaa
open Go.RowKit

/-- The price of node x. -/
def prX (u d p : Int) (x : Nat) : Int := if _h : x = 0 then p else if x % 2 = 0 then prX u d p ((x - 1) / 2) - d else prX u d p ((x - 1) / 2) + u
termination_by x
decreasing_by all_goals omega
def rmP (m : Nat) : List Int := (List.range m).map fun x => if x = 0 then (-1 : Int) else (((x - 1) / 2 : Nat) : Int)
def rmF (u d p : Int) (m : Nat) : List Int := (List.range m).map (prX u d p)
def ownW (P : List Int) : List Int := (List.range P.length).map fun x => if endB P x then (1 : Int) else 0
def ownTo (P : List Int) (k : Nat) : List Int := (List.range k).map fun x => if endB P x then (1 : Int) else 0
theorem ownTo_succ (P : List Int) (k : Nat) : ownTo P (k + 1) = ownTo P k ++ [if endB P k then (1 : Int) else 0] := by simp [ownTo, List.range_succ]
theorem ownTo_len (P : List Int) (k : Nat) : (ownTo P k).length = k := by simp [ownTo]
theorem ownTo_all (P : List Int) : ownTo P P.length = ownW P := rfl
theorem ownW_len (P : List Int) : (ownW P).length = P.length := by simp [ownW]
section
variable {u d p : Int}
theorem prX_zero : prX u d p 0 = p := by rw [prX]; rfl
theorem prX_odd (x : Nat) : prX u d p (2 * x + 1) = prX u d p x + u := by
  rw [prX, dif_neg (by omega), if_neg (by omega)]
  rw [show (2 * x + 1 - 1) / 2 = x by omega]
theorem prX_even (x : Nat) : prX u d p (2 * x + 2) = prX u d p x - d := by
  rw [prX, dif_neg (by omega), if_pos (by omega)]
  rw [show (2 * x + 2 - 1) / 2 = x by omega]
theorem rmP_len (m : Nat) : (rmP m).length = m := by simp [rmP]
theorem rmF_len (m : Nat) : (rmF u d p m).length = m := by simp [rmF]
theorem rmF_nth {m x : Nat} (h : x < m) : nth (rmF u d p m) x = prX u d p x := by simp [rmF, nth, h]
theorem rmP_two (x : Nat) : rmP (2 * (x + 1) + 1) = rmP (2 * x + 1) ++ [(x : Int), (x : Int)] := by
  rw [show 2 * (x + 1) + 1 = 2 * x + 1 + 1 + 1 by omega]
  unfold rmP
  rw [List.range_succ, List.range_succ, List.map_append, List.map_append, List.append_assoc]
  congr 1
  simp only [List.map_cons, List.map_nil, List.cons_append, List.nil_append]
  rw [if_neg (by omega), if_neg (by omega), show (2 * x + 1 - 1) / 2 = x by omega, show (2 * x + 1 + 1 - 1) / 2 = x by omega]
theorem rmF_two (x : Nat) : rmF u d p (2 * (x + 1) + 1) = rmF u d p (2 * x + 1) ++ [prX u d p x + u, prX u d p x - d] := by
  rw [show 2 * (x + 1) + 1 = 2 * x + 1 + 1 + 1 by omega]
  unfold rmF
  rw [List.range_succ, List.range_succ, List.map_append, List.map_append, List.append_assoc]
  congr 1
  simp only [List.map_cons, List.map_nil, List.cons_append, List.nil_append]
  rw [prX_odd, prX_even]
/-- Some price is out of its bounds. -/
def RmBad (u d p : Int) (n : Nat) (F : List Int) : Prop := (∃ y, y < F.length ∧ inB (nth F y) 0 20 = false) ∧ ∃ y, y < 2 * 2 ^ n - 1 ∧ inB (prX u d p y) 0 20 = false
/-- Ahead of step s: fr is the first node of the last rank. -/
structure RmI (u d p : Int) (n s K fr : Nat) (P F : List Int) : Prop where
  hK : K = 2 ^ s
  par : ParOk P
  len : P.length = F.length
  l1 : F.length + 1 ≤ 2 * K
  l2 : F.length ≤ fr + K
  l3 : fr ≤ F.length
  l4 : 1 ≤ F.length
  st : (P = rmP (2 * K - 1) ∧ F = rmF u d p (2 * K - 1) ∧ fr + 1 = K ∧ ∀ y, y < fr → inB (prX u d p y) 0 20 = true) ∨ RmBad u d p n F
/-- In step s, at node x. -/
structure RmJ (u d p : Int) (n s K fr to_ x : Nat) (P F : List Int) : Prop where
  hK : K = 2 ^ s
  par : ParOk P
  len : P.length = F.length
  t1 : to_ + 1 ≤ 2 * K
  t2 : to_ ≤ fr + K
  t3 : fr ≤ x ∧ x ≤ to_
  l1 : to_ ≤ F.length
  l2 : F.length ≤ to_ + 2 * (x - fr)
  l4 : 1 ≤ F.length
  st : (P = rmP (2 * x + 1) ∧ F = rmF u d p (2 * x + 1) ∧ fr + 1 = K ∧ to_ + 1 = 2 * K ∧ ∀ y, y < x → inB (prX u d p y) 0 20 = true) ∨ RmBad u d p n F
theorem ParOk.push_ {P : List Int} {y : Int} (h : ParOk P) (h1 : 1 ≤ P.length) (h2 : 0 ≤ y) (h3 : y ≤ (P.length : Int) - 1) : ParOk (P ++ [y]) := by
  refine ⟨?_, fun x hx hl => ?_⟩
  · rw [nth_app_l (by omega)]; exact h.zero
  · simp at hl
    rcases Nat.lt_or_ge x P.length with hlt | hge
    · rw [nth_app_l hlt]; exact h.up x hx hlt
    · obtain rfl : x = P.length := by omega
      rw [nth_app_r _ _ _ rfl]; omega
theorem RmI.start (n : Nat) : RmI u d p n 0 1 0 [-1] [p] := by
  refine ⟨rfl, ⟨rfl, fun x h1 h2 => by simp at h2; omega⟩, rfl, by simp, by simp, by simp, by simp, .inl ⟨rfl, ?_, rfl, fun y hy => by omega⟩⟩
  simp [rmF, prX_zero]
theorem RmI.inner {n s K fr : Nat} {P F : List Int} (h : RmI u d p n s K fr P F) : RmJ u d p n s K fr F.length fr P F := by
  refine ⟨h.hK, h.par, h.len, h.l1, h.l2, ⟨Nat.le_refl _, h.l3⟩, Nat.le_refl _, by omega, h.l4, ?_⟩
  rcases h.st with ⟨e1, e2, e3, e4⟩ | hb
  · have e : 2 * K - 1 = 2 * fr + 1 := by omega
    rw [e] at e1 e2
    exact .inl ⟨e1, e2, e3, by rw [e2, rmF_len]; omega, e4⟩
  · exact .inr hb
theorem bad_app {n : Nat} {F G : List Int} (h : RmBad u d p n F) : RmBad u d p n (F ++ G) := by
  obtain ⟨⟨y, hy, hb⟩, h2⟩ := h
  exact ⟨⟨y, by simp; omega, by rw [nth_app_l hy]; exact hb⟩, h2⟩
theorem RmJ.step {n s K fr to_ x : Nat} {P F : List Int} (h : RmJ u d p n s K fr to_ x P F) (hx : x < to_) (hin : inB (nth F x) 0 20 = true) : RmJ u d p n s K fr to_ (x + 1) (P ++ [(x : Int), (x : Int)]) (F ++ [nth F x + u, nth F x - d]) := by
  have h1 := h.l1
  have h2 := h.len
  have h3 := h.t3
  have h5 := h.l2
  have p1 := h.par.push_ (y := (x : Int)) (by omega) (by omega) (by omega)
  have p2 := p1.push_ (y := (x : Int)) (by simp) (by omega) (by simp; omega)
  refine ⟨h.hK, by simpa using p2, by simp [h2], h.t1, h.t2, by omega, by simp; omega, by simp; omega, by simp, ?_⟩
  rcases h.st with ⟨e1, e2, e3, e4, e5⟩ | hb
  · left
    have e : nth F x = prX u d p x := by rw [e2, rmF_nth (by omega)]
    refine ⟨by rw [e1, ← rmP_two], ?_, e3, e4, fun y hy => ?_⟩
    · rw [e, rmF_two, ← e2]
    · rcases Nat.lt_or_ge y x with hlt | hge
      · exact e5 y hlt
      · obtain rfl : y = x := by omega
        rw [← e]; exact hin
  · exact .inr (bad_app hb)
theorem pow_up {s n : Nat} (h : s ≤ n) : 2 ^ s ≤ 2 ^ n := Nat.pow_le_pow_right (by decide) h
theorem RmJ.stop {n s K fr to_ x : Nat} {P F : List Int} (h : RmJ u d p n s K fr to_ x P F) (hs : s < n) (hx : x < to_) (hout : inB (nth F x) 0 20 = false) : RmI u d p n (s + 1) (2 * K) to_ P F := by
  have h1 := h.l1
  have h2 := h.l2
  have h3 := h.t1
  have h4 := h.t2
  have h5 := h.t3
  have hk := h.hK
  refine ⟨by rw [hk, Nat.pow_succ]; omega, h.par, h.len, by omega, by omega, h1, h.l4, .inr ?_⟩
  rcases h.st with ⟨e1, e2, e3, e4, e5⟩ | hb
  · have e : nth F x = prX u d p x := by rw [e2, rmF_nth (by omega)]
    have hp := pow_up (Nat.le_of_lt hs)
    exact ⟨⟨x, by omega, hout⟩, x, by omega, by rw [← e]; exact hout⟩
  · exact hb
theorem RmJ.done {n s K fr to_ x : Nat} {P F : List Int} (h : RmJ u d p n s K fr to_ x P F) (hx : x = to_) : RmI u d p n (s + 1) (2 * K) to_ P F := by
  subst hx
  have h1 := h.l1
  have h2 := h.l2
  have h3 := h.t1
  have h4 := h.t2
  have h5 := h.t3
  have hk := h.hK
  refine ⟨by rw [hk, Nat.pow_succ]; omega, h.par, h.len, by omega, by omega, h1, h.l4, ?_⟩
  rcases h.st with ⟨e1, e2, e3, e4, e5⟩ | hb
  · left
    have e : 2 * (2 * K) - 1 = 2 * x + 1 := by omega
    rw [e]
    exact ⟨e1, e2, e4, e5⟩
  · exact .inr hb
/-- A row's market: how many nodes, whether there is one. -/
def rmK (n : Nat) : Nat := 2 * 2 ^ n - 1
theorem rm_tree {n : Nat} (hn : n ≤ 3) : treeB (rmP (rmK n)) (ownW (rmP (rmK n))) = true := by
  have : n = 0 ∨ n = 1 ∨ n = 2 ∨ n = 3 := by omega
  rcases this with rfl | rfl | rfl | rfl <;> decide +kernel
theorem RmI.fin {n K fr : Nat} {P F : List Int} (h : RmI u d p n n K fr P F) (hn : n ≤ 3) : P.length ≤ 15 ∧ F.length ≤ 15 ∧ mktB P (ownW P) F = allB (rmF u d p (rmK n)) 0 20 ∧ (allB (rmF u d p (rmK n)) 0 20 = true → P = rmP (rmK n) ∧ F = rmF u d p (rmK n)) := by
  have h1 := h.l1
  have h2 := h.len
  have hk := h.hK
  have hp := pow_up hn
  have h8 : (2 : Nat) ^ 3 = 8 := rfl
  refine ⟨by omega, by omega, ?_⟩
  rcases h.st with ⟨e1, e2, e3, e4⟩ | ⟨⟨y, hy, hb⟩, z, hz, hc⟩
  · have e : 2 * K - 1 = rmK n := by rw [hk]; rfl
    rw [e] at e1 e2
    subst e1 e2
    refine ⟨?_, fun _ => ⟨rfl, rfl⟩⟩
    rw [mktB, rm_tree hn, rmF_len, rmP_len]
    simp
  · have a1 : allB F 0 20 = false := allB_no hy hb
    have a2 : allB (rmF u d p (rmK n)) 0 20 = false := allB_no (k := z) (by rw [rmF_len]; exact hz) (by rw [rmF_nth (by exact hz)]; exact hc)
    refine ⟨by rw [mktB, a1, a2, Bool.and_false], fun hh => by rw [a2] at hh; cases hh⟩
end
def rmB (n u d p : Int) : Bool := inB n 0 4 && inB u 1 9 && inB d 1 9 && decide (n ≤ 3) && allB (rmF u d p (rmK n.toNat)) 0 20
def rmVP (n u d p : Int) : List Int := if rmB n u d p then rmP (rmK n.toNat) else []
def rmVW (n u d p : Int) : List Int := if rmB n u d p then ownW (rmP (rmK n.toNat)) else []
def rmVF (n u d p : Int) : List Int := if rmB n u d p then rmF u d p (rmK n.toNat) else []
theorem rm_no {n u d p : Int} (h : rmB n u d p = false) : rmVP n u d p = [] ∧ rmVW n u d p = [] ∧ rmVF n u d p = [] := by simp [rmVP, rmVW, rmVF, h]
theorem rm_yes {n u d p : Int} (h : rmB n u d p = true) : rmVP n u d p = rmP (rmK n.toNat) ∧ rmVW n u d p = ownW (rmP (rmK n.toNat)) ∧ rmVF n u d p = rmF u d p (rmK n.toNat) := by simp [rmVP, rmVW, rmVF, h]

def rowB (n u d : Int) : Bool := inB n 0 4 && inB u 1 9 && inB d 1 9
set_option maxRecDepth 20000 in
theorem l6Row_c (n u d : Int) (w : World) : Calls Try.prog 102 #[.int .i64 n, .int .i64 u, .int .i64 d] w fun e w' => e = .returned (.bool (rowB n u d)) ∧ w = w' := by
  unfold rowB
  cases h1 : inB n 0 4
  · have C := l1In_c n 0 4 w
    rw [h1] at C
    clear h1
    go_enter Try.func102, Try.ntmps102
    go_wp2_with fail
    refine C.mono ?_
    rintro e w' ⟨rfl, rfl⟩
    go_wp2_with fail
    go_ret
    exact ⟨rfl, rfl⟩
  · have C := l1In_c n 0 4 w
    rw [h1] at C
    clear h1
    cases h2 : inB u 1 9
    · have C2 := l1In_c u 1 9 w
      rw [h2] at C2
      clear h2
      go_enter Try.func102, Try.ntmps102
      go_wp2_with fail
      refine C.mono ?_
      rintro e w' ⟨rfl, rfl⟩
      go_wp2_with fail
      refine C2.mono ?_
      rintro e w' ⟨rfl, rfl⟩
      go_wp2_with fail
      go_ret
      exact ⟨rfl, rfl⟩
    · have C2 := l1In_c u 1 9 w
      rw [h2] at C2
      clear h2
      have C3 := l1In_c d 1 9 w
      generalize inB d 1 9 = q at *
      go_enter Try.func102, Try.ntmps102
      go_wp2_with fail
      refine C.mono ?_
      rintro e w' ⟨rfl, rfl⟩
      go_wp2_with fail
      refine C2.mono ?_
      rintro e w' ⟨rfl, rfl⟩
      go_wp2_with fail
      refine C3.mono ?_
      rintro e w' ⟨rfl, rfl⟩
      go_wp2_with fail
      go_ret
      exact ⟨by simp, rfl⟩
/-- A market being filled in: its box at gm, the result's box at gr. -/
structure RmD (w0 w : World) (gr gm : Nat) (A1 : Option Addr) (c1 : Nat) (P : List Int) (A2 : Option Addr) (c2 : Nat) (W : List Int) (A3 : Option Addr) (c3 : Nat) (F : List Int) : Prop where
  bx : Bz w gm (.slice A1 P.length c1) (.slice A2 W.length c2) (.slice A3 F.length c3)
  br : Bz w gr (.slice none 0 0) (.slice none 0 0) (.slice none 0 0)
  o1 : Own w w0.heap.size A1 c1 P
  o2 : Own w w0.heap.size A2 c2 W
  o3 : Own w w0.heap.size A3 c3 F
  ap1 : ∀ b, blk A1 = some b → b ≠ gm ∧ b ≠ gr ∧ blk A2 ≠ some b ∧ blk A3 ≠ some b
  ap2 : ∀ b, blk A2 = some b → b ≠ gm ∧ b ≠ gr ∧ blk A1 ≠ some b ∧ blk A3 ≠ some b
  ap3 : ∀ b, blk A3 = some b → b ≠ gm ∧ b ≠ gr ∧ blk A1 ≠ some b ∧ blk A2 ≠ some b
  t0 : w0.heap.size ≤ gm ∧ w0.heap.size ≤ gr ∧ gr ≠ gm
  B : Below w0.heap.size w0 w
section
variable {w0 w w' : World} {gr gm : Nat} {A1 A2 A3 : Option Addr} {c1 c2 c3 : Nat} {P W F : List Int}
theorem RmD.below (h : RmD w0 w gr gm A1 c1 P A2 c2 W A3 c3 F) (hb : Below w.heap.size w w') : RmD w0 w' gr gm A1 c1 P A2 c2 W A3 c3 F :=
  ⟨h.bx.below hb, h.br.below hb, h.o1.below hb, h.o2.below hb, h.o3.below hb, h.ap1, h.ap2, h.ap3, h.t0, bUp h.B hb h.B.size⟩
theorem RmD.push1 (h : RmD w0 w gr gm A1 c1 P A2 c2 W A3 c3 F) {A1' : Option Addr} {c1' : Nat} {P' : List Int} (o : Own w' w0.heap.size A1' c1' P') (gw : w.grownBy w' (blk A1)) (t : blk A1' = blk A1 ∨ ∃ r, blk A1' = some r ∧ w.heap.size ≤ r) :
    RmD w0 (w'.setCell ⟨gm, 0, none⟩ (.slice A1' P'.length c1')) gr gm A1' c1' P' A2 c2 W A3 c3 F := by
  have ap : ∀ b, blk A1' = some b → b ≠ gm ∧ b ≠ gr ∧ blk A2 ≠ some b ∧ blk A3 ≠ some b := fun b e => by
    rcases t with t | ⟨r, t, hr⟩
    · exact h.ap1 b (by rw [← t]; exact e)
    · rw [t] at e
      injection e with e
      subst e
      exact ⟨by have := h.bx.b.2.2.2; omega, by have := h.br.b.2.2.2; omega, fun e => by have := h.o2.ltk r e; omega, fun e => by have := h.o3.ltk r e; omega⟩
  have gs : w'.grownBy (w'.setCell ⟨gm, 0, none⟩ (.slice A1' P'.length c1')) (some gm) := grown_setCell w' ⟨gm, 0, none⟩ _
  have b1 := h.bx.grownR gw (fun e => (h.ap1 gm e).1 rfl)
  have b2 := h.br.grownR gw (fun e => (h.ap1 gr e).2.1 rfl)
  have p2 := h.o2.grown gw (ne_row fun b e => (h.ap1 b e).2.2.1)
  have p3 := h.o3.grown gw (ne_row fun b e => (h.ap1 b e).2.2.2)
  refine ⟨b1.s0 _, b2.grownR gs (by intro e; injection e with e; exact h.t0.2.2 e.symm), o.grown gs (ne_blk fun b e => (ap b e).1), p2.grown gs (ne_blk fun b e => (h.ap2 b e).1), p3.grown gs (ne_blk fun b e => (h.ap3 b e).1), ap, fun b e => ⟨(h.ap2 b e).1, (h.ap2 b e).2.1, fun e2 => (ap b e2).2.2.1 e, (h.ap2 b e).2.2.2⟩, fun b e => ⟨(h.ap3 b e).1, (h.ap3 b e).2.1, fun e2 => (ap b e2).2.2.2 e, (h.ap3 b e).2.2.2⟩, h.t0, ?_⟩
  exact (h.B.grown gw h.B.size (fun b e => h.o1.ge b e)).grown gs (h.B.grown gw h.B.size (fun b e => h.o1.ge b e)).size (fun b e => by injection e with e; have := h.t0; omega)
theorem RmD.push2 (h : RmD w0 w gr gm A1 c1 P A2 c2 W A3 c3 F) {A2' : Option Addr} {c2' : Nat} {W' : List Int} (o : Own w' w0.heap.size A2' c2' W') (gw : w.grownBy w' (blk A2)) (t : blk A2' = blk A2 ∨ ∃ r, blk A2' = some r ∧ w.heap.size ≤ r) :
    RmD w0 (w'.setCell ⟨gm, 1, none⟩ (.slice A2' W'.length c2')) gr gm A1 c1 P A2' c2' W' A3 c3 F := by
  have ap : ∀ b, blk A2' = some b → b ≠ gm ∧ b ≠ gr ∧ blk A1 ≠ some b ∧ blk A3 ≠ some b := fun b e => by
    rcases t with t | ⟨r, t, hr⟩
    · exact h.ap2 b (by rw [← t]; exact e)
    · rw [t] at e
      injection e with e
      subst e
      exact ⟨by have := h.bx.b.2.2.2; omega, by have := h.br.b.2.2.2; omega, fun e => by have := h.o1.ltk r e; omega, fun e => by have := h.o3.ltk r e; omega⟩
  have gs : w'.grownBy (w'.setCell ⟨gm, 1, none⟩ (.slice A2' W'.length c2')) (some gm) := grown_setCell w' ⟨gm, 1, none⟩ _
  have b1 := h.bx.grownR gw (fun e => (h.ap2 gm e).1 rfl)
  have b2 := h.br.grownR gw (fun e => (h.ap2 gr e).2.1 rfl)
  have p1 := h.o1.grown gw (ne_row fun b e => (h.ap2 b e).2.2.1)
  have p3 := h.o3.grown gw (ne_row fun b e => (h.ap2 b e).2.2.2)
  refine ⟨b1.s1 _, b2.grownR gs (by intro e; injection e with e; exact h.t0.2.2 e.symm), p1.grown gs (ne_blk fun b e => (h.ap1 b e).1), o.grown gs (ne_blk fun b e => (ap b e).1), p3.grown gs (ne_blk fun b e => (h.ap3 b e).1), fun b e => ⟨(h.ap1 b e).1, (h.ap1 b e).2.1, fun e2 => (ap b e2).2.2.1 e, (h.ap1 b e).2.2.2⟩, ap, fun b e => ⟨(h.ap3 b e).1, (h.ap3 b e).2.1, (h.ap3 b e).2.2.1, fun e2 => (ap b e2).2.2.2 e⟩, h.t0, ?_⟩
  exact (h.B.grown gw h.B.size (fun b e => h.o2.ge b e)).grown gs (h.B.grown gw h.B.size (fun b e => h.o2.ge b e)).size (fun b e => by injection e with e; have := h.t0; omega)
theorem RmD.push3 (h : RmD w0 w gr gm A1 c1 P A2 c2 W A3 c3 F) {A3' : Option Addr} {c3' : Nat} {F' : List Int} (o : Own w' w0.heap.size A3' c3' F') (gw : w.grownBy w' (blk A3)) (t : blk A3' = blk A3 ∨ ∃ r, blk A3' = some r ∧ w.heap.size ≤ r) :
    RmD w0 (w'.setCell ⟨gm, 2, none⟩ (.slice A3' F'.length c3')) gr gm A1 c1 P A2 c2 W A3' c3' F' := by
  have ap : ∀ b, blk A3' = some b → b ≠ gm ∧ b ≠ gr ∧ blk A1 ≠ some b ∧ blk A2 ≠ some b := fun b e => by
    rcases t with t | ⟨r, t, hr⟩
    · exact h.ap3 b (by rw [← t]; exact e)
    · rw [t] at e
      injection e with e
      subst e
      exact ⟨by have := h.bx.b.2.2.2; omega, by have := h.br.b.2.2.2; omega, fun e => by have := h.o1.ltk r e; omega, fun e => by have := h.o2.ltk r e; omega⟩
  have gs : w'.grownBy (w'.setCell ⟨gm, 2, none⟩ (.slice A3' F'.length c3')) (some gm) := grown_setCell w' ⟨gm, 2, none⟩ _
  have b1 := h.bx.grownR gw (fun e => (h.ap3 gm e).1 rfl)
  have b2 := h.br.grownR gw (fun e => (h.ap3 gr e).2.1 rfl)
  have p1 := h.o1.grown gw (ne_row fun b e => (h.ap3 b e).2.2.1)
  have p2 := h.o2.grown gw (ne_row fun b e => (h.ap3 b e).2.2.2)
  refine ⟨b1.s2 _, b2.grownR gs (by intro e; injection e with e; exact h.t0.2.2 e.symm), p1.grown gs (ne_blk fun b e => (h.ap1 b e).1), p2.grown gs (ne_blk fun b e => (h.ap2 b e).1), o.grown gs (ne_blk fun b e => (ap b e).1), fun b e => ⟨(h.ap1 b e).1, (h.ap1 b e).2.1, (h.ap1 b e).2.2.1, fun e2 => (ap b e2).2.2.1 e⟩, fun b e => ⟨(h.ap2 b e).1, (h.ap2 b e).2.1, (h.ap2 b e).2.2.1, fun e2 => (ap b e2).2.2.2 e⟩, ap, h.t0, ?_⟩
  exact (h.B.grown gw h.B.size (fun b e => h.o3.ge b e)).grown gs (h.B.grown gw h.B.size (fun b e => h.o3.ge b e)).size (fun b e => by injection e with e; have := h.t0; omega)
theorem RmD.fin (h : RmD w0 w gr gm A1 c1 P A2 c2 W A3 c3 F) (u x z : Value) : Own (((w.setCell ⟨gr, 0, none⟩ u).setCell ⟨gr, 1, none⟩ x).setCell ⟨gr, 2, none⟩ z) w0.heap.size A1 c1 P ∧ Own (((w.setCell ⟨gr, 0, none⟩ u).setCell ⟨gr, 1, none⟩ x).setCell ⟨gr, 2, none⟩ z) w0.heap.size A2 c2 W ∧
    Own (((w.setCell ⟨gr, 0, none⟩ u).setCell ⟨gr, 1, none⟩ x).setCell ⟨gr, 2, none⟩ z) w0.heap.size A3 c3 F ∧ Below w0.heap.size w0 (((w.setCell ⟨gr, 0, none⟩ u).setCell ⟨gr, 1, none⟩ x).setCell ⟨gr, 2, none⟩ z) := by
  have gs : w.grownBy (((w.setCell ⟨gr, 0, none⟩ u).setCell ⟨gr, 1, none⟩ x).setCell ⟨gr, 2, none⟩ z) (some gr) := ((grown_setCell w ⟨gr, 0, none⟩ _).trans (grown_setCell _ ⟨gr, 1, none⟩ _)).trans (grown_setCell _ ⟨gr, 2, none⟩ _)
  exact ⟨h.o1.grown gs (ne_blk fun b e => (h.ap1 b e).2.1), h.o2.grown gs (ne_blk fun b e => (h.ap2 b e).2.1), h.o3.grown gs (ne_blk fun b e => (h.ap3 b e).2.1), h.B.grown gs h.B.size (fun b e => by injection e with e; have := h.t0; omega)⟩
end
/-- A market as a row's, and whether there is one: rows of the call's own. -/
def RmGives (w : World) (P W F : List Int) (ok : Bool) (e : Ending) (w' : World) : Prop := ∃ A1 c1 A2 c2 A3 c3, e = .returned (.tuple #[mkV A1 P.length c1 A2 W.length c2 A3 F.length c3, .bool ok]) ∧ Own w' w.heap.size A1 c1 P ∧ Own w' w.heap.size A2 c2 W ∧ Own w' w.heap.size A3 c3 F ∧ Below w.heap.size w w'
section
variable {o : Oper} {rest : List Oper} {a : Act} {ops : Array Oper} {Q : Exit → Act → World → Prop}
theorem wp_append2 (w : World) (y z : Int) (hgd : o.guard = none) (s x : Operand) (ho : o.op = .call { callee := .builtin .append, args := #[s, x], argTypes := #[24, 24] })
    (B : Nat) (A : Option Addr) (n c : Nat) (xs : List Int) (hs : a.eval s = .slice A n c) (hn : n = xs.length) (hown : Own w B A c xs)
    (hx : a.eval x = .slice (some ⟨w.heap.size, 0, none⟩) 2 2) (h63 : xs.length + 2 ≤ 16777216) (hB : B ≤ w.heap.size)
    (h : ∀ A2 c2 w', Own w' B A2 c2 (xs ++ [y, z]) → w.grownBy w' (blk A) → (blk A2 = blk A ∨ ∃ g, blk A2 = some g ∧ w.heap.size ≤ g) →
      wpList Try.prog ops Q rest (a.put o.dst (.slice A2 (n + 2) c2)) w') :
    wpList Try.prog ops Q (o :: rest) a (w.alloc (.cells #[.int .i64 y, .int .i64 z] 3)) := by
  refine wp_append_ints _ hgd s x ho B A n c xs hs hn (hown.alloc _) _ 2 2 [y, z] hx rfl (Own.lit w [y, z] (by simp)).rd h63 (by simp; omega) ?_
  intro A2 c2 w' o2 g2 b2
  exact h A2 c2 w' o2 (grown_of_alloc g2) (b2.imp id fun t => ⟨_, t, by simp⟩)
end
set_option maxRecDepth 20000 in
set_option maxHeartbeats 8000000 in
theorem specRm_c (n u d p : Int) (w : World) : Calls Try.prog 48 #[.int .i64 n, .int .i64 u, .int .i64 d, .int .i64 p] w (RmGives w (rmVP n u d p) (rmVW n u d p) (rmVF n u d p) (rmB n u d p)) := by
  have Bl : Below w.heap.size w (w.alloc (.cells #[.slice none 0 0, .slice none 0 0, .slice none 0 0] 28)) := (Below.refl _ _).alloc (Nat.le_refl _) _
  have B0 := Bz.new w (.slice none 0 0) (.slice none 0 0) (.slice none 0 0) 28
  have FAIL : Hid (RmGives w [] [] [] false (.returned (.tuple #[mkV none 0 0 none 0 0 none 0 0, .bool false])) (w.alloc (.cells #[.slice none 0 0, .slice none 0 0, .slice none 0 0] 28))) := Lib.hid ⟨none, 0, none, 0, none, 0, rfl, Own.nil _ _, Own.nil _ _, Own.nil _ _, Bl⟩
  by_cases hrow : rowB n u d = true ∧ n ≤ 3
  case neg =>
    have hno : rmB n u d p = false := by
      cases hb : rmB n u d p
      · rfl
      · exfalso
        simp only [rmB, Bool.and_eq_true, decide_eq_true_eq] at hb
        exact hrow ⟨by simp only [rowB, Bool.and_eq_true]; exact hb.1.1, hb.1.2⟩
    rw [(rm_no hno).1, (rm_no hno).2.1, (rm_no hno).2.2, hno]
    clear hno
    obtain ⟨⟨k3, k4, k5, k6⟩, k7, k8, k9⟩ := id B0
    cases hr : rowB n u d
    · have C := l6Row_c n u d (w.alloc (.cells #[.slice none 0 0, .slice none 0 0, .slice none 0 0] 28))
      rw [hr] at C
      clear hr hrow
      go_enter Try.func48, Try.ntmps48
      go_wp2_with fail
      refine C.mono ?_
      rintro e w' ⟨rfl, rfl⟩
      go_wp2_with fail
      exact bodyPost_ret (v := .tuple #[mkV none 0 0 none 0 0 none 0 0, .bool false]) (by simp [results, Try.results48, go_sem, k3, k4, k5]) rfl FAIL.out
    · have C := l6Row_c n u d (w.alloc (.cells #[.slice none 0 0, .slice none 0 0, .slice none 0 0] 28))
      rw [hr] at C
      have hn : 3 < n := Int.not_le.1 fun h => hrow ⟨hr, h⟩
      clear hr hrow
      go_enter Try.func48, Try.ntmps48
      go_wp2_with fail
      refine C.mono ?_
      rintro e w' ⟨rfl, rfl⟩
      go_wp2_with fail
      exact bodyPost_ret (v := .tuple #[mkV none 0 0 none 0 0 none 0 0, .bool false]) (by simp [results, Try.results48, go_sem, k3, k4, k5]) rfl FAIL.out
  obtain ⟨hr, hn3⟩ := hrow
  have hb3 : (0 ≤ n ∧ n ≤ 4) ∧ (1 ≤ u ∧ u ≤ 9) ∧ (1 ≤ d ∧ d ≤ 9) := by
    simp only [rowB, Bool.and_eq_true] at hr
    exact ⟨inB_iff.1 hr.1.1, inB_iff.1 hr.1.2, inB_iff.1 hr.2⟩
  obtain ⟨⟨hn0, _⟩, ⟨hu1, hu2⟩, ⟨hd1, hd2⟩⟩ := hb3
  obtain ⟨k, rfl⟩ : ∃ k : Nat, n = (k : Int) := ⟨n.toNat, by omega⟩
  have hk3 : k ≤ 3 := by omega
  have HRB : Hid (rmB (k : Int) u d p = allB (rmF u d p (rmK k)) 0 20) := Lib.hid (by
    simp only [rowB] at hr
    rw [rmB, hr, decide_eq_true hn3, Int.toNat_natCast]; rfl)
  have C := l6Row_c (k : Int) u d (w.alloc (.cells #[.slice none 0 0, .slice none 0 0, .slice none 0 0] 28))
  rw [hr] at C
  clear hr
  have hn3' : ¬ 3 < (k : Int) := by omega
  obtain ⟨v0, hv0⟩ : ∃ v, v = w.alloc (.cells #[.slice none 0 0, .slice none 0 0, .slice none 0 0] 28) := ⟨_, rfl⟩
  have hz0 : v0.heap.size = w.heap.size + 1 := by rw [hv0]; simp
  rw [← hv0] at B0 Bl C
  go_enter Try.func48, Try.ntmps48
  go_wp2_with fail
  rw [← hv0]
  clear hv0
  refine C.mono ?_
  rintro e w' ⟨rfl, rfl⟩
  clear C
  have O1 : Own (((v0.alloc (.cells #[.int .i64 (-1)] 3)).alloc (.cells #[] 3)).alloc (.cells #[.int .i64 p] 3)) w.heap.size (some ⟨v0.heap.size, 0, none⟩) 1 [-1] := (((Own.lit v0 [-1] (by decide)).alloc (.cells #[] 3)).alloc (.cells #[.int .i64 p] 3)).mono (by omega)
  have O2 : Own (((v0.alloc (.cells #[.int .i64 (-1)] 3)).alloc (.cells #[] 3)).alloc (.cells #[.int .i64 p] 3)) w.heap.size (some ⟨v0.heap.size + 1, 0, none⟩) 0 [] := ((Own.lit0 (v0.alloc (.cells #[.int .i64 (-1)] 3)) (v0.heap.size + 1) (by simp)).alloc (.cells #[.int .i64 p] 3)).mono (by omega)
  have O3 := (Own.lit ((v0.alloc (.cells #[.int .i64 (-1)] 3)).alloc (.cells #[] 3)) [p] (by simp)).mono (B' := w.heap.size) (by simp; omega)
  simp only [World.size_alloc] at O3
  have O3 : Own (((v0.alloc (.cells #[.int .i64 (-1)] 3)).alloc (.cells #[] 3)).alloc (.cells #[.int .i64 p] 3)) w.heap.size (some ⟨v0.heap.size + 1 + 1, 0, none⟩) 1 [p] := O3
  have bl3 : Below v0.heap.size v0 (((v0.alloc (.cells #[.int .i64 (-1)] 3)).alloc (.cells #[] 3)).alloc (.cells #[.int .i64 p] 3)) := (((Below.refl _ _).alloc (Nat.le_refl _) _).alloc (by simp) _).alloc (by simp; omega) _
  obtain ⟨v3, hv3⟩ : ∃ v, v = ((v0.alloc (.cells #[.int .i64 (-1)] 3)).alloc (.cells #[] 3)).alloc (.cells #[.int .i64 p] 3) := ⟨_, rfl⟩
  have hz3 : v3.heap.size = v0.heap.size + 1 + 1 + 1 := by rw [hv3]; simp
  rw [← hv3] at O1 O2 O3 bl3
  have bl4 : Below v3.heap.size v3 (v3.alloc (.cells #[.slice (some ⟨v0.heap.size, 0, none⟩) 1 1, .slice (some ⟨v0.heap.size + 1, 0, none⟩) 0 0, .slice (some ⟨v0.heap.size + 1 + 1, 0, none⟩) 1 1] 28)) := (Below.refl _ _).alloc (Nat.le_refl _) _
  have T0 : RmD w (v3.alloc (.cells #[.slice (some ⟨v0.heap.size, 0, none⟩) 1 1, .slice (some ⟨v0.heap.size + 1, 0, none⟩) 0 0, .slice (some ⟨v0.heap.size + 1 + 1, 0, none⟩) 1 1] 28)) w.heap.size v3.heap.size (some ⟨v0.heap.size, 0, none⟩) 1 [-1] (some ⟨v0.heap.size + 1, 0, none⟩) 0 [] (some ⟨v0.heap.size + 1 + 1, 0, none⟩) 1 [p] := by
    refine ⟨Bz.new _ _ _ _ _, (B0.below bl3).below bl4, O1.below bl4, O2.below bl4, O3.below bl4, fun b e => ?_, fun b e => ?_, fun b e => ?_, ⟨by omega, Nat.le_refl _, by omega⟩, bUp (bUp Bl bl3 Bl.size) bl4 (by have := Bl.size; have := bl3.size; omega)⟩
    · have e : v0.heap.size = b := Option.some.inj e
      exact ⟨by omega, by omega, fun e2 => by have e2 : v0.heap.size + 1 = b := Option.some.inj e2; omega, fun e2 => by have e2 : v0.heap.size + 1 + 1 = b := Option.some.inj e2; omega⟩
    · have e : v0.heap.size + 1 = b := Option.some.inj e
      exact ⟨by omega, by omega, fun e2 => by have e2 : v0.heap.size = b := Option.some.inj e2; omega, fun e2 => by have e2 : v0.heap.size + 1 + 1 = b := Option.some.inj e2; omega⟩
    · have e : v0.heap.size + 1 + 1 = b := Option.some.inj e
      exact ⟨by omega, by omega, fun e2 => by have e2 : v0.heap.size = b := Option.some.inj e2; omega, fun e2 => by have e2 : v0.heap.size + 1 = b := Option.some.inj e2; omega⟩
  obtain ⟨gm, hgm⟩ : ∃ gm, gm = v3.heap.size := ⟨_, rfl⟩
  have hgm2 : v0.heap.size + 1 + 1 + 1 = gm := by omega
  rw [← hgm] at T0
  have HGM := Lib.hid hgm2
  clear O1 O2 O3 bl3 bl4 hz3 hgm hgm2 Bl B0 hz0 hn3'
  have HV3 := Lib.hid hv3
  clear hv3
  go_upto_region 4 with fail
  rw [HGM.out, ← HV3.out]
  generalize v3.alloc (.cells #[.slice (some ⟨v0.heap.size, 0, none⟩) 1 1, .slice (some ⟨v0.heap.size + 1, 0, none⟩) 0 0, .slice (some ⟨v0.heap.size + 1 + 1, 0, none⟩) 1 1] 28) = v4 at *
  have T4 := Lib.hid T0
  obtain ⟨A2, hA2⟩ : ∃ A2 : Option Addr, A2 = some ⟨v0.heap.size + 1, 0, none⟩ := ⟨_, rfl⟩
  rw [← hA2] at T4
  obtain ⟨c2, hc2⟩ : ∃ c2 : Nat, c2 = 0 := ⟨_, rfl⟩
  rw [← hc2] at T4
  clear T0 HV3 HGM hA2 hc2
  go_wp2_with fail
  go_loopw [11, 12] (fun fr st wr => ∃ (s K f : Nat) (A1 : Option Addr) (c1 : Nat) (P : List Int) (A3 : Option Addr) (c3 : Nat) (F : List Int), fr = .int .i64 (f : Int) ∧ st = .int .i64 (s : Int) ∧ s ≤ k ∧ RmI u d p k s K f P F ∧ RmD w wr w.heap.size gm A1 c1 P A2 c2 [] A3 c3 F) (fun _ st _ => k - (intOf st).toNat)
  case atStart => exact ⟨0, 1, 0, _, 1, [-1], _, 1, [p], rfl, rfl, by omega, RmI.start k, T4.out⟩
  case round =>
    clear T4
    obtain ⟨v, rfl⟩ : ∃ v : World, v = wr := ⟨_, rfl⟩
    obtain ⟨s, K, f, A1, c1, P, A3, c3, F, rfl, rfl, hsk, hI, T⟩ := hrel
    replace T := Lib.hid T
    have HI := Lib.hid hI
    clear hI
    have k2 := T.out.bx.b.2.2.1
    by_cases hlt : s < k
    · go_wp2_with fail
      clear k2
      have hto : F.length ≤ 15 := by
        have h1 := HI.out.l1
        have h2 := HI.out.hK
        have h3 := pow_up (Nat.le_of_lt hlt)
        have h4 := pow_up hk3
        have h5 : (2 : Nat) ^ 3 = 8 := rfl
        omega
      obtain ⟨m, hm⟩ : ∃ m : Nat, m = F.length := ⟨_, rfl⟩
      have hJ := HI.out.inner
      rw [← hm] at hJ hto ⊢
      have HJ := Lib.hid hJ
      clear hJ hm HI
      go_loopw [14] (fun i wr => ∃ (x : Nat) (A1 : Option Addr) (c1 : Nat) (P : List Int) (A3 : Option Addr) (c3 : Nat) (F : List Int), i = .int .i64 (x : Int) ∧ RmJ u d p k s K f m x P F ∧ RmD w wr w.heap.size gm A1 c1 P A2 c2 [] A3 c3 F) (fun i _ => m - (intOf i).toNat)
      case atStart => exact ⟨f, A1, c1, P, A3, c3, F, rfl, HJ.out, T.out⟩
      case round =>
        clear T HJ
        obtain ⟨v5, rfl⟩ : ∃ v : World, v = wr := ⟨_, rfl⟩
        obtain ⟨x, A1, c1, P, A3, c3, F, rfl, hJ, T⟩ := hrel
        replace T := Lib.hid T
        have HJ := Lib.hid hJ
        have hxm := hJ.t3.2
        clear hJ
        by_cases hx : x < m
        · have hxF : x < F.length := Nat.lt_of_lt_of_le hx HJ.out.l1
          have ixF : (x : Int) < (F.length : Int) := by omega
          obtain ⟨a3, rfl, _, _⟩ := T.out.o3.form (by omega)
          have k2 := T.out.bx.b.2.2.1
          have qx := T.out.o3.cellN hxF
          have CI := l1In_c (nth F x) 0 20
          cases hin : inB (nth F x) 0 20
          · rw [hin] at CI
            have hI2 := HJ.out.stop hlt hx hin
            have HI2 := Lib.hid hI2
            clear hin hI2
            go_wp2_with fail
            refine (CI _).mono ?_
            rintro e w' ⟨rfl, rfl⟩
            clear CI
            go_wp2_with fail
            go_roundw
            case rel => exact ⟨s + 1, 2 * K, m, A1, c1, P, _, c3, F, rfl, by go_num, by omega, HI2.out, T.out⟩
            case measure => simp [intOf] <;> omega
          · rw [hin] at CI
            have hJ2 := HJ.out.step hx hin
            have hf := inB_iff.1 hin
            have HJ2 := Lib.hid hJ2
            have hPl : P.length ≤ 60 := by
              have := HJ.out.len
              have := HJ.out.l2
              have := HJ.out.t3
              omega
            have hFl : F.length ≤ 60 := by have := HJ.out.l2; omega
            clear hin hJ2
            obtain ⟨y, hy⟩ : ∃ y, nth F x = y := ⟨_, rfl⟩
            rw [hy] at CI hf qx HJ2
            have HFX := Lib.hid hy
            clear hy
            go_wp2_with fail
            refine (CI _).mono ?_
            rintro e w' ⟨rfl, rfl⟩
            clear CI k2 qx
            have k0 := T.out.bx.b.1
            go_wp2_with (at_builtin; refine wp_append2 v5 (x : Int) (x : Int) rfl _ _ rfl w.heap.size A1 P.length c1 P rfl rfl T.out.o1 rfl (by omega) T.out.B.size ?_; intro A5 c5 w5 o5 g5 b5; have kb := T.out.bx.grownR g5 (fun e => (T.out.ap1 gm e).1 rfl); have T6 := Lib.hid (T.out.push1 o5 g5 b5); obtain ⟨⟨f0, f1, f2, f3⟩, f4, f5, f6⟩ := kb; clear o5 g5 b5 k0; rw [show (P ++ [(x : Int), (x : Int)]).length = P.length + 2 from by simp] at T6)
            go_upto_region 13 with fail
            generalize w5.setCell ⟨gm, 0, none⟩ (.slice A5 (P.length + 2) c5) = v6 at *
            clear f0 f1 f2 f3 f4 f5 f6
            have qb := T6.out.bx.b.2.2.1
            have qx := T6.out.o3.cellN hxF
            rw [HFX.out] at qx
            have e1 : IntKind.i64.wrap (y + u) = y + u := IntWalk.i64_in _ (by omega)
            have e2 : IntKind.i64.wrap (y - d) = y - d := IntWalk.i64_in _ (by omega)
            have ix : (x : Int) < (F.length : Int) := by omega
            have hd1 : Below v6.heap.size v6 v6.drew := Below.drew (Below.refl _ _)
            have SK1 : Hid (∀ w', Below v6.heap.size v6 w' → w'.cell? ⟨gm, 2, none⟩ = some (.slice (some ⟨a3, 0, none⟩) F.length c3) ∧ w'.cell? ⟨a3, x, none⟩ = some (.int .i64 y)) := Lib.hid fun w' HV => ⟨(HV.cell (cell_lt qb)).trans qb, (HV.cell (cell_lt qx)).trans qx⟩
            clear qb qx
            have hS1_0 := SK1.out _ hd1
            refine tamed_region (S := fun w' => w'.cell? ⟨gm, 2, none⟩ = some (.slice (some ⟨a3, 0, none⟩) F.length c3) ∧ w'.cell? ⟨a3, x, none⟩ = some (.int .i64 y)) (fun k => k == 17 || k == 18 || k == 19) (by kernel_rfl) ?_
            refine tame0 (k := 0) ?_ rfl (by kernel_rfl) (by kernel_rfl) (by kernel_rfl) (fun _ _ _ h => h) (by kernel_rfl) (fun v => ?_) ?_
            rotate_left
            · (go_simp; all_goals rfl)
            simp only [Act.put, List.setIfInBounds_toArray]
            refine tameT (k := 1) ?_ rfl (by kernel_rfl) (by kernel_rfl) (by kernel_rfl) (by kernel_rfl) (by kernel_rfl) (fun _ _ _ h => h) (by kernel_rfl) hS1_0 (fun v hv => ?_) ?_
            rotate_left
            · (obtain ⟨k1, k2⟩ := hv; go_simp; all_goals rfl)
            simp only [Act.put]
            refine tame0 (k := 2) ?_ rfl (by kernel_rfl) (by kernel_rfl) (by kernel_rfl) (fun _ _ _ h => h) (by kernel_rfl) (fun v => ?_) ?_
            rotate_left
            · (go_simp; all_goals rfl)
            simp only [Act.put]
            refine tameT (k := 3) ?_ rfl (by kernel_rfl) (by kernel_rfl) (by kernel_rfl) (by kernel_rfl) (by kernel_rfl) (fun _ _ _ h => h) (by kernel_rfl) hS1_0 (fun v hv => ?_) ?_
            rotate_left
            · (obtain ⟨k1, k2⟩ := hv; go_simp; all_goals rfl)
            simp only [Act.put]
            refine tame0 (k := 4) ?_ rfl (by kernel_rfl) (by kernel_rfl) (by kernel_rfl) (fun _ _ _ h => h) (by kernel_rfl) (fun v => ?_) ?_
            rotate_left
            · (go_simp; all_goals rfl)
            simp only [Act.put]
            refine tame0 (k := 5) ?_ rfl (by kernel_rfl) (by kernel_rfl) (by kernel_rfl) (fun _ _ _ h => h) (by kernel_rfl) (fun v => ?_) ?_
            rotate_left
            · (go_simp; all_goals rfl)
            simp only [Act.put]
            refine tameT (k := 6) ?_ rfl (by kernel_rfl) (by kernel_rfl) (by kernel_rfl) (by kernel_rfl) (by kernel_rfl) (fun _ _ _ h => h) (by kernel_rfl) hS1_0 (fun v hv => ?_) ?_
            rotate_left
            · (obtain ⟨k1, k2⟩ := hv; go_simp; all_goals rfl)
            simp only [Act.put]
            refine tame0 (k := 7) ?_ rfl (by kernel_rfl) (by kernel_rfl) (by kernel_rfl) (fun _ _ _ h => h) (by kernel_rfl) (fun v => ?_) ?_
            rotate_left
            · (go_simp; all_goals rfl)
            simp only [Act.put]
            refine tame0 (k := 8) ?_ rfl (by kernel_rfl) (by kernel_rfl) (by kernel_rfl) (fun _ _ _ h => h) (by kernel_rfl) (fun v => ?_) ?_
            rotate_left
            · (go_simp; all_goals rfl)
            simp only [Act.put]
            refine tame0 (k := 9) ?_ rfl (by kernel_rfl) (by kernel_rfl) (by kernel_rfl) (fun _ _ _ h => h) (by kernel_rfl) (fun v => ?_) ?_
            rotate_left
            · (go_simp; all_goals rfl)
            simp only [Act.put]
            refine tameT (k := 10) ?_ rfl (by kernel_rfl) (by kernel_rfl) (by kernel_rfl) (by kernel_rfl) (by kernel_rfl) (fun _ _ _ h => h) (by kernel_rfl) hS1_0 (fun v hv => ?_) ?_
            rotate_left
            · (obtain ⟨k1, k2⟩ := hv; go_simp; all_goals rfl)
            simp only [Act.put]
            refine tame0 (k := 11) ?_ rfl (by kernel_rfl) (by kernel_rfl) (by kernel_rfl) (fun _ _ _ h => h) (by kernel_rfl) (fun v => ?_) ?_
            rotate_left
            · (go_simp; all_goals rfl)
            simp only [Act.put]
            refine tame0 (k := 12) ?_ rfl (by kernel_rfl) (by kernel_rfl) (by kernel_rfl) (fun _ _ _ h => h) (by kernel_rfl) (fun v => ?_) ?_
            rotate_left
            · (go_simp; all_goals rfl)
            simp only [Act.put]
            refine tameT (k := 13) ?_ rfl (by kernel_rfl) (by kernel_rfl) (by kernel_rfl) (by kernel_rfl) (by kernel_rfl) (fun _ _ _ h => h) (by kernel_rfl) hS1_0 (fun v hv => ?_) ?_
            rotate_left
            · (obtain ⟨k1, k2⟩ := hv; go_simp; all_goals rfl)
            simp only [Act.put]
            refine tame0 (k := 14) ?_ rfl (by kernel_rfl) (by kernel_rfl) (by kernel_rfl) (fun _ _ _ h => h) (by kernel_rfl) (fun v => ?_) ?_
            rotate_left
            · (go_simp; all_goals rfl)
            simp only [Act.put]
            refine tame0 (k := 15) ?_ rfl (by kernel_rfl) (by kernel_rfl) (by kernel_rfl) (fun _ _ _ h => h) (by kernel_rfl) (fun v => ?_) ?_
            rotate_left
            · (go_simp; all_goals rfl)
            simp only [Act.put]
            have Hal : Below v6.heap.size v6 (v6.alloc (.cells #[.int .i64 (y + u), .int .i64 (y - d)] 3)) := (Below.refl _ _).alloc (Nat.le_refl _) _
            have T7 := Lib.hid (T6.out.below Hal)
            have RL := (Own.lit v6 [y + u, y - d] (by simp)).rd
            refine tame_one (k := 16) (by kernel_rfl) rfl (by kernel_rfl) ?_
            go_simp
            refine ⟨SK1.out _ Hal, ?_⟩
            refine tame_one (k := 17) (by kernel_rfl) rfl (by kernel_rfl) ?_
            refine op_append_ints _ (.tmp 64) (.tmp 79) rfl w.heap.size (some ⟨a3, 0, none⟩) F.length c3 F rfl rfl T7.out.o3.drew (some ⟨v6.heap.size, 0, none⟩) 2 2 [y + u, y - d] rfl rfl RL.drew (by simp; omega) (by have := T6.out.B.size; simp; omega) ?_
            intro A5 c5 w5 o5 g5 b5
            have gw : v6.grownBy w5 (blk (some ⟨a3, 0, none⟩)) := grown_of_alloc_drew g5
            have kb := T6.out.bx.grownR gw (fun e => (T6.out.ap3 gm e).1 rfl)
            have T8 := Lib.hid (T6.out.push3 o5 gw (by
              rcases b5 with t | t
              · exact .inl t
              · exact .inr ⟨_, t, by simp⟩))
            rw [show (F ++ [y + u, y - d]).length = F.length + 2 from by simp] at T8
            obtain ⟨⟨f0, f1, f2, f3⟩, f4, f5, f6⟩ := kb
            clear o5 g5 b5 gw RL
            refine ⟨fun h => absurd h (by decide), ?_⟩
            simp only [Act.put]
            refine tame_one (k := 18) (by kernel_rfl) rfl (by kernel_rfl) ?_
            go_simp
            try (refine ⟨fun h => absurd h (by decide), ?_⟩)
            refine tame_one (k := 19) (by kernel_rfl) rfl (by kernel_rfl) ?_
            go_simp
            try (refine ⟨fun h => absurd h (by decide), ?_⟩)
            refine tame_end (by kernel_rfl) ?_
            clear hd1 SK1 Hal T7 T6
            go_wp2_with fail
            go_roundw
            case rel => exact ⟨x + 1, _, _, _, _, _, _, by go_num, HJ2.out, T8.out⟩
            case measure => simp [intOf] <;> omega
        · obtain rfl : x = m := by omega
          have HI2 := Lib.hid (HJ.out.done rfl)
          go_wp2_with fail
          go_roundw
          case rel => exact ⟨s + 1, 2 * K, x, A1, c1, P, A3, c3, F, rfl, by go_num, by omega, HI2.out, T.out⟩
          case measure => simp [intOf] <;> omega
    · obtain rfl : s = k := by omega
      have FIN := HI.out.fin hk3
      have HPF := Lib.hid HI.out.len
      have HPar := Lib.hid HI.out.par
      obtain ⟨hP15, hF15, hmk, hyes⟩ := FIN
      have HMK := Lib.hid hmk
      have HYES := Lib.hid hyes
      clear hmk hyes HI
      go_wp2_with fail
      clear k2
      go_loopw [15] (fun i wr => ∃ (x : Nat) (A2 : Option Addr) (c2 : Nat), i = .int .i64 (x : Int) ∧ x ≤ F.length ∧ RmD w wr w.heap.size gm A1 c1 P A2 c2 (ownTo P x) A3 c3 F) (fun i _ => F.length - (intOf i).toNat)
      case atStart => exact ⟨0, A2, c2, rfl, by omega, T.out⟩
      case round =>
        clear T
        obtain ⟨v, rfl⟩ : ∃ v : World, v = wr := ⟨_, rfl⟩
        obtain ⟨x, A2, c2, rfl, hx, T⟩ := hrel
        replace T := Lib.hid T
        have k2 := T.out.bx.b.2.2.1
        by_cases hlt2 : x < F.length
        · have hxP : x < P.length := by have := HPF.out; omega
          have HWX : Hid (IntKind.i64.wrap (1 - leI ((kids P (x : Int)).length : Int) 1) = if endB P x then (1 : Int) else 0) := Lib.hid (by
            cases he : endB P x with
            | true =>
              rw [(kids_nil x).2 he]
              rfl
            | false =>
              have : 0 < (kids P (x : Int)).length := by
                rcases Nat.eq_zero_or_pos (kids P (x : Int)).length with h | h
                · rw [(kids_nil x).1 (List.eq_nil_of_length_eq_zero h)] at he; cases he
                · exact h
              have e : leI ((kids P (x : Int)).length : Int) 1 = 1 := by unfold leI; split <;> omega
              rw [e]; rfl)
          go_upto_region 18 with fail
          have hdd : Below v.heap.size v v.drew := Below.drew (Below.refl _ _)
          have TD := Lib.hid (T.out.below hdd)
          have q0 := T.out.bx.b.1
          have q1 := T.out.bx.b.2.1
          rw [ownTo_len] at q1
          have hd2 : Below v.heap.size v v.drew := Below.drew (Below.refl _ _)
          have SK2 : Hid (∀ w', Below v.heap.size v w' → w'.cell? ⟨gm, 0, none⟩ = some (.slice A1 P.length c1) ∧ w'.cell? ⟨gm, 1, none⟩ = some (.slice A2 x c2)) := Lib.hid fun w' HV => ⟨(HV.cell (cell_lt q0)).trans q0, (HV.cell (cell_lt q1)).trans q1⟩
          clear q0 q1 k2
          have hS2_0 := SK2.out _ hd2
          refine tamed_region (S := fun w' => w'.cell? ⟨gm, 0, none⟩ = some (.slice A1 P.length c1) ∧ w'.cell? ⟨gm, 1, none⟩ = some (.slice A2 x c2)) (fun k => k == 11 || k == 12 || k == 13 || k == 14) (by kernel_rfl) ?_
          refine tame0 (k := 0) ?_ rfl (by kernel_rfl) (by kernel_rfl) (by kernel_rfl) (fun _ _ _ h => h) (by kernel_rfl) (fun v => ?_) ?_
          rotate_left
          · (go_simp; all_goals rfl)
          simp only [Act.put, List.setIfInBounds_toArray]
          refine tame0 (k := 1) ?_ rfl (by kernel_rfl) (by kernel_rfl) (by kernel_rfl) (fun _ _ _ h => h) (by kernel_rfl) (fun v => ?_) ?_
          rotate_left
          · (go_simp; all_goals rfl)
          simp only [Act.put]
          refine tameT (k := 2) ?_ rfl (by kernel_rfl) (by kernel_rfl) (by kernel_rfl) (by kernel_rfl) (by kernel_rfl) (fun _ _ _ h => h) (by kernel_rfl) hS2_0 (fun v hv => ?_) ?_
          rotate_left
          · (obtain ⟨k1, k2⟩ := hv; go_simp; all_goals rfl)
          simp only [Act.put]
          refine tame0 (k := 3) ?_ rfl (by kernel_rfl) (by kernel_rfl) (by kernel_rfl) (fun _ _ _ h => h) (by kernel_rfl) (fun v => ?_) ?_
          rotate_left
          · (go_simp; all_goals rfl)
          simp only [Act.put]
          refine tameT (k := 4) ?_ rfl (by kernel_rfl) (by kernel_rfl) (by kernel_rfl) (by kernel_rfl) (by kernel_rfl) (fun _ _ _ h => h) (by kernel_rfl) hS2_0 (fun v hv => ?_) ?_
          rotate_left
          · (obtain ⟨k1, k2⟩ := hv; go_simp; all_goals rfl)
          simp only [Act.put]
          refine tame0 (k := 5) ?_ rfl (by kernel_rfl) (by kernel_rfl) (by kernel_rfl) (fun _ _ _ h => h) (by kernel_rfl) (fun v => ?_) ?_
          rotate_left
          · (go_simp; all_goals rfl)
          simp only [Act.put]
          refine tame_one (k := 6) (by kernel_rfl) rfl (by kernel_rfl) ?_
          go_simp
          refine (l2Kids_c A1 P c1 A2 x c2 x v.drew TD.out.o1.rd HPar.out hxP (by omega)).mono ?_
          rintro e v4 ⟨Ak, ck, rfl, ok, b4⟩
          have T4 := Lib.hid (TD.out.below b4)
          clear T TD hdd
          have hd2_1 := bUp hd2 b4 (Nat.le_refl _)
          have hS2_1 := Lib.hid (SK2.out _ hd2_1)
          refine ⟨by first | exact hS2_1 | exact Hid.out hS2_1, ?_⟩
          clear ok
          refine tame_one (k := 7) (by kernel_rfl) rfl (by kernel_rfl) ?_
          go_simp
          refine ⟨by first | exact hS2_1 | exact Hid.out hS2_1, ?_⟩
          refine tame_one (k := 8) (by kernel_rfl) rfl (by kernel_rfl) ?_
          go_simp
          refine (l1Lst_c _ 1 _).mono ?_
          rintro e w' ⟨rfl, rfl⟩
          refine ⟨by first | exact hS2_1 | exact Hid.out hS2_1, ?_⟩
          have hw1 : IntKind.i64.wrap (1 - leI ((kids P (x : Int)).length : Int) 1) = if endB P x then (1 : Int) else 0 := HWX.out
          obtain ⟨y, hy⟩ : ∃ y : Int, (if endB P x then (1 : Int) else 0) = y := ⟨_, rfl⟩
          rw [hy] at hw1
          have HIF := Lib.hid hy
          clear hy
          refine tame_one (k := 9) (by kernel_rfl) rfl (by kernel_rfl) ?_
          go_simp
          refine ⟨by first | exact hS2_1 | exact Hid.out hS2_1, ?_⟩
          have Hal : Below v4.heap.size v4 (v4.alloc (.cells #[.int .i64 y] 3)) := (Below.refl _ _).alloc (Nat.le_refl _) _
          have hdx := bUp hd2_1 Hal hd2_1.size
          refine tame_one (k := 10) (by kernel_rfl) rfl (by kernel_rfl) ?_
          go_simp
          refine ⟨SK2.out _ hdx, ?_⟩
          refine tame_one (k := 11) (by kernel_rfl) rfl (by kernel_rfl) ?_
          refine op_append_ints _ (.tmp 92) (.tmp 100) rfl w.heap.size A2 x c2 (ownTo P x) rfl (ownTo_len P x).symm (T4.out.below Hal).o2 (some ⟨v4.heap.size, 0, none⟩) 1 1 [y] rfl rfl (Rd.box v4 _ _) (by rw [ownTo_len]; simp; omega) (by have := T4.out.B.size; simp; omega) ?_
          intro A5 c5 w5 o5 g5 b5
          have gw : v4.grownBy w5 (blk A2) := grown_of_alloc g5
          have kb := T4.out.bx.grownR gw (fun e => (T4.out.ap2 gm e).1 rfl)
          have T8 := Lib.hid (T4.out.push2 o5 gw (by
            rcases b5 with t | t
            · exact .inl t
            · exact .inr ⟨_, t, by simp⟩))
          rw [show (ownTo P x ++ [y]).length = x + 1 from by rw [List.length_append, ownTo_len]; rfl] at T8
          obtain ⟨⟨f0, f1, f2, f3⟩, f4, f5, f6⟩ := kb
          clear o5 g5 b5 gw
          refine ⟨fun h => absurd h (by decide), ?_⟩
          simp only [Act.put]
          refine tame_one (k := 12) (by kernel_rfl) rfl (by kernel_rfl) ?_
          go_simp
          try (refine ⟨fun h => absurd h (by decide), ?_⟩)
          refine tame_one (k := 13) (by kernel_rfl) rfl (by kernel_rfl) ?_
          go_simp
          try (refine ⟨fun h => absurd h (by decide), ?_⟩)
          refine tame_one (k := 14) (by kernel_rfl) rfl (by kernel_rfl) ?_
          go_simp
          try (refine ⟨fun h => absurd h (by decide), ?_⟩)
          refine tame_end (by kernel_rfl) ?_
          clear hd2_1 SK2 Hal hdx T4
          go_wp2_with fail
          go_roundw
          case rel => exact ⟨x + 1, A5, c5, by go_num, by omega, by rw [ownTo_succ, HIF.out]; exact T8.out⟩
          case measure => simp [intOf] <;> omega
        · obtain rfl : x = F.length := by omega
          have hW : ownTo P F.length = ownW P := by rw [← HPF.out]; exact ownTo_all P
          have T1 := T.out
          rw [hW] at T1
          replace T1 := Lib.hid T1
          have hWl : (ownW P).length ≤ 15 := by rw [ownW_len]; exact hP15
          have k0 := T1.out.bx.b.1
          have k1 := T1.out.bx.b.2.1
          have CM := l6Market_c A1 P c1 A2 (ownW P) c2 A3 F c3 v ⟨T1.out.o1.rd, T1.out.o2.rd, T1.out.o3.rd, by omega, by omega, by omega⟩
          rw [HMK.out] at CM
          clear hW T
          cases hb : allB (rmF u d p (rmK s)) 0 20
          · rw [hb] at CM
            have hR : rmB (s : Int) u d p = false := by rw [HRB.out]; exact hb
            have HNO := Lib.hid (And.intro (rm_no hR) hR)
            clear hb hR
            go_wp2_with fail
            refine CM.mono ?_
            rintro e v2 ⟨rfl, b2⟩
            have T2 := Lib.hid (T1.out.below b2)
            clear CM b2 T1 k0 k1 k2
            obtain ⟨⟨k3, k4, k5, k6⟩, k7, k8, k9⟩ := T2.out.br
            go_wp2_with fail
            have R := T2.out.fin (.slice none 0 0) (.slice none 0 0) (.slice none 0 0)
            exact bodyPost_ret (v := .tuple #[mkV none 0 0 none 0 0 none 0 0, .bool false]) (by simp [results, Try.results48, go_sem, k3, k4, k5]) rfl (by rw [HNO.out.1.1, HNO.out.1.2.1, HNO.out.1.2.2, HNO.out.2]; exact ⟨none, 0, none, 0, none, 0, rfl, Own.nil _ _, Own.nil _ _, Own.nil _ _, R.2.2.2⟩)
          · rw [hb] at CM
            have hR : rmB (s : Int) u d p = true := by rw [HRB.out]; exact hb
            have hY := HYES.out hb
            have HY := Lib.hid (And.intro (rm_yes hR) (And.intro hR hY))
            clear hb hR hY
            have e1 : Hid (rmVP (s : Int) u d p = P) := Lib.hid (by rw [HY.out.1.1, Int.toNat_natCast]; exact HY.out.2.2.1.symm)
            have e2 : Hid (rmVW (s : Int) u d p = ownW P) := Lib.hid (by rw [HY.out.1.2.1, Int.toNat_natCast, ← HY.out.2.2.1])
            have e3 : Hid (rmVF (s : Int) u d p = F) := Lib.hid (by rw [HY.out.1.2.2, Int.toNat_natCast]; exact HY.out.2.2.2.symm)
            go_wp2_with fail
            refine CM.mono ?_
            rintro e v2 ⟨rfl, b2⟩
            have T2 := Lib.hid (T1.out.below b2)
            clear CM b2 T1 k0 k1 k2
            have k0 := T2.out.bx.b.1
            have k1 := T2.out.bx.b.2.1
            have k2 := T2.out.bx.b.2.2.1
            obtain ⟨⟨k3, k4, k5, k6⟩, k7, k8, k9⟩ := T2.out.br
            go_wp2_with fail
            have R := T2.out.fin (.slice A1 P.length c1) (.slice A2 (ownW P).length c2) (.slice A3 F.length c3)
            exact bodyPost_ret (v := .tuple #[mkV A1 P.length c1 A2 (ownW P).length c2 A3 F.length c3, .bool true]) (by simp [results, Try.results48, go_sem, k3, k4, k5]) rfl (by rw [e1.out, e2.out, e3.out, HY.out.2.1]; exact ⟨A1, c1, A2, c2, A3, c3, rfl, R.1, R.2.1, R.2.2.1, R.2.2.2⟩)

end Go.Proofs.Ytnhclpajfejnoaa
