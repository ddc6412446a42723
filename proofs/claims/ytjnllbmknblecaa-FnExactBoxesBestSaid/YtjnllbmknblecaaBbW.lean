/- BoxesBest: the reference, the law. -/
import Derived.Test.YtjnllbmknblecaaBbA
import Derived.Test.YtjnllbmknblecaaBbI
namespace Go.Proofs.Ytjnllbmknblecaa
open Go.RowKit

set_option maxRecDepth 20000 in
set_option maxHeartbeats 1000000 in
theorem specBb_c (A : Option Addr) (L : List Bxd) (c : Nat) (w : World) (h : RdBs w A L) (hs : SzBs L) :
    Calls Try.prog 51 #[.slice A L.length c] w (Quietly w (.tuple #[.agg #[.int .i64 (bbT L), .int .i64 (bbB L)], .bool (bbOk L)])) := by
  have bl : Below w.heap.size w (w.alloc (.cells #[.int .i64 0, .int .i64 0] 26)) := (Below.refl _ _).alloc (Nat.le_refl _) _
  have bx := Bx.new w (.int .i64 0) (.int .i64 0) 26
  cases hq : bxsB L
  · have HV : Hid (bbT L = 0 ∧ bbB L = 0 ∧ bbOk L = false) := Lib.hid (by simp [bbT, bbB, bbOk, hq])
    go_enter Try.func51, Try.ntmps51
    go_wp2_with fail
    refine (l7Boxes_c A L c false hq _ (h.below bl) hs).mono ?_
    rintro e w2 ⟨rfl, b2⟩
    obtain ⟨y0, y1, y2, y3, y4⟩ := bx.below b2
    have HB2 := bUp bl b2 bl.size
    go_wp2
    exact bodyPost_ret (v := .tuple #[.agg #[.int .i64 0, .int .i64 0], .bool false]) (by simp [results, Try.results51, go_sem, y0, y1]) rfl ⟨by rw [HV.out.1, HV.out.2.1, HV.out.2.2], by with_reducible repeat (first | exact HB2 | refine Below.setCell ?_ (by simp <;> omega) _)⟩
  · have hok := bxsB_iff.1 hq
    have HV : Hid (bbT L = lwT (bval L 0) (scB L) ∧ bbB L = lwB (bval L 0) (scB L) ∧ bbOk L = lwOk (bval L 0) (scB L)) := Lib.hid (by simp [bbT, bbB, bbOk, hq])
    have hS := scB_bd hok
    have hv := hok.bd (s := 0) (by omega)
    have hp := pow16 L.length hok.1
    have hf := sub_full L
    have bT := cutT_bd (a := bval L 0) (b := scB L) (by omega) (M := 1562500) (by omega) (by omega)
    obtain ⟨N, hN⟩ : ∃ N, N = 2 ^ L.length := ⟨_, rfl⟩
    rw [← hN] at hp hf
    go_enter Try.func51, Try.ntmps51
    go_wp2_with fail
    refine (l7Boxes_c A L c true hq _ (h.below bl) hs).mono ?_
    rintro e w2 ⟨rfl, b2⟩
    have HB2 := bUp bl b2 bl.size
    have bx2 := bx.below b2
    have C := l7Any_c hok A c w2 (h.below HB2)
    rw [← hN] at C
    clear bx hN
    go_wp2_with fail
    refine C.mono ?_
    rintro e w3 ⟨AN, cN, rfl, hr, b3⟩
    have HB3 := bUp HB2 b3 HB2.size
    have bx3 := bx2.below b3
    clear C bx2
    obtain ⟨M, hM⟩ : ∃ M, N = M + 1 := ⟨N - 1, by omega⟩
    subst hM
    rw [Nat.add_sub_cancel] at hf
    obtain ⟨an, ar, cr, rfl, n1, rr⟩ := hr M (by omega)
    rw [rowK_len] at n1
    have hrow := (rowK_f L M).2 0 (by omega)
    rw [hf] at hrow
    obtain ⟨y0, y1⟩ := pcells_get (rowK L M) 0 (by rw [rowK_len]; omega)
    obtain ⟨aq, rfl, r0⟩ := rr _ _ y0
    obtain ⟨_, er, r1⟩ := rr _ _ y1
    injection er with er
    subst er
    rw [hrow.1] at r0
    rw [hrow.2] at r1
    have e1 : IntKind.i64.wrap (((M + 1 : Nat) : Int) - 1) = (M : Int) := by rw [IntWalk.i64_in _ (by omega)]; omega
    have r1' := cellOffB 1 (by omega) r1
    have r0' : w3.cell? aq = some (.int .i64 (cutT (bval L 0) (scB L))) := r0
    have r1'' : w3.cell? ⟨aq.block, aq.off + 1, none⟩ = some (.int .i64 (cutB (bval L 0) (scB L))) := r1'
    have hM16 : M ≤ 15 := by omega
    clear hr rr y0 y1 r1 hrow hf hp e1
    go_wp2_with fail
    refine (l2Kept_c _ _ (by omega) (by omega) _).mono ?_
    rintro e w4 ⟨rfl, b4⟩
    have HB4 := bUp HB3 b4 HB3.size
    obtain ⟨y0, y1, y2, y3, y4⟩ := bx3.below b4
    go_wp2
    exact bodyPost_ret (v := .tuple #[.agg #[.int .i64 (lwT (bval L 0) (scB L)), .int .i64 (lwB (bval L 0) (scB L))], .bool (lwOk (bval L 0) (scB L))]) (by simp [results, Try.results51, go_sem, y0, y1, lwT, lwB, lwOk]) rfl ⟨by rw [HV.out.1, HV.out.2.1, HV.out.2.2], by with_reducible repeat (first | exact HB4 | refine Below.setCell ?_ (by simp <;> omega) _)⟩
set_option maxRecDepth 20000 in
set_option maxHeartbeats 1000000 in
theorem lawBb (A : Option Addr) (L : List Bxd) (c : Nat) (w : World) (ha : RdBs w A L) (hn : L.length ≤ 9223372036854775807) (hr : LgBs L) :
    Calls Try.prog 13 #[.slice A L.length c] w fun e w' => e = .returned (.bool true) ∧ Below w.heap.size w w' := by
  go_enter Try.func13, Try.ntmps13
  go_wp2_with fail
  refine (szBoxS_c A L c w ha hn hr).mono ?_
  rintro e w1 ⟨r, rfl, hr1 | ⟨hr1, sz⟩, b1⟩
  · go_wp2
    go_ret
    exact ⟨rfl, b1⟩
  go_wp2_with fail
  refine (toBoxS_c A L c _ (ha.below b1) sz).mono ?_
  rintro e w2 ⟨gs, rfl, os, b2⟩
  have HB2 := bUp b1 b2 b1.size
  go_wp2_with fail
  refine (specBb_c _ _ _ _ os sz).mono ?_
  rintro e w3 ⟨rfl, b3⟩
  have HB3 := bUp HB2 b3 HB2.size
  have HB4 : Below w.heap.size w (w3.alloc (.cells #[.int .i64 (bbT L), .int .i64 (bbB L)] 26)) := HB3.alloc HB3.size _
  have bx4 := Bx.new w3 (.int .i64 (bbT L)) (.int .i64 (bbB L)) 26
  clear os b2 b3
  go_wp2_with fail
  generalize w3.alloc (.cells #[.int .i64 (bbT L), .int .i64 (bbB L)] 26) = v4 at *
  refine (toBoxS_c A L c _ (ha.below HB4) sz).mono ?_
  rintro e w5 ⟨gx, rfl, ox, b5⟩
  have HB5 := bUp HB4 b5 HB4.size
  have bx5 := bx4.below b5
  clear bx4 b5
  go_wp2_with fail
  refine (implBb_c _ _ _ _ ox (Nat.le_refl _) sz).mono ?_
  rintro e w6 ⟨rfl, b6⟩
  have HB6 := bUp HB5 b6 HB5.size
  have bx6 := bx5.below b6
  have ox6 := ox.below b6
  have HB7 : Below w.heap.size w (w6.alloc (.cells #[.int .i64 (bbT L), .int .i64 (bbB L)] 26)) := HB6.alloc HB6.size _
  have ox7 := ox6.below ((Below.refl _ _).alloc (Nat.le_refl _) (.cells #[.int .i64 (bbT L), .int .i64 (bbB L)] 26))
  clear bx5 b6 ox ox6
  obtain ⟨f0, f1, z0, z1, hz⟩ := bx6
  go_wp2_with fail
  generalize w6.alloc (.cells #[.int .i64 (bbT L), .int .i64 (bbB L)] 26) = v7 at *
  refine (eqIntA2_same _ _ _).mono ?_
  rintro e w8 ⟨rfl, b8⟩
  clear f0 f1 z0 z1 hz
  have HB8 := bUp HB7 b8 HB7.size
  have ox8 := ox7.below b8
  clear ox7 b8
  go_wp2_with fail
  refine (toBoxS_c A L c _ (ha.below HB8) sz).mono ?_
  rintro e w9 ⟨gy, rfl, oy, b9⟩
  have HB9 := bUp HB8 b9 HB8.size
  have ox9 := ox8.below b9
  go_wp2_with fail
  refine (eqBoxS_same _ _ _ _ _ _ ox9 oy sz).mono ?_
  rintro e w10 ⟨rfl, b10⟩
  go_wp2
  go_ret
  exact ⟨rfl, bUp HB9 b10 HB9.size⟩
end Go.Proofs.Ytjnllbmknblecaa
