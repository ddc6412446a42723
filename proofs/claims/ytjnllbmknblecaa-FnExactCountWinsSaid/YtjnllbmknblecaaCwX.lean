/- CountWins: the walks of the two counts. -/
import Derived.Test.YtjnllbmknblecaaCwW
namespace Go.Proofs.Ytjnllbmknblecaa
open Go.RowKit

section
variable {ops : Array Oper} {rest : List Oper} {o : Oper} {a : Act} {Q : Exit → Act → World → Prop}
set_option maxRecDepth 20000 in
/-- 'append(xs, y)' onto a full slice that is only read: it goes to new memory. -/
theorem wp_append_full (w : World) (y : Int) (t : TypeId) (hgd : o.guard = none) (s x : Operand) (ho : o.op = .call { callee := .builtin .append, args := #[s, x], argTypes := #[22, 22] })
    (A : Option Addr) (n c : Nat) (xs : List Int) (hs : a.eval s = .slice A n c) (hn : n = xs.length) (hc : c = n) (ha : Rd w A (ints xs))
    (hx : a.eval x = .slice (some ⟨w.heap.size, 0, none⟩) 1 1) (h63 : xs.length + 1 ≤ 16777216)
    (h : ∀ g c2 w', Own w' w.heap.size (some ⟨g, 0, none⟩) c2 (xs ++ [y]) → Below w.heap.size w w' → wpList Try.prog ops Q rest (a.put o.dst (.slice (some ⟨g, 0, none⟩) (n + 1) c2)) w') :
    wpList Try.prog ops Q (o :: rest) a (w.alloc (.cells #[.int .i64 y] t)) := by
  subst hc hn
  obtain ⟨i0, hi, hz0, hz1, hz2⟩ := info_parts int_info
  have ha1 : Rd (w.alloc (.cells #[.int .i64 y] t)) A (ints xs) := ha.alloc _
  refine wpList_append_grows _ hgd s x 22 ho 3 i0 _ 1 8 Try.underlying22 hi hz0 hz1 hz2 rfl (by omega) A xs.length xs.length (ints xs) hs ?_ (by simp [ints]) ?_
    ⟨w.heap.size, 0, none⟩ 1 1 [.int .i64 y] hx rfl (cell_one_new w _ t) (by simp; rfl) (by omega) (by unfold maxLen; omega) (by omega) ?_
  · intro hA
    subst hA
    have : xs = [] := by
      cases xs with
      | nil => rfl
      | cons x l => obtain ⟨ad, h, _⟩ := ha 0 _ rfl; cases h
    subst this
    exact ⟨rfl, rfl⟩
  · intro b hb j u hu
    obtain ⟨ad, he, hcell⟩ := ha1 j u hu
    rw [hb] at he
    injection he with he
    subst he
    exact hcell
  · intro v' w' hown hg
    obtain ⟨g, cap, rfl, _, _⟩ := World.ownsRow.form hown (by omega)
    refine h g cap w' ?_ ?_
    · refine Own.mono (own_of w' _ (some ⟨g, 0, none⟩) (xs.length + 1) cap (xs ++ [y]) (by simp) ?_) (show w.heap.size ≤ (w.alloc (.cells #[.int .i64 y] t)).heap.size by simp)
      rw [ints_append]
      exact hown
    · exact ((Below.refl _ _).alloc (Nat.le_refl _) _).trans ((below_of_grown hg).mono (by simp))
end
theorem l1OwnN_c (A : Option Addr) (b : List Nat) (n c : Nat) (w : World) (ha : Rd w A (ints (nl b))) (hn : n = b.length) (hl : b.length ≤ 1000) :
    Calls Try.prog 104 #[.slice A n c] w fun e w' => ∃ A2 c2, e = .returned (.slice A2 n c2) ∧ Own w' w.heap.size A2 c2 (nl b) ∧ Below w.heap.size w w' := by
  subst hn
  have C := l1Own_c A (nl b) c w ha (by rw [nl_length]; omega)
  rw [nl_length] at C
  refine C.mono ?_
  rintro e w' ⟨A2, c2, rfl, ho, hb⟩
  exact ⟨A2, c2, by rw [nl_length], ho, hb⟩

theorem drop_at {b : List Nat} {k : Nat} (hk : k < b.length) : b.drop k = nAt b k :: b.drop (k + 1) := by
  rw [List.drop_eq_getElem_cons hk, nAt_eq hk]
theorem nl_rev (b : List Nat) (k : Nat) : nl (k :: b).reverse = nl b.reverse ++ [(k : Int)] := by rw [List.reverse_cons, nl_app]

set_option maxRecDepth 20000 in
set_option maxHeartbeats 1000000 in
theorem l7Wins_zero (n r : Nat) (h1 : 1 ≤ n) (h7 : n ≤ 7) (b : List Nat) (A : Option Addr) (c : Nat) (w : World) (hl : b.length = n) (hb : ∀ x, x ∈ b → x < n) (ha : Rd w A (ints (nl b))) :
    Calls Try.prog 83 #[.int .i64 (n : Int), .int .i64 (r : Int), .slice A n c] w (Quietly w (.int .i64 ((sFin n r b 0 0 : Nat) : Int))) := by
  have HL := Lib.hid hl
  clear hl
  go_enter Try.func83, Try.ntmps83
  go_wp2
  go_loop [9, 10] (fun q i => ∃ (k t : Nat), k ≤ n ∧ i = .int .i64 k ∧ q = .int .i64 ((t : Int) - 1) ∧ t ≤ 8 ∧ sFin n r (b.drop k) k t = sFin n r b 0 0) (fun _ i => n - (intOf i).toNat)
  case atStart => exact ⟨0, 0, by omega, rfl, rfl, by omega, rfl⟩
  case round =>
    obtain ⟨k, t, hk, rfl, rfl, ht2, hs⟩ := hrel
    have HS := Lib.hid hs
    clear hs
    by_cases hlt : k < n
    · have hkb : k < b.length := by have := HL.out; omega
      obtain ⟨a, rfl, hca⟩ := ha.nat hkb
      have hx := getD_lt hb hkb
      have HD := Lib.hid (drop_at hkb)
      clear hkb
      generalize nAt b k = x at *
      by_cases hrk : r ≤ k ∧ (t ≤ x ∨ k + 1 = n)
      · have HV : Hid (sFin n r b 0 0 = if x + 1 = n then 1 else 0) := Lib.hid (by rw [← HS.out, HD.out, sFin_stop hrk.1 hrk.2])
        obtain ⟨hr1, hr2⟩ := hrk
        by_cases hxn : x + 1 = n
        · have HW : Hid (sFin n r b 0 0 = 1) := Lib.hid (by rw [HV.out, if_pos hxn])
          have e3 : ((x : Int) == (n : Int) - 1) = true := by simp; omega
          clear HV
          by_cases htx : t ≤ x
          · have htx2 : (t : Int) - 1 < (x : Int) := by omega
            clear hr2 hxn
            go_wp2
            go_ret
            exact ⟨by rw [HW.out] <;> rfl, Below.refl _ _⟩
          · have htx2 : ¬ (t : Int) - 1 < (x : Int) := by omega
            have e2 : ((k : Int) == (n : Int) - 1) = true := by simp; omega
            clear hr2 hxn
            go_wp2
            go_ret
            exact ⟨by rw [HW.out] <;> rfl, Below.refl _ _⟩
        · have HW : Hid (sFin n r b 0 0 = 0) := Lib.hid (by rw [HV.out, if_neg hxn])
          have e3 : ((x : Int) == (n : Int) - 1) = false := by simp; omega
          clear HV
          by_cases htx : t ≤ x
          · have htx2 : (t : Int) - 1 < (x : Int) := by omega
            clear hr2 hxn
            go_wp2
            go_ret
            exact ⟨by rw [HW.out] <;> rfl, Below.refl _ _⟩
          · have htx2 : ¬ (t : Int) - 1 < (x : Int) := by omega
            have e2 : ((k : Int) == (n : Int) - 1) = true := by simp; omega
            clear hr2 hxn
            go_wp2
            go_ret
            exact ⟨by rw [HW.out] <;> rfl, Below.refl _ _⟩
      · have HN : Hid (sFin n r (b.drop (k + 1)) (k + 1) (if t ≤ x then x + 1 else t) = sFin n r b 0 0) := Lib.hid (by rw [← HS.out, HD.out, sFin_go hrk])
        by_cases hr1 : r ≤ k
        · have htx : ¬ t ≤ x := fun h => hrk ⟨hr1, .inl h⟩
          have hkn : ¬ k + 1 = n := fun h => hrk ⟨hr1, .inr h⟩
          have HN2 : Hid (sFin n r (b.drop (k + 1)) (k + 1) t = sFin n r b 0 0) := Lib.hid (by rw [← HN.out, if_neg htx])
          have e2 : ((k : Int) == (n : Int) - 1) = false := by simp; omega
          have htx2 : ¬ (t : Int) - 1 < (x : Int) := by omega
          have CM := l1Most_is ((t : Int) - 1) (x : Int) _ (mxI_l' htx2)
          clear hrk HN
          go_wp2_with fail
          refine (CM _).mono ?_
          rintro e w' ⟨rfl, rfl⟩
          go_wp2
          go_round
          case rel => exact ⟨k + 1, t, by omega, by go_num, rfl, ht2, HN2.out⟩
          case measure => simp [intOf] <;> omega
        · by_cases htx : t ≤ x
          · have HN2 : Hid (sFin n r (b.drop (k + 1)) (k + 1) (x + 1) = sFin n r b 0 0) := Lib.hid (by rw [← HN.out, if_pos htx])
            have htx2 : ¬ (x : Int) < (t : Int) - 1 := by omega
            have CM := l1Most_is ((t : Int) - 1) (x : Int) _ (mxI_r htx2)
            clear hrk HN
            go_wp2_with fail
            refine (CM _).mono ?_
            rintro e w' ⟨rfl, rfl⟩
            go_wp2
            go_round
            case rel => exact ⟨k + 1, x + 1, by omega, by go_num, by simp, by omega, HN2.out⟩
            case measure => simp [intOf] <;> omega
          · have HN2 : Hid (sFin n r (b.drop (k + 1)) (k + 1) t = sFin n r b 0 0) := Lib.hid (by rw [← HN.out, if_neg htx])
            have htx2 : ¬ (t : Int) - 1 < (x : Int) := by omega
            have CM := l1Most_is ((t : Int) - 1) (x : Int) _ (mxI_l' htx2)
            clear hrk HN
            go_wp2_with fail
            refine (CM _).mono ?_
            rintro e w' ⟨rfl, rfl⟩
            go_wp2
            go_round
            case rel => exact ⟨k + 1, t, by omega, by go_num, rfl, ht2, HN2.out⟩
            case measure => simp [intOf] <;> omega
    · have HV : Hid (sFin n r b 0 0 = 0) := Lib.hid (by rw [← HS.out, List.drop_of_length_le (by have := HL.out; omega), sFin])
      go_wp2
      go_ret
      exact ⟨by rw [HV.out] <;> rfl, Below.refl _ _⟩

set_option maxRecDepth 20000 in
set_option maxHeartbeats 1000000 in
theorem l7Wins_c (n r : Nat) (h1 : 1 ≤ n) (h7 : n ≤ 7) : ∀ (m : Nat) (b : List Nat) (l : Nat) (A : Option Addr) (c : Nat) (w : World), l = b.length → l + m = n → (∀ x, x ∈ b → x < n) → Rd w A (ints (nl b.reverse)) →
    Calls Try.prog 83 #[.int .i64 (n : Int), .int .i64 (r : Int), .slice A l c] w (Quietly w (.int .i64 ((sW n r m b : Nat) : Int))) := by
  intro m
  induction m with
  | zero =>
    intro b l A c w hbl hl hb ha
    obtain rfl : l = n := by omega
    exact l7Wins_zero l r h1 h7 b.reverse A c w (by rw [List.length_reverse]; omega) (fun x hx => hb x (List.mem_reverse.1 hx)) ha
  | succ m ih =>
    intro b l A c w hbl hl hb ha
    have hB : ∀ x, sW n r m (x :: b) ≤ 823543 := fun x => Nat.le_trans (sW_bd _ _ _ _) (pow7 h7 (by omega))
    have HBL := Lib.hid hbl
    have hln : (l : Int) < (n : Int) := by omega
    clear hbl
    go_enter Try.func83, Try.ntmps83
    go_wp2
    go_loopw [7, 8] (fun s i wr => ∃ k : Nat, k ≤ n ∧ i = .int .i64 k ∧ s = .int .i64 ((sumO b (fun x => sW n r m (x :: b)) k : Nat) : Int) ∧ Below w.heap.size w wr) (fun _ i _ => n - (intOf i).toNat)
    case atStart => exact ⟨0, by omega, rfl, rfl, Below.refl _ _⟩
    case round =>
      obtain ⟨wo, rfl⟩ : ∃ wo : World, wo = wr := ⟨_, rfl⟩
      obtain ⟨k, hk, rfl, rfl, hbl⟩ := hrel
      have ha1 := ha.below hbl (Nat.le_refl _)
      have HR : Hid (l = b.reverse.length) := Lib.hid (by rw [List.length_reverse]; exact HBL.out)
      by_cases hlt : k < n
      · cases hx : memN b k
        · have HN := Lib.hid (sumO_out (f := fun x => sW n r m (x :: b)) hx)
          have hs := sumO_mono (b := b) (k := k) hB (by omega)
          have hk2 := hB k
          have hap := app_lt hb hlt
          have hxr : memN b.reverse k = false := by rw [memN_rev]; exact hx
          go_wp2_with fail
          refine (has_is _ _ _ _ _ _ hxr _ ha1 HR.out (by have := HR.out; omega)).mono ?_
          rintro e w' ⟨rfl, rfl⟩
          go_wp2_with fail
          refine (l1OwnN_c _ _ _ _ _ ha1 HR.out (by have := HR.out; omega)).mono ?_
          rintro e w2 ⟨A2, c2, rfl, ho2, hb2⟩
          have HB2 := bUp hbl hb2 hbl.size
          go_wp2_with (at_builtin; refine wp_append1 _ _ _ rfl _ _ rfl w.heap.size A2 l c2 (nl b.reverse) rfl (by rw [nl_length]; exact HR.out) (ho2.mono hbl.size) rfl (by rw [nl_length]; have := HR.out; omega) HB2.size ?_; rw [← nl_rev]; intro A3 c3 w3 ho3 hg3 hb3)
          have HB3 := HB2.grown hg3 HB2.size (fun k hk => Nat.le_trans hbl.size (ho2.ge k hk))
          have C := ih (k :: b) (l + 1) A3 c3 w3 (by rw [List.length_cons, HBL.out]) (by omega) hap ho3.rd
          refine C.mono ?_
          rintro e w4 ⟨rfl, hb4⟩
          have HB4 := bUp HB3 hb4 HB3.size
          clear hb3 hg3 ho2 ho3 hb2 hb4 C
          go_wp2
          go_roundw
          case rel => exact ⟨k + 1, by omega, by go_num, by rw [HN.out]; simp, HB4⟩
          case measure => simp [intOf] <;> omega
        · have HN := Lib.hid (sumO_in (f := fun x => sW n r m (x :: b)) hx)
          have hxr : memN b.reverse k = true := by rw [memN_rev]; exact hx
          go_wp2_with fail
          refine (has_is _ _ _ _ _ _ hxr _ ha1 HR.out (by have := HR.out; omega)).mono ?_
          rintro e w' ⟨rfl, rfl⟩
          go_wp2
          go_roundw
          case rel => exact ⟨k + 1, by omega, by go_num, by rw [HN.out], hbl⟩
          case measure => simp [intOf] <;> omega
      · have hkn : k = n := by omega
        subst hkn
        go_wp2
        go_ret
        exact ⟨rfl, hbl⟩
end Go.Proofs.Ytjnllbmknblecaa
