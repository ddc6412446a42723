/- Laws of two spreads: sums of spreads, units that go apart. -/
import Derived.Test.YtgmgiedbfbdfdaaAlk
import Derived.Test.YtgmgiedbfbdfdaaCopy
namespace Go.Proofs.Ytgmgiedbfbdfdaa
open Go.RowKit

theorem alk_bd4 {xs ys : List Int} (h : alkB xs ys = true) : allB xs 0 40 = true ∧ allB ys 0 40 = true ∧ xs.length = ys.length ∧ 1 ≤ xs.length ∧ xs.length ≤ 8 := by
  have h1 := alk_yes h
  have h2 := sprB_yes h1.1
  have h3 := sprB_yes h1.2.1
  exact ⟨h2.2.2.1, h3.2.2.1, h1.2.2.1, h2.1, h2.2.1⟩
/-- The sums of the first numbers of two lists. -/
def mxL (xs ys : List Int) (k : Nat) : List Int := (List.range k).map fun i => nth xs i + nth ys i
theorem mxL_length (xs ys : List Int) (k : Nat) : (mxL xs ys k).length = k := by simp [mxL]
theorem mxL_succ (xs ys : List Int) (k : Nat) : mxL xs ys (k + 1) = mxL xs ys k ++ [nth xs k + nth ys k] := by simp [mxL, List.range_succ]
theorem mxL_set (xs ys : List Int) (k : Nat) (hk : k < xs.length) : (mxL xs ys k ++ xs.drop k).set k (nth xs k + nth ys k) = mxL xs ys (k + 1) ++ xs.drop (k + 1) := by
  rw [List.set_append_right _ _ (by rw [mxL_length]; omega), mxL_length, Nat.sub_self, List.drop_eq_getElem_cons hk, List.set_cons_zero, mxL_succ]
  simp
theorem mxL_at (xs ys : List Int) (k : Nat) (hk : k < xs.length) : nth (mxL xs ys k ++ xs.drop k) k = nth xs k := by
  rw [nth_eq (by simp [mxL]; omega), nth_eq hk, List.getElem_append_right (by rw [mxL_length]; omega)]
  simp [mxL_length]
def mixOk (xs ys : List Int) : Bool := alkB xs ys && sprB (mxL xs ys xs.length)
def mixV (xs ys : List Int) : List Int := if mixOk xs ys then mxL xs ys xs.length else []
theorem mix_1 {xs ys : List Int} (h : alkB xs ys = false) : mixV xs ys = [] ∧ mixOk xs ys = false := by simp [mixV, mixOk, h]
theorem mix_2 {xs ys : List Int} (h : sprB (mxL xs ys xs.length) = false) : mixV xs ys = [] ∧ mixOk xs ys = false := by simp [mixV, mixOk, h]
theorem mix_3 {xs ys : List Int} (h1 : alkB xs ys = true) (h : sprB (mxL xs ys xs.length) = true) : mixV xs ys = mxL xs ys xs.length ∧ mixOk xs ys = true := by simp [mixV, mixOk, h, h1]

theorem implMix_c (A B : Option Addr) (xs ys : List Int) (c d : Nat) (w : World) (ha : Rd w A (ints xs)) (hb : Rd w B (ints ys)) (hl : xs.length ≤ 16777216) (hm : ys.length ≤ 16777216) :
    Calls Try.prog 27 #[.slice A xs.length c, .slice B ys.length d] w (Gives w (mixV xs ys) (mixOk xs ys)) := by
  by_cases h : alkB xs ys = true
  · obtain ⟨hx, hy, he, h1, h8⟩ := alk_bd4 h
    have HE := Lib.hid he
    have HH := Lib.hid h
    clear he
    go_enter Try.func27, Try.ntmps27
    go_wp2_with (go_at_call 33; refine (alike_is _ _ _ _ _ _ _ (by assumption) _ ha hb hl hm).mono ?_; rintro e w' ⟨rfl, rfl⟩)
    refine (copied_c _ _ _ _ ha hl).mono ?_
    rintro e w1 ⟨A1, c1, rfl, ho1, hb1⟩
    obtain ⟨g, rfl, hg1, hg2⟩ := ho1.form (by omega)
    clear h
    go_wp2
    go_loopw [17] (fun i wr => ∃ k : Nat, k ≤ xs.length ∧ i = .int .i64 k ∧ Own wr w.heap.size (some ⟨g, 0, none⟩) c1 (mxL xs ys k ++ xs.drop k) ∧ Below w.heap.size w wr) (fun i _ => xs.length - (intOf i).toNat)
    case atStart => exact ⟨0, by omega, rfl, by simpa [mxL] using ho1, hb1⟩
    case round =>
      obtain ⟨k, hk, rfl, ho, hB⟩ := hrel
      clear ho1 hb1
      by_cases hlt : k < xs.length
      · have hlt2 : k < ys.length := by have := HE.out; omega
        obtain ⟨b, rfl, hcb⟩ := (hb.below hB (Nat.le_refl _)).intN hlt2
        have hco := ho.cellN (k := k) (by simp [mxL]; omega)
        rw [mxL_at _ _ _ hlt] at hco
        have hfo := ho.frozen k
        have hst := ho.set k (nth xs k + nth ys k)
        rw [mxL_set _ _ _ hlt] at hst
        have b1 := allB_nth hx hlt
        have b2 := allB_nth hy hlt2
        clear hx hy
        have HB2 := hB.grown hst.2 hB.size (by simp; omega)
        go_wp2
        go_roundw
        case rel => exact ⟨k + 1, by omega, by go_num, hst.1, HB2⟩
        case measure => simp [intOf] <;> omega
      · have hkn : k = xs.length := by omega
        subst hkn
        rw [List.drop_length, List.append_nil] at ho
        clear hx hy
        have hn : (mxL xs ys xs.length).length = xs.length := mxL_length _ _ _
        have HN := Lib.hid hn
        clear hn
        have hge : ¬ xs.length < ys.length := by have := HE.out; omega
        cases hs : sprB (mxL xs ys xs.length)
        · have C := implSpread_is (some ⟨g, 0, none⟩) (mxL xs ys xs.length) c1 false hs wr ho.rd (by have := HN.out; omega)
          rw [HN.out] at C
          have M := Lib.hid (mix_2 hs)
          clear hs
          have C := Lib.hid C
          go_wp2_with fail
          refine C.out.mono ?_
          rintro e w' ⟨rfl, rfl⟩
          go_wp2
          go_ret2
          rw [M.out.1, M.out.2]
          exact ⟨none, 0, rfl, Own.nil _ _, hB⟩
        · have C := implSpread_is (some ⟨g, 0, none⟩) (mxL xs ys xs.length) c1 true hs wr ho.rd (by have := HN.out; omega)
          rw [HN.out] at C
          have M := Lib.hid (mix_3 HH.out hs)
          clear hs
          have C := Lib.hid C
          go_wp2_with fail
          refine C.out.mono ?_
          rintro e w' ⟨rfl, rfl⟩
          go_wp2
          go_ret2
          rw [M.out.1, M.out.2]
          exact ⟨_, _, by rw [HN.out]; rfl, ho, hB⟩
  · have h' : alkB xs ys = false := by simpa using h
    rw [(mix_1 h').1, (mix_1 h').2]
    clear h
    go_enter Try.func27, Try.ntmps27
    go_wp2_with (go_at_call 33; refine (alike_is _ _ _ _ _ _ _ (by assumption) _ ha hb hl hm).mono ?_; rintro e w' ⟨rfl, rfl⟩)
    go_ret2
    exact ⟨none, 0, rfl, Own.nil _ _, Below.refl _ _⟩
theorem specMix_c (A B : Option Addr) (xs ys : List Int) (c d : Nat) (w : World) (ha : Rd w A (ints xs)) (hb : Rd w B (ints ys)) (hl : xs.length ≤ 16777216) (hm : ys.length ≤ 16777216) :
    Calls Try.prog 26 #[.slice A xs.length c, .slice B ys.length d] w (Gives w (mixV xs ys) (mixOk xs ys)) := by
  by_cases h : alkB xs ys = true
  · obtain ⟨hx, hy, he, h1, h8⟩ := alk_bd4 h
    have HE := Lib.hid he
    have HH := Lib.hid h
    clear he
    go_enter Try.func26, Try.ntmps26
    go_wp2_with fail
    refine (l10Alike_is _ _ _ _ _ _ _ h _ (ha.alloc _) (hb.alloc _) hl hm).mono ?_
    rintro e w' ⟨rfl, rfl⟩
    clear h
    go_wp2
    go_loopw [6, 7] (fun t i wr => ∃ k : Nat, ∃ A2 c2, k ≤ xs.length ∧ i = .int .i64 k ∧ t = .slice A2 k c2 ∧ Own wr w.heap.size A2 c2 (mxL xs ys k) ∧ Below w.heap.size w wr) (fun _ i _ => xs.length - (intOf i).toNat)
    case atStart => exact ⟨0, _, _, by omega, rfl, rfl, Own.lit w [] (by simp), (Below.refl _ _).alloc (Nat.le_refl _) _⟩
    case round =>
      obtain ⟨k, A2, c2, hk, rfl, rfl, ho, hB⟩ := hrel
      by_cases hlt : k < xs.length
      · have hlt2 : k < ys.length := by have := HE.out; omega
        obtain ⟨a, rfl, hca⟩ := (ha.below hB (Nat.le_refl _)).intN hlt
        obtain ⟨b, rfl, hcb⟩ := (hb.below hB (Nat.le_refl _)).intN hlt2
        have b1 := allB_nth hx hlt
        have b2 := allB_nth hy hlt2
        have e1 : IntKind.i64.wrap (nth xs k + nth ys k) = nth xs k + nth ys k := IntWalk.i64_in _ (by omega)
        clear hx hy
        go_wp2
        go_region_law (refine step_append_ints _ rfl (.tmp 20) (.tmp 30) rfl w.heap.size A2 k c2 (mxL xs ys k) rfl (by rw [mxL_length]) (ho.alloc _).drew (some ⟨wr.heap.size, 0, none⟩) 1 1 [nth xs k + nth ys k] rfl rfl (Rd.box wr _ _).drew (by rw [mxL_length]; simp; omega) (by have := hB.size; simp; omega) ?_; rw [← mxL_succ]; intro A3 c3 w3 ho3 hg3 hb3; clear hb3)
        all_goals
          have HB3 := hB.grown (grown_of_alloc_drew hg3) hB.size ho.ge
          clear hg3 e1
          go_wp2
          go_roundw
          case rel => exact ⟨k + 1, A3, c3, by omega, by go_num, rfl, ho3, HB3⟩
          case measure => simp [intOf] <;> omega
      · have hkn : k = xs.length := by omega
        subst hkn
        clear hx hy
        have hn : (mxL xs ys xs.length).length = xs.length := mxL_length _ _ _
        have HN := Lib.hid hn
        clear hn
        cases hs : sprB (mxL xs ys xs.length)
        · have C := l10Spread_is A2 (mxL xs ys xs.length) c2 false hs wr ho.rd (by have := HN.out; omega)
          rw [HN.out] at C
          have M := Lib.hid (mix_2 hs)
          clear hs
          have C := Lib.hid C
          go_wp2_with fail
          refine C.out.mono ?_
          rintro e w' ⟨rfl, rfl⟩
          go_wp2
          go_ret2
          rw [M.out.1, M.out.2]
          exact ⟨_, _, rfl, (Own.lit wr [] (by simp)).mono hB.size, hB.alloc hB.size _⟩
        · have C := l10Spread_is A2 (mxL xs ys xs.length) c2 true hs wr ho.rd (by have := HN.out; omega)
          rw [HN.out] at C
          have M := Lib.hid (mix_3 HH.out hs)
          clear hs
          have C := Lib.hid C
          go_wp2_with fail
          refine C.out.mono ?_
          rintro e w' ⟨rfl, rfl⟩
          go_wp2
          go_ret2
          rw [M.out.1, M.out.2]
          exact ⟨_, _, by rw [HN.out]; rfl, ho, hB⟩
  · have h' : alkB xs ys = false := by simpa using h
    rw [(mix_1 h').1, (mix_1 h').2]
    clear h
    go_enter Try.func26, Try.ntmps26
    go_wp2_with fail
    refine (l10Alike_is _ _ _ _ _ _ _ (by assumption) _ (ha.alloc _) (hb.alloc _) hl hm).mono ?_
    rintro e w' ⟨rfl, rfl⟩
    go_wp2
    go_ret2
    exact ⟨_, _, rfl, Own.lit w [] (by simp), (Below.refl _ _).alloc (Nat.le_refl _) _⟩

/-! MoveApart -/
def mvOk (xs : List Int) (s : Int) : Bool := sprB xs && inB s 1 ((xs.length : Int) - 2) && decide (2 ≤ nth xs s.toNat)
def mvL (xs : List Int) (t : Nat) : List Int := ((xs.set t (nth xs t + 1)).set (t + 1) (nth xs (t + 1) - 2)).set (t + 1 + 1) (nth xs (t + 1 + 1) + 1)
def mvV (xs : List Int) (s : Int) : List Int := if mvOk xs s then mvL xs (s.toNat - 1) else []
theorem mvL_length (xs : List Int) (t : Nat) : (mvL xs t).length = xs.length := by simp [mvL]
theorem mv_no {xs : List Int} {s : Int} (h : mvOk xs s = false) : mvV xs s = [] := by simp [mvV, h]
theorem mv_1 {xs : List Int} {s : Int} (h : sprB xs = false) : mvV xs s = [] ∧ mvOk xs s = false := by simp [mvV, mvOk, h]
theorem mv_2 {xs : List Int} {s : Int} (h : inB s 1 ((xs.length : Int) - 2) = false) : mvV xs s = [] ∧ mvOk xs s = false := by simp [mvV, mvOk, h]
theorem mv_3 {xs : List Int} {t : Nat} (h : nth xs (t + 1) < 2) : mvV xs ((t : Int) + 1) = [] ∧ mvOk xs ((t : Int) + 1) = false := by
  have : ¬ 2 ≤ nth xs (t + 1) := by omega
  have e : ((t : Int) + 1).toNat = t + 1 := by omega
  simp [mvV, mvOk, e, this]
theorem mv_4 {xs : List Int} {t : Nat} (h1 : sprB xs = true) (h2 : inB ((t : Int) + 1) 1 ((xs.length : Int) - 2) = true) (h : ¬ nth xs (t + 1) < 2) : mvV xs ((t : Int) + 1) = mvL xs t ∧ mvOk xs ((t : Int) + 1) = true := by
  have : 2 ≤ nth xs (t + 1) := by omega
  have e : ((t : Int) + 1).toNat = t + 1 := by omega
  simp [mvV, mvOk, e, this, h1, h2]
theorem nth_set_ne (xs : List Int) (i j : Nat) (x : Int) (h : i ≠ j) : nth (xs.set i x) j = nth xs j := by simp [nth, h]

theorem implMove_c (A : Option Addr) (xs : List Int) (c : Nat) (s : Int) (w : World) (ha : Rd w A (ints xs)) (hl : xs.length ≤ 16777216) :
    Calls Try.prog 19 #[.slice A xs.length c, .int .i64 s] w (Gives w (mvV xs s) (mvOk xs s)) := by
  cases h1 : sprB xs
  · rw [(mv_1 h1).1, (mv_1 h1).2]
    go_enter Try.func19, Try.ntmps19
    go_wp2_with (go_at_call 12; refine (implSpread_is _ _ _ _ (by assumption) _ ha hl).mono ?_; rintro e w' ⟨rfl, rfl⟩)
    go_ret2
    exact ⟨none, 0, rfl, Own.nil _ _, Below.refl _ _⟩
  · have b1 := sprB_yes h1
    obtain ⟨l1, l2, hx, -, -⟩ := b1
    cases h2 : inB s 1 ((xs.length : Int) - 2)
    · rw [(mv_2 h2).1, (mv_2 h2).2]
      clear hx
      go_enter Try.func19, Try.ntmps19
      go_wp2_with (first
        | (go_at_call 12; refine (implSpread_is _ _ _ _ (by assumption) _ ha hl).mono ?_; rintro e w' ⟨rfl, rfl⟩)
        | (go_at_call 29; refine (within_is _ _ _ _ (by assumption) _).mono ?_; rintro e w' ⟨rfl, rfl⟩))
      go_ret2
      exact ⟨none, 0, rfl, Own.nil _ _, Below.refl _ _⟩
    · have b2 := inB_iff.1 h2
      obtain ⟨t, rfl⟩ : ∃ t : Nat, s = (t : Int) + 1 := ⟨(s - 1).toNat, by omega⟩
      obtain ⟨a, rfl, hca⟩ := ha.intN (k := t + 1) (by omega)
      have hca : w.cell? ⟨a.block, a.off + (t + 1), none⟩ = some (.int .i64 (nth xs (t + 1))) := by simpa [Addr.add] using hca
      by_cases h3 : nth xs (t + 1) < 2
      · rw [(mv_3 h3).1, (mv_3 h3).2]
        clear hx
        go_enter Try.func19, Try.ntmps19
        go_wp2_with (first
          | (go_at_call 12; refine (implSpread_is _ _ _ _ (by assumption) _ ha hl).mono ?_; rintro e w' ⟨rfl, rfl⟩)
          | (go_at_call 29; refine (within_is _ _ _ _ (by assumption) _).mono ?_; rintro e w' ⟨rfl, rfl⟩))
        go_ret2
        exact ⟨none, 0, rfl, Own.nil _ _, Below.refl _ _⟩
      · rw [(mv_4 h1 h2 h3).1, (mv_4 h1 h2 h3).2]
        have c0 := allB_nth hx (k := t) (by omega)
        have c1' := allB_nth hx (k := t + 1) (by omega)
        have c2' := allB_nth hx (k := t + 1 + 1) (by omega)
        clear hx
        go_enter Try.func19, Try.ntmps19
        go_wp2_with (first
          | (go_at_call 12; refine (implSpread_is _ _ _ _ (by assumption) _ ha hl).mono ?_; rintro e w' ⟨rfl, rfl⟩)
          | (go_at_call 29; refine (within_is _ _ _ _ (by assumption) _).mono ?_; rintro e w' ⟨rfl, rfl⟩))
        refine (copied_c _ _ _ _ ha hl).mono ?_
        rintro e w1 ⟨A1, c1, rfl, ho1, hb1⟩
        obtain ⟨g, rfl, hg1, hg2⟩ := ho1.form (by omega)
        have f0 := ho1.cellN (k := t) (by omega)
        have f1 := ho1.cellN (k := t + 1) (by omega)
        have f2 := ho1.cellN (k := t + 1 + 1) (by omega)
        have z0 := ho1.frozen t
        have z1 := ho1.frozen (t + 1)
        have z2 := ho1.frozen (t + 1 + 1)
        have s0 := ho1.set t (nth xs t + 1)
        have s1 := s0.1.set (t + 1) (nth xs (t + 1) - 2)
        have s2 := s1.1.set (t + 1 + 1) (nth xs (t + 1 + 1) + 1)
        have HB := ((hb1.grown s0.2 hb1.size (by simp; omega)).grown s1.2 (by simpa using hb1.size) (by simp; omega)).grown s2.2 (by simpa using hb1.size) (by simp; omega)
        clear s0 s1
        go_wp2
        go_ret2
        exact ⟨_, _, by rw [mvL_length]; rfl, s2.1, HB⟩
theorem specMove_c (A : Option Addr) (xs : List Int) (c : Nat) (s : Int) (w : World) (ha : Rd w A (ints xs)) (hl : xs.length ≤ 16777216) :
    Calls Try.prog 18 #[.slice A xs.length c, .int .i64 s] w (Gives w (mvV xs s) (mvOk xs s)) := by
  cases h1 : sprB xs
  · rw [(mv_1 h1).1, (mv_1 h1).2]
    go_enter Try.func18, Try.ntmps18
    go_wp2_with (go_at_call 28; refine (l10Spread_is _ _ _ _ (by assumption) _ ha hl).mono ?_; rintro e w' ⟨rfl, rfl⟩)
    go_ret2
    exact ⟨_, _, rfl, Own.lit w [] (by simp), (Below.refl _ _).alloc (Nat.le_refl _) _⟩
  · have b1 := sprB_yes h1
    obtain ⟨l1, l2, hx, -, -⟩ := b1
    cases h2 : inB s 1 ((xs.length : Int) - 2)
    · rw [(mv_2 h2).1, (mv_2 h2).2]
      clear hx
      go_enter Try.func18, Try.ntmps18
      go_wp2_with (first
        | (go_at_call 28; refine (l10Spread_is _ _ _ _ (by assumption) _ ha hl).mono ?_; rintro e w' ⟨rfl, rfl⟩)
        | (go_at_call 35; refine (l1In_is _ _ _ _ (by assumption) _).mono ?_; rintro e w' ⟨rfl, rfl⟩))
      go_ret2
      exact ⟨_, _, rfl, Own.lit w [] (by simp), (Below.refl _ _).alloc (Nat.le_refl _) _⟩
    · have b2 := inB_iff.1 h2
      obtain ⟨t, rfl⟩ : ∃ t : Nat, s = (t : Int) + 1 := ⟨(s - 1).toNat, by omega⟩
      obtain ⟨a, rfl, hca⟩ := ha.intN (k := t + 1) (by omega)
      have hca : w.cell? ⟨a.block, a.off + (t + 1), none⟩ = some (.int .i64 (nth xs (t + 1))) := by simpa [Addr.add] using hca
      by_cases h3 : nth xs (t + 1) < 2
      · rw [(mv_3 h3).1, (mv_3 h3).2]
        clear hx
        go_enter Try.func18, Try.ntmps18
        go_wp2_with (first
          | (go_at_call 28; refine (l10Spread_is _ _ _ _ (by assumption) _ ha hl).mono ?_; rintro e w' ⟨rfl, rfl⟩)
          | (go_at_call 35; refine (l1In_is _ _ _ _ (by assumption) _).mono ?_; rintro e w' ⟨rfl, rfl⟩))
        go_ret2
        exact ⟨_, _, rfl, Own.lit w [] (by simp), (Below.refl _ _).alloc (Nat.le_refl _) _⟩
      · rw [(mv_4 h1 h2 h3).1, (mv_4 h1 h2 h3).2]
        have c0 := allB_nth hx (k := t) (by omega)
        have c1' := allB_nth hx (k := t + 1) (by omega)
        have c2' := allB_nth hx (k := t + 1 + 1) (by omega)
        clear hx
        go_enter Try.func18, Try.ntmps18
        go_wp2_with (first
          | (go_at_call 28; refine (l10Spread_is _ _ _ _ (by assumption) _ ha hl).mono ?_; rintro e w' ⟨rfl, rfl⟩)
          | (go_at_call 35; refine (l1In_is _ _ _ _ (by assumption) _).mono ?_; rintro e w' ⟨rfl, rfl⟩))
        refine (l1Own_c _ _ _ _ ha hl).mono ?_
        rintro e w1 ⟨A1, c1, rfl, ho1, hb1⟩
        obtain ⟨g, rfl, hg1, hg2⟩ := ho1.form (by omega)
        have f0 := ho1.cellN (k := t) (by omega)
        have f1 := ho1.cellN (k := t + 1) (by omega)
        have f2 := ho1.cellN (k := t + 1 + 1) (by omega)
        have z0 := ho1.frozen t
        have z1 := ho1.frozen (t + 1)
        have z2 := ho1.frozen (t + 1 + 1)
        have s0 := ho1.set t (nth xs t + 1)
        have s1 := s0.1.set (t + 1) (nth xs (t + 1) - 2)
        have s2 := s1.1.set (t + 1 + 1) (nth xs (t + 1 + 1) + 1)
        have HB := ((hb1.grown s0.2 hb1.size (by simp; omega)).grown s1.2 (by simpa using hb1.size) (by simp; omega)).grown s2.2 (by simpa using hb1.size) (by simp; omega)
        clear s0 s1
        go_wp2
        go_ret2
        exact ⟨_, _, by rw [mvL_length]; rfl, s2.1, HB⟩
theorem mixV_length (xs ys : List Int) : (mixV xs ys).length ≤ xs.length := by
  unfold mixV
  split
  · rw [mxL_length]; omega
  · simp
theorem mvV_length (xs : List Int) (s : Int) : (mvV xs s).length ≤ xs.length := by
  unfold mvV
  split
  · rw [mvL_length]; omega
  · simp
end Go.Proofs.Ytgmgiedbfbdfdaa
