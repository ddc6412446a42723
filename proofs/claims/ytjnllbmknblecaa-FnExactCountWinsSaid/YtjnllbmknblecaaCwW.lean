/- CountWins: both packages' walks. -/
import Derived.Test.YtjnllbmknblecaaCwD
import Derived.Test.YtjnllbmknblecaaScal
import Derived.Test.YtjnllbmknblecaaCopy
import Derived.ArgAppend
namespace Go.Proofs.Ytjnllbmknblecaa
open Go.RowKit

def nl (b : List Nat) : List Int := b.map fun (x : Nat) => (x : Int)
/-- The number at a place. (Not reducible: the walk leaves it as it stands.) -/
def nAt (b : List Nat) (k : Nat) : Nat := b.getD k 0
theorem nAt_eq {b : List Nat} {k : Nat} (h : k < b.length) : nAt b k = b[k] := by simp [nAt, h]
theorem nl_length (b : List Nat) : (nl b).length = b.length := by simp [nl]
theorem nl_nth (b : List Nat) (k : Nat) : nth (nl b) k = ((nAt b k : Nat) : Int) := by
  by_cases h : k < b.length
  · simp [nth, nl, nAt, h]
  · simp [nth, nl, nAt, h]
theorem nl_app (b : List Nat) (x : Nat) : nl (b ++ [x]) = nl b ++ [(x : Int)] := by simp [nl]
theorem Rd.nat {w : World} {A : Option Addr} {b : List Nat} (ha : Rd w A (ints (nl b))) {k : Nat} (hk : k < b.length) : ∃ ad, A = some ad ∧ w.cell? (ad.add k) = some (.int .i64 ((nAt b k : Nat) : Int)) := by
  rw [← nl_nth]
  exact ha.intN (by rw [nl_length]; exact hk)
theorem elem_no {b : List Nat} {x : Nat} (h : ∀ j, j < b.length → nAt b j ≠ x) : memN b x = false := by
  cases hb : memN b x
  · rfl
  · obtain ⟨j, hj, hv⟩ := List.mem_iff_getElem.1 (memN_iff.1 hb)
    exact absurd (by rw [nAt_eq hj, hv]) (h j hj)
theorem elem_yes {b : List Nat} {x k : Nat} (hk : k < b.length) (h : nAt b k = x) : memN b x = true :=
  memN_iff.2 (List.mem_iff_getElem.2 ⟨k, hk, by rw [← nAt_eq hk]; exact h⟩)
theorem memN_rev (b : List Nat) (x : Nat) : memN b.reverse x = memN b x := by
  rw [Bool.eq_iff_iff, memN_iff, memN_iff, List.mem_reverse]
theorem getD_lt {b : List Nat} {n k : Nat} (h : ∀ x, x ∈ b → x < n) (hk : k < b.length) : nAt b k < n := by
  rw [nAt_eq hk]
  exact h _ (List.getElem_mem hk)
theorem app_lt {b : List Nat} {n y : Nat} (h : ∀ x, x ∈ b → x < n) (hy : y < n) : ∀ x, x ∈ y :: b → x < n := by
  intro x hx
  rcases List.mem_cons.1 hx with rfl | hx
  · exact hy
  · exact h x hx
theorem add_nil' (a : Addr) : a.add 0 = a := by unfold Addr.add; simp
theorem getD_mem {b : List Nat} {k : Nat} (hk : k < b.length) : nAt b k ∈ b := by
  rw [nAt_eq hk]
  exact List.getElem_mem hk
theorem mxI_l' {a b : Int} (h : ¬ a < b) : mxI a b = a := by
  unfold mxI
  split <;> omega
theorem has_c (A : Option Addr) (b : List Nat) (n c x : Nat) (w : World) (ha : Rd w A (ints (nl b))) (hn : n = b.length) (hl : b.length ≤ 1000) :
    Calls Try.prog 103 #[.slice A n c, .int .i64 (x : Int)] w fun e w' => e = .returned (.bool (memN b x)) ∧ w = w' := by
  subst hn
  go_enter Try.func103, Try.ntmps103
  go_wp2
  go_loop [5] (fun i => ∃ k : Nat, k ≤ b.length ∧ i = .int .i64 k ∧ ∀ j, j < k → nAt b j ≠ x) (fun i => b.length - (intOf i).toNat)
  case atStart => exact ⟨0, by omega, rfl, fun j hj => by omega⟩
  case round =>
    obtain ⟨k, hk, rfl, hall⟩ := hrel
    have HA := Lib.hid hall
    clear hall
    by_cases hlt : k < b.length
    · obtain ⟨a, rfl, hca⟩ := ha.nat hlt
      by_cases he : nAt b k = x
      · have HE := Lib.hid (elem_yes hlt he)
        have e1 : (((nAt b k : Nat) : Int) == (x : Int)) = true := by simp [he]
        clear he
        go_wp2
        go_ret
        exact ⟨by rw [HE.out] <;> rfl, rfl⟩
      · have e1 : (((nAt b k : Nat) : Int) == (x : Int)) = false := by simp; omega
        have HE := Lib.hid he
        clear he
        go_wp2
        go_round
        case rel => exact ⟨k + 1, by omega, by go_num, fun j hj => by
          rcases Nat.lt_or_ge j k with h | h
          · exact HA.out j h
          · rw [show j = k by omega]; exact HE.out⟩
        case measure => simp [intOf] <;> omega
    · have HE := Lib.hid (elem_no fun j hj => HA.out j (by omega))
      go_wp2
      go_ret
      exact ⟨by rw [HE.out] <;> rfl, rfl⟩
theorem has_is (A : Option Addr) (b : List Nat) (n c x : Nat) (q : Bool) (h : memN b x = q) (w : World) (ha : Rd w A (ints (nl b))) (hn : n = b.length) (hl : b.length ≤ 1000) :
    Calls Try.prog 103 #[.slice A n c, .int .i64 (x : Int)] w fun e w' => e = .returned (.bool q) ∧ w = w' := by
  rw [← h]
  exact has_c A b n c x w ha hn hl
theorem slIndex_c (A : Option Addr) (b : List Nat) (n c x : Nat) (w : World) (ha : Rd w A (ints (nl b))) (hn : n = b.length) (hl : b.length ≤ 1000) :
    Calls Try.prog 115 #[.slice A n c, .int .i64 (x : Int)] w fun e w' => (∃ v : Int, e = .returned (.int .i64 v) ∧ -1 ≤ v ∧ v ≤ 1000 ∧ (memN b x = decide (0 ≤ v))) ∧ w = w' := by
  subst hn
  go_enter Try.func115, Try.ntmps115
  go_wp2
  go_loop [8] (fun i => ∃ k : Nat, k ≤ b.length ∧ i = .int .i64 k ∧ ∀ j, j < k → nAt b j ≠ x) (fun i => b.length - (intOf i).toNat)
  case atStart => exact ⟨0, by omega, rfl, fun j hj => by omega⟩
  case round =>
    obtain ⟨k, hk, rfl, hall⟩ := hrel
    have HA := Lib.hid hall
    clear hall
    by_cases hlt : k < b.length
    · obtain ⟨a, rfl, hca⟩ := ha.nat hlt
      by_cases he : nAt b k = x
      · have HE := Lib.hid (elem_yes hlt he)
        have e1 : ((x : Int) == ((nAt b k : Nat) : Int)) = true := by simp [he]
        clear he
        go_wp2
        go_ret
        exact ⟨⟨_, rfl, by omega, by omega, by rw [HE.out, decide_eq_true (by omega)]⟩, rfl⟩
      · have e1 : ((x : Int) == ((nAt b k : Nat) : Int)) = false := by simp; omega
        have HE := Lib.hid he
        clear he
        go_wp2
        go_round
        case rel => exact ⟨k + 1, by omega, by go_num, fun j hj => by
          rcases Nat.lt_or_ge j k with h | h
          · exact HA.out j h
          · rw [show j = k by omega]; exact HE.out⟩
        case measure => simp [intOf] <;> omega
    · have HE := Lib.hid (elem_no fun j hj => HA.out j (by omega))
      go_wp2
      go_ret
      exact ⟨⟨_, rfl, by omega, by omega, by rw [HE.out, decide_eq_false (by omega)]⟩, rfl⟩
theorem slContains_is (A : Option Addr) (b : List Nat) (n c x : Nat) (q : Bool) (h : memN b x = q) (w : World) (ha : Rd w A (ints (nl b))) (hn : n = b.length) (hl : b.length ≤ 1000) :
    Calls Try.prog 106 #[.slice A n c, .int .i64 (x : Int)] w fun e w' => e = .returned (.bool q) ∧ w = w' := by
  subst hn
  go_enter Try.func106, Try.ntmps106
  go_wp2_with fail
  refine (slIndex_c _ _ _ _ _ _ ha rfl hl).mono ?_
  rintro e w' ⟨⟨v, rfl, h1, h2, h3⟩, rfl⟩
  rw [h] at h3
  have H3 := Lib.hid h3
  clear h3
  go_wp2
  go_ret
  exact ⟨by rw [H3.out] <;> rfl, rfl⟩
theorem slMin_c (A : Option Addr) (b : List Nat) (n c : Nat) (w : World) (ha : Rd w A (ints (nl b))) (hn : n = b.length) (h1 : 1 ≤ b.length) (hl : b.length ≤ 1000) (hb : ∀ x, x ∈ b → x < 1000) :
    Calls Try.prog 105 #[.slice A n c] w fun e w' => (∃ v : Nat, e = .returned (.int .i64 (v : Int)) ∧ v < 1000 ∧ v ∈ b ∧ ∀ y, y ∈ b → v ≤ y) ∧ w = w' := by
  subst hn
  obtain ⟨a, rfl, hc0⟩ := ha.nat (k := 0) (by omega)
  rw [add_nil'] at hc0
  have hb0 := getD_lt hb (k := 0) (by omega)
  go_enter Try.func105, Try.ntmps105
  go_wp2
  go_loop [3, 4] (fun m i => ∃ k v : Nat, 1 ≤ k ∧ k ≤ b.length ∧ i = .int .i64 k ∧ m = .int .i64 v ∧ v < 1000 ∧ v ∈ b ∧ ∀ j, j < k → v ≤ nAt b j) (fun _ i => b.length - (intOf i).toNat)
  case atStart => exact ⟨1, nAt b 0, by omega, h1, rfl, rfl, hb0, getD_mem (by omega), fun j hj => by rw [show j = 0 by omega]; exact Nat.le_refl _⟩
  case round =>
    obtain ⟨k, v, hk1, hk, rfl, rfl, hv, hvb, hm⟩ := hrel
    have HM := Lib.hid hm
    clear hm
    by_cases hlt : k < b.length
    · obtain ⟨a', he, hca⟩ := ha.nat hlt
      obtain rfl : a = a' := by injection he
      have hx := getD_lt hb hlt
      have hxb := getD_mem hlt
      obtain ⟨x, hxd⟩ : ∃ x, x = nAt b k := ⟨_, rfl⟩
      have HX := Lib.hid hxd
      rw [← hxd] at hca hx hxb
      clear hxd
      have next : ∀ u, u ≤ v → u ≤ x → Hid (∀ j, j < k + 1 → u ≤ nAt b j) := fun u h1 h2 => Lib.hid fun j hj => by
        rcases Nat.lt_or_ge j k with h | h
        · have := HM.out j h; omega
        · rw [show j = k by omega, ← HX.out]; exact h2
      by_cases hxv : x < v
      · have HN := next x (by omega) (Nat.le_refl _)
        clear next
        go_wp2
        all_goals
          go_round
          case rel => exact ⟨k + 1, x, by omega, by omega, by go_num, rfl, hx, hxb, HN.out⟩
          case measure => simp [intOf] <;> omega
      · have HN := next v (Nat.le_refl _) (by omega)
        clear next
        by_cases hvx : v < x
        · go_wp2
          all_goals
            go_round
            case rel => exact ⟨k + 1, v, by omega, by omega, by go_num, rfl, hv, hvb, HN.out⟩
            case measure => simp [intOf] <;> omega
        · obtain rfl : x = v := by omega
          clear hxv hvx
          go_wp2
          all_goals
            go_round
            case rel => exact ⟨k + 1, x, by omega, by omega, by go_num, rfl, hv, hvb, HN.out⟩
            case measure => simp [intOf] <;> omega
    · have HE : Hid (∀ y, y ∈ b → v ≤ y) := Lib.hid fun y hy => by
        obtain ⟨j, hj, rfl⟩ := List.mem_iff_getElem.1 hy
        have := HM.out j (by omega)
        rwa [nAt_eq hj] at this
      go_wp2
      go_ret
      exact ⟨⟨v, rfl, hv, hvb, HE.out⟩, rfl⟩
end Go.Proofs.Ytjnllbmknblecaa
