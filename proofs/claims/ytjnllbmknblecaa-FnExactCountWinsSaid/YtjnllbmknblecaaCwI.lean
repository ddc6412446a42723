/- CountWins: the program's walk; both functions. (Written by gen_cw.py.) -/
import Derived.Test.YtjnllbmknblecaaCwX
import Derived.Test.YtjnllbmknblecaaCwL
namespace Go.Proofs.Ytjnllbmknblecaa
open Go.RowKit

theorem facT_7 : ∀ j, j < 8 → facT j ≤ 5040 := by decide
theorem facT_mul (j : Nat) : ((facT (j + 1) : Nat) : Int) = ((facT j : Nat) : Int) * ((j : Int) + 1) := by rw [facT, Int.natCast_mul, Int.mul_comm]; rfl
theorem facT_end {j m : Nat} (h1 : 1 ≤ j) (h2 : j ≤ 1 ∨ j ≤ m) (h3 : ¬ j + 1 ≤ m) : facT j = facT m := by
  rcases h2 with h2 | h2
  · obtain rfl : j = 1 := by omega
    rcases m with _ | _ | m
    · rfl
    · rfl
    · omega
  · rw [show j = m by omega]
theorem own_cap {w : World} {B g c : Nat} {xs : List Int} (h : Own w B (some ⟨g, 0, none⟩) c xs) : xs.length ≤ c := by
  rcases h.2 with ⟨h1, _⟩ | ⟨g', cap, cur, hv, _, _, hc, _⟩
  · cases h1
  · injection hv with _ _ h3
    subst h3
    exact hc
theorem ldef_mem {b : List Nat} (h : 0 < b.length) : ldef b ∈ b := by
  cases b with
  | nil => simp at h
  | cons x l => simp [ldef]
theorem ldef_at {b : List Nat} {l : Nat} (hl : l = b.length) (h : 0 < l) : nAt b.reverse (l - 1) = ldef b := by
  cases b with
  | nil => simp at hl; omega
  | cons x t =>
    rw [nAt_eq (by simp at hl; simp; omega)]
    simp at hl
    simp [ldef, hl]
theorem min_iff {b : List Nat} {v : Nat} (h : 0 < b.length) (hv : v ∈ b.reverse) (hle : ∀ y, y ∈ b.reverse → v ≤ y) : leAll (ldef b) b = true ↔ ldef b = v := by
  rw [leAll_iff]
  constructor
  · intro h1
    have h2 := h1 v (List.mem_reverse.1 hv)
    have h3 := hle _ (List.mem_reverse.2 (ldef_mem h))
    omega
  · intro h1 y hy
    rw [h1]
    exact hle y (List.mem_reverse.2 hy)

set_option maxRecDepth 20000 in
set_option maxHeartbeats 2000000 in
theorem wins_c (n r : Nat) (h1 : 1 ≤ n) (h7 : n ≤ 7) (hr : r < n) : ∀ (m : Nat) (b : List Nat) (l : Nat) (A : Option Addr) (c : Nat) (w : World), l = b.length → l ≤ c → l + m = n → (∀ x, x ∈ b → x < n) → Rd w A (ints (nl b.reverse)) →
    Calls Try.prog 84 #[.int .i64 (n : Int), .int .i64 (r : Int), .slice A l c] w (Quietly w (.int .i64 ((iW n r m b : Nat) : Int))) := by
  intro m
  induction m with
  | zero =>
    intro b l A c w hbl hlc hl hb ha
    obtain ⟨m, hm0⟩ : ∃ m, m = 0 := ⟨_, rfl⟩
    have hrk : r < l := by omega
    obtain ⟨a, rfl, hca⟩ := ha.nat (k := l - 1) (by rw [List.length_reverse]; omega)
    have hcl : w.cell? (a.add (l - 1)) = some (.int .i64 ((ldef b : Nat) : Int)) := by rw [← ldef_at hbl (by omega)]; exact hca
    have hll := hb _ (ldef_mem (b := b) (by omega))
    have HT := Lib.hid (iW_take (n := n) (r := r) (m := m) (b := b) (by omega) (.inl hm0))
    have e1 : ((l : Int) == (n : Int)) = true := by simp; omega
    have e5 : (l : Int) - 1 = ((l - 1 : Nat) : Int) := by omega
    rw [← hm0] at hl ⊢
    clear hca hm0 hbl
    go_enter Try.func84, Try.ntmps84
    by_cases h0 : ldef b = 0
    · have HV : Hid (iW n r m b = facT m) := Lib.hid (by rw [HT.out, if_pos h0])
      have h0n : ¬ (0 : Int) < ((ldef b : Nat) : Int) := by omega
      have hm7 : m ≤ 7 := by omega
      have hnm : (n : Int) - (l : Int) = (m : Int) := by omega
      clear h0
      go_wp2
      go_loop [9, 10] (fun q i => ∃ j : Nat, 1 ≤ j ∧ (j ≤ 1 ∨ j ≤ m) ∧ i = .int .i64 ((j : Int) + 1) ∧ q = .int .i64 ((facT j : Nat) : Int)) (fun _ i => 10 - (intOf i).toNat)
      case atStart => exact ⟨1, by omega, .inl (by omega), rfl, rfl⟩
      case round =>
        obtain ⟨j, hj1, hj2, rfl, rfl⟩ := hrel
        have hj7 : j ≤ 7 := by omega
        have hf := facT_7 j (by omega)
        have hmu : 0 ≤ ((facT j : Nat) : Int) * ((j : Int) + 1) ∧ ((facT j : Nat) : Int) * ((j : Int) + 1) ≤ 5040 * 8 := mul_bd _ _ 5040 8 (by omega) (by omega) (by omega) (by omega)
        have HF := Lib.hid (facT_mul j)
        by_cases hlt : j + 1 ≤ m
        · go_wp2
          go_round
          case rel => exact ⟨j + 1, by omega, .inr hlt, by go_num, by rw [HF.out]⟩
          case measure => simp [intOf] <;> omega
        · have HE : Hid (facT j = facT m) := Lib.hid (facT_end hj1 hj2 hlt)
          go_wp2
          go_ret
          exact ⟨by rw [HV.out, ← HE.out] <;> rfl, Below.refl _ _⟩
    · have HV : Hid (iW n r m b = 0) := Lib.hid (by rw [HT.out, if_neg h0])
      have h0' : (0 : Int) < ((ldef b : Nat) : Int) := by omega
      clear h0
      go_wp2
      go_ret
      exact ⟨by rw [HV.out] <;> rfl, Below.refl _ _⟩
  | succ m ih =>
    intro b l A c w hbl hlc hl hb ha
    have hB : ∀ x, iW n r m (x :: b) ≤ 823543 := fun x => Nat.le_trans (iW_bd _ _ _ _ (by omega)) (pow7 h7 (by omega))
    have HBL := Lib.hid hbl
    have HR : Hid (l = b.reverse.length) := Lib.hid (by rw [List.length_reverse]; exact hbl)
    have ha0 := Lib.hid ha
    have HB0 := Lib.hid hb
    by_cases hrk : r < l
    · obtain ⟨a, hA, hca⟩ := ha.nat (k := l - 1) (by rw [List.length_reverse]; omega)
      have hcl : w.cell? (a.add (l - 1)) = some (.int .i64 ((ldef b : Nat) : Int)) := by rw [← ldef_at hbl (by omega)]; exact hca
      have hll := hb _ (ldef_mem (b := b) (by omega))
      have e1 : ((l : Int) == (n : Int)) = false := by simp; omega
      have e5 : (l : Int) - 1 = ((l - 1 : Nat) : Int) := by omega
      have hl0 : 0 < b.length := by omega
      subst hA
      have CM := slMin_c (some a) b.reverse l c w ha0.out HR.out (by have := HR.out; omega) (by have := HR.out; omega) (fun x hx => by have := hb x (List.mem_reverse.1 hx); omega)
      clear hca hbl ha
      go_enter Try.func84, Try.ntmps84
      go_wp2_with fail
      refine CM.mono ?_
      rintro e w' ⟨⟨v, rfl, hv1, hv2, hv3⟩, rfl⟩
      have HI := Lib.hid (min_iff hl0 hv2 hv3)
      clear hv2 hv3 CM hl0
      by_cases hmin : ldef b = v
      · have HT := Lib.hid (iW_take (n := n) (r := r) (m := m + 1) (b := b) (by omega) (.inr (HI.out.2 hmin)))
        have e2 : (((ldef b : Nat) : Int) == (v : Int)) = true := by simp [hmin]
        clear hmin ih hB
        generalize m + 1 = m at *
        by_cases h0 : ldef b = 0
        · have HV : Hid (iW n r m b = facT m) := Lib.hid (by rw [HT.out, if_pos h0])
          have h0n : ¬ (0 : Int) < ((ldef b : Nat) : Int) := by omega
          have hm7 : m ≤ 7 := by omega
          have hnm : (n : Int) - (l : Int) = (m : Int) := by omega
          clear h0
          go_wp2
          go_loop [9, 10] (fun q i => ∃ j : Nat, 1 ≤ j ∧ (j ≤ 1 ∨ j ≤ m) ∧ i = .int .i64 ((j : Int) + 1) ∧ q = .int .i64 ((facT j : Nat) : Int)) (fun _ i => 10 - (intOf i).toNat)
          case atStart => exact ⟨1, by omega, .inl (by omega), rfl, rfl⟩
          case round =>
            obtain ⟨j, hj1, hj2, rfl, rfl⟩ := hrel
            have hj7 : j ≤ 7 := by omega
            have hf := facT_7 j (by omega)
            have hmu : 0 ≤ ((facT j : Nat) : Int) * ((j : Int) + 1) ∧ ((facT j : Nat) : Int) * ((j : Int) + 1) ≤ 5040 * 8 := mul_bd _ _ 5040 8 (by omega) (by omega) (by omega) (by omega)
            have HF := Lib.hid (facT_mul j)
            by_cases hlt : j + 1 ≤ m
            · go_wp2
              go_round
              case rel => exact ⟨j + 1, by omega, .inr hlt, by go_num, by rw [HF.out]⟩
              case measure => simp [intOf] <;> omega
            · have HE : Hid (facT j = facT m) := Lib.hid (facT_end hj1 hj2 hlt)
              go_wp2
              go_ret
              exact ⟨by rw [HV.out, ← HE.out] <;> rfl, Below.refl _ _⟩
        · have HV : Hid (iW n r m b = 0) := Lib.hid (by rw [HT.out, if_neg h0])
          have h0' : (0 : Int) < ((ldef b : Nat) : Int) := by omega
          clear h0
          go_wp2
          go_ret
          exact ⟨by rw [HV.out] <;> rfl, Below.refl _ _⟩
      · have HT := Lib.hid (iW_go (n := n) (r := r) (m := m) (b := b) (fun h => hmin (HI.out.1 h.2)))
        have e2 : (((ldef b : Nat) : Int) == (v : Int)) = false := by simp; omega
        clear hmin
        go_wp2
        go_loopw [11, 46] (fun s i wr => ∃ k : Nat, k ≤ n ∧ i = .int .i64 k ∧ s = .int .i64 ((sumO b (fun x => iW n r m (x :: b)) k : Nat) : Int) ∧ Below w.heap.size w wr) (fun _ i _ => n - (intOf i).toNat)
        case atStart => exact ⟨0, by omega, rfl, rfl, Below.refl _ _⟩
        case round =>
          obtain ⟨wo, rfl⟩ : ∃ wo : World, wo = wr := ⟨_, rfl⟩
          obtain ⟨k, hk, rfl, rfl, hbl⟩ := hrel
          have ha1 := ha0.out.below hbl (Nat.le_refl _)
          by_cases hlt : k < n
          · cases hx : memN b k
            · have HN := Lib.hid (sumO_out (f := fun x => iW n r m (x :: b)) hx)
              have hs := sumO_mono (b := b) (k := k) hB (by omega)
              have hk2 := hB k
              have hap := app_lt hb hlt
              have hxr : memN b.reverse k = false := by rw [memN_rev]; exact hx
              go_wp2_with fail
              refine (slContains_is _ _ _ _ _ _ hxr _ ha1 HR.out (by have := HR.out; omega)).mono ?_
              rintro e w' ⟨rfl, rfl⟩
              go_wp2_with (at_builtin; refine wp_append_full _ _ _ rfl _ _ rfl (some a) l l (nl b.reverse) rfl (by rw [nl_length]; exact HR.out) rfl ha1 rfl (by rw [nl_length]; have := HR.out; omega) ?_; rw [← nl_rev]; intro g3 c3 w3 ho3 hb3)
              have HB3 := bUp hbl hb3 hbl.size
              have hc3 := own_cap ho3
              rw [nl_length] at hc3; simp at hc3
              have C := ih (k :: b) (l + 1) (some ⟨g3, 0, none⟩) c3 w3 (by rw [List.length_cons, HBL.out]) (by rw [HBL.out]; exact hc3) (by omega) hap ho3.rd
              refine C.mono ?_
              rintro e w4 ⟨rfl, hb4⟩
              have HB4 := bUp HB3 hb4 HB3.size
              clear hb3 ho3 hb4 C hc3
              go_wp2
              go_roundw
              case rel => exact ⟨k + 1, by omega, by go_num, by rw [HN.out]; simp, HB4⟩
              case measure => simp [intOf] <;> omega
            · have HN := Lib.hid (sumO_in (f := fun x => iW n r m (x :: b)) hx)
              have hxr : memN b.reverse k = true := by rw [memN_rev]; exact hx
              go_wp2_with fail
              refine (slContains_is _ _ _ _ _ _ hxr _ ha1 HR.out (by have := HR.out; omega)).mono ?_
              rintro e w' ⟨rfl, rfl⟩
              go_wp2
              go_roundw
              case rel => exact ⟨k + 1, by omega, by go_num, by rw [HN.out], hbl⟩
              case measure => simp [intOf] <;> omega
          · have hkn : k = n := by omega
            subst hkn
            go_wp2
            go_ret
            exact ⟨by rw [HT.out] <;> rfl, hbl⟩
    · have HT := Lib.hid (iW_go (n := n) (r := r) (m := m) (b := b) (fun h => hrk (by omega)))
      clear hbl ha
      go_enter Try.func84, Try.ntmps84
      go_wp2
      go_loopw [11, 46] (fun s i wr => ∃ k : Nat, k ≤ n ∧ i = .int .i64 k ∧ s = .int .i64 ((sumO b (fun x => iW n r m (x :: b)) k : Nat) : Int) ∧ Below w.heap.size w wr) (fun _ i _ => n - (intOf i).toNat)
      case atStart => exact ⟨0, by omega, rfl, rfl, Below.refl _ _⟩
      case round =>
        obtain ⟨wo, rfl⟩ : ∃ wo : World, wo = wr := ⟨_, rfl⟩
        obtain ⟨k, hk, rfl, rfl, hbl⟩ := hrel
        have ha1 := ha0.out.below hbl (Nat.le_refl _)
        by_cases hlt : k < n
        · cases hx : memN b k
          · have HN := Lib.hid (sumO_out (f := fun x => iW n r m (x :: b)) hx)
            have hs := sumO_mono (b := b) (k := k) hB (by omega)
            have hk2 := hB k
            have hap := app_lt hb hlt
            have hxr : memN b.reverse k = false := by rw [memN_rev]; exact hx
            go_wp2_with fail
            refine (slContains_is _ _ _ _ _ _ hxr _ ha1 HR.out (by have := HR.out; omega)).mono ?_
            rintro e w' ⟨rfl, rfl⟩
            go_wp2_with (at_builtin; refine wp_append_full _ _ _ rfl _ _ rfl A l l (nl b.reverse) rfl (by rw [nl_length]; exact HR.out) rfl ha1 rfl (by rw [nl_length]; have := HR.out; omega) ?_; rw [← nl_rev]; intro g3 c3 w3 ho3 hb3)
            have HB3 := bUp hbl hb3 hbl.size
            have hc3 := own_cap ho3
            rw [nl_length] at hc3; simp at hc3
            have C := ih (k :: b) (l + 1) (some ⟨g3, 0, none⟩) c3 w3 (by rw [List.length_cons, HBL.out]) (by rw [HBL.out]; exact hc3) (by omega) hap ho3.rd
            refine C.mono ?_
            rintro e w4 ⟨rfl, hb4⟩
            have HB4 := bUp HB3 hb4 HB3.size
            clear hb3 ho3 hb4 C hc3
            go_wp2
            go_roundw
            case rel => exact ⟨k + 1, by omega, by go_num, by rw [HN.out]; simp, HB4⟩
            case measure => simp [intOf] <;> omega
          · have HN := Lib.hid (sumO_in (f := fun x => iW n r m (x :: b)) hx)
            have hxr : memN b.reverse k = true := by rw [memN_rev]; exact hx
            go_wp2_with fail
            refine (slContains_is _ _ _ _ _ _ hxr _ ha1 HR.out (by have := HR.out; omega)).mono ?_
            rintro e w' ⟨rfl, rfl⟩
            go_wp2
            go_roundw
            case rel => exact ⟨k + 1, by omega, by go_num, by rw [HN.out], hbl⟩
            case measure => simp [intOf] <;> omega
        · have hkn : k = n := by omega
          subst hkn
          go_wp2
          go_ret
          exact ⟨by rw [HT.out] <;> rfl, hbl⟩

def cwB (n r : Int) : Bool := inB n 1 7 && inB r 0 (n - 1)
def cwV (n r : Int) : Int := if cwB n r then ((iW n.toNat r.toNat n.toNat [] : Nat) : Int) else 0
theorem cwB_1 {n r : Int} (h : inB n 1 7 = false) : cwB n r = false := by simp [cwB, h]
theorem cwB_2 {n r : Int} (h1 : inB n 1 7 = true) {q : Bool} (h : inB r 0 (n - 1) = q) : cwB n r = q := by simp [cwB, h1, h]
theorem cwV_no {n r : Int} (h : cwB n r = false) : cwV n r = 0 := by unfold cwV; rw [h]; rfl
theorem cwV_yes {n r : Int} (h : cwB n r = true) : cwV n r = ((iW n.toNat r.toNat n.toNat [] : Nat) : Int) := by unfold cwV; rw [h]; rfl
theorem implCw_c (n r : Int) (w : World) : Calls Try.prog 44 #[.int .i64 n, .int .i64 r] w (Quietly w (.tuple #[.int .i64 (cwV n r), .bool (cwB n r)])) := by
  cases h1 : inB n 1 7
  · have HB := Lib.hid (cwB_1 (r := r) h1)
    have HV := Lib.hid (cwV_no HB.out)
    rw [HB.out, HV.out]
    go_enter Try.func44, Try.ntmps44
    go_wp2_with (go_at_call 64; refine (within_is _ _ _ _ h1 _).mono ?_; rintro e w' ⟨rfl, rfl⟩)
    go_ret2
    exact ⟨rfl, Below.refl _ _⟩
  · have hb := inB_iff.1 h1
    cases h2 : inB r 0 (n - 1)
    · have HB := Lib.hid (cwB_2 h1 h2)
      have HV := Lib.hid (cwV_no HB.out)
      rw [HB.out, HV.out]
      go_enter Try.func44, Try.ntmps44
      go_wp2_with fail
      refine (within_is _ _ _ _ h1 _).mono ?_
      rintro e w' ⟨rfl, rfl⟩
      go_wp2_with fail
      refine (within_is _ _ _ _ h2 _).mono ?_
      rintro e w' ⟨rfl, rfl⟩
      go_wp2
      go_ret2
      exact ⟨rfl, Below.refl _ _⟩
    · have hb2 := inB_iff.1 h2
      have HB := Lib.hid (cwB_2 h1 h2)
      have HV := Lib.hid (cwV_yes HB.out)
      rw [HB.out, HV.out]
      obtain ⟨n, rfl⟩ := Int.eq_ofNat_of_zero_le (show 0 ≤ n by omega)
      obtain ⟨r, rfl⟩ := Int.eq_ofNat_of_zero_le (show 0 ≤ r by omega)
      simp only [Int.toNat_natCast]
      go_enter Try.func44, Try.ntmps44
      go_wp2_with fail
      refine (within_is _ _ _ _ h1 _).mono ?_
      rintro e w' ⟨rfl, rfl⟩
      go_wp2_with fail
      refine (within_is _ _ _ _ h2 _).mono ?_
      rintro e w' ⟨rfl, rfl⟩
      clear HB HV
      go_wp2_with fail
      refine (wins_c n r (by omega) (by omega) (by omega) n [] 0 _ 0 _ rfl (Nat.le_refl _) (by omega) (fun x hx => by simp at hx) (Rd.nil _ _)).mono ?_
      rintro e w2 ⟨rfl, hb2⟩
      go_wp2
      go_ret2
      exact ⟨rfl, hb2⟩
theorem specCw_c (n r : Int) (w : World) : Calls Try.prog 43 #[.int .i64 n, .int .i64 r] w (Quietly w (.tuple #[.int .i64 (cwV n r), .bool (cwB n r)])) := by
  cases h1 : inB n 1 7
  · have HB := Lib.hid (cwB_1 (r := r) h1)
    have HV := Lib.hid (cwV_no HB.out)
    rw [HB.out, HV.out]
    go_enter Try.func43, Try.ntmps43
    go_wp2_with (go_at_call 76; refine (l1In_is _ _ _ _ h1 _).mono ?_; rintro e w' ⟨rfl, rfl⟩)
    go_ret2
    exact ⟨rfl, Below.refl _ _⟩
  · have hb := inB_iff.1 h1
    cases h2 : inB r 0 (n - 1)
    · have HB := Lib.hid (cwB_2 h1 h2)
      have HV := Lib.hid (cwV_no HB.out)
      rw [HB.out, HV.out]
      go_enter Try.func43, Try.ntmps43
      go_wp2_with fail
      refine (l1In_is _ _ _ _ h1 _).mono ?_
      rintro e w' ⟨rfl, rfl⟩
      go_wp2_with fail
      refine (l1In_is _ _ _ _ h2 _).mono ?_
      rintro e w' ⟨rfl, rfl⟩
      go_wp2
      go_ret2
      exact ⟨rfl, Below.refl _ _⟩
    · have hb2 := inB_iff.1 h2
      have HB := Lib.hid (cwB_2 h1 h2)
      have HV := Lib.hid (cwV_yes HB.out)
      rw [HB.out, HV.out]
      obtain ⟨n, rfl⟩ := Int.eq_ofNat_of_zero_le (show 0 ≤ n by omega)
      obtain ⟨r, rfl⟩ := Int.eq_ofNat_of_zero_le (show 0 ≤ r by omega)
      simp only [Int.toNat_natCast]
      rw [← cw_all (n := n) (r := r) (by omega) (by omega) (by omega)]
      go_enter Try.func43, Try.ntmps43
      go_wp2_with fail
      refine (l1In_is _ _ _ _ h1 _).mono ?_
      rintro e w' ⟨rfl, rfl⟩
      go_wp2_with fail
      refine (l1In_is _ _ _ _ h2 _).mono ?_
      rintro e w' ⟨rfl, rfl⟩
      clear HB HV
      go_wp2_with fail
      refine (l7Wins_c n r (by omega) (by omega) n [] 0 _ 0 _ rfl (by omega) (fun x hx => by simp at hx) (Rd.nil _ _)).mono ?_
      rintro e w2 ⟨rfl, hb2⟩
      go_wp2
      go_ret2
      exact ⟨rfl, by first | exact hb2 | exact ((Below.refl _ _).alloc (Nat.le_refl _) _).trans (hb2.mono (by simp))⟩
end Go.Proofs.Ytjnllbmknblecaa
