/- Rows of rows: the laws' own helpers: a copy, a comparison, marks. -/
import Derived.Test.YtjnllbmknblecaaSS
namespace Go.Proofs.Ytjnllbmknblecaa
open Go.RowKit

theorem OwnSS.alloc {w : World} {g : Nat} {G : Nat → Nat} {xss : List (List Int)} (h : OwnSS w g G xss) (o : Obj) : OwnSS (w.alloc o) g G xss := h.below ((Below.refl _ _).alloc (Nat.le_refl _) o)

/-- The first k lists have been laid. -/
structure HalfSS (w : World) (g : Nat) (G : Nat → Nat) (xss : List (List Int)) (k : Nat) (cur : List Value) : Prop where
  head : ∀ j, j < k → cur[j]? = some (.slice (some ⟨G j, 0, none⟩) (rowAt xss j).length (rowAt xss j).length)
  row : ∀ j, j < k → Own w (g + 1) (some ⟨G j, 0, none⟩) (rowAt xss j).length (rowAt xss j)
  apart : ∀ i j, i < j → j < k → G i < G j
theorem half_step {w w2 : World} {g t : Nat} {G : Nat → Nat} {xss : List (List Int)} {k : Nat} {cur : List Value} (h : HalfSS w g G xss k cur) (hlt : k < xss.length)
    (ho : w.ownsRow g t 1 (.slice (some ⟨g, 0, none⟩) xss.length xss.length) xss.length cur)
    (hb : Below w.heap.size w w2) (hn : Own w2 w.heap.size (some ⟨w.heap.size, 0, none⟩) (rowAt xss k).length (rowAt xss k)) :
    (w2.setCell ⟨g, k, none⟩ (.slice (some ⟨w.heap.size, 0, none⟩) (rowAt xss k).length (rowAt xss k).length)).ownsRow g t 1 (.slice (some ⟨g, 0, none⟩) xss.length xss.length) xss.length
        (cur.set k (.slice (some ⟨w.heap.size, 0, none⟩) (rowAt xss k).length (rowAt xss k).length)) ∧
      HalfSS (w2.setCell ⟨g, k, none⟩ (.slice (some ⟨w.heap.size, 0, none⟩) (rowAt xss k).length (rowAt xss k).length)) g (fun j => if j = k then w.heap.size else G j) xss (k + 1)
        (cur.set k (.slice (some ⟨w.heap.size, 0, none⟩) (rowAt xss k).length (rowAt xss k).length)) := by
  have hg := (row_lt ho).2
  have hs := (row_below ho hb).stored k (.slice (some ⟨w.heap.size, 0, none⟩) (rowAt xss k).length (rowAt xss k).length)
  refine ⟨hs.1, ⟨fun j hj => ?_, fun j hj => ?_, fun i j hi hj => ?_⟩⟩
  · rw [List.getElem?_set]
    by_cases e : j = k
    · subst e
      rw [if_pos rfl, if_pos (by have := ho.1; omega), if_pos rfl]
    · rw [if_neg (by omega), if_neg e]
      exact h.head j (by omega)
  · by_cases e : j = k
    · subst e
      rw [if_pos rfl]
      exact (hn.mono (by omega)).grown hs.2 (.inr (by simp [blk]; omega))
    · rw [if_neg e]
      have hj' := h.row j (by omega)
      have hge := (hj'.lt _ rfl).1
      exact (hj'.below hb).grown hs.2 (.inr (by simp [blk]; simp at hge; omega))
  · by_cases e : j = k
    · subst e
      rw [if_neg (by omega), if_pos rfl]
      have := ((h.row i (by omega)).lt _ rfl).2
      simpa using this
    · rw [if_neg (by omega), if_neg e]
      exact h.apart i j hi (by omega)

theorem ss_info : (Try.prog.info? 22).map (fun i => (i.zero, i.size, i.bytes)) = some (some (.slice none 0 0), 1, 24) := by kernel_rfl

theorem toIntSS_c (A : Option Addr) (xss : List (List Int)) (c : Nat) (w : World) (ha : RdSS w A xss) (hs : SzSS xss) :
    Calls Try.prog 24 #[.slice A xss.length c] w fun e w' => ∃ G, e = .returned (.slice (some ⟨w.heap.size, 0, none⟩) xss.length xss.length) ∧ OwnSS w' w.heap.size G xss ∧ Below w.heap.size w w' := by
  obtain ⟨i0, hi, hz0, hz1, hz2⟩ := info_parts ss_info
  have hn := hs.1
  go_enter Try.func24, Try.ntmps24
  go_wp2_with (at_make; refine wpList_make_full _ rfl _ _ _ rfl w.heap.size 22 i0 _ 1 Try.underlying30 hi hz0 hz1 _ _ _ _ xss.length rfl rfl rfl rfl (by rw [hz2]; omega) (by unfold maxLen; omega) (Nat.le_refl _) ?_)
  intro w1 hown hg
  have hb1 : Below w.heap.size w w1 := (Below.refl _ _).grown hg (Nat.le_refl _) (by simp)
  clear hg
  go_wp2
  go_loopw [4] (fun i wr => ∃ (k : Nat) (G : Nat → Nat) (cur : List Value), k ≤ xss.length ∧ i = .int .i64 k ∧
      wr.ownsRow w.heap.size 22 1 (.slice (some ⟨w.heap.size, 0, none⟩) xss.length xss.length) xss.length cur ∧ HalfSS wr w.heap.size G xss k cur ∧ Below w.heap.size w wr)
    (fun i _ => xss.length - (intOf i).toNat)
  case atStart => exact ⟨0, fun _ => 0, _, by omega, rfl, hown, ⟨fun j hj => by omega, fun j hj => by omega, fun i j hi hj => by omega⟩, hb1⟩
  case round =>
    obtain ⟨k, G, cur, hk, rfl, ho, hh, hb⟩ := hrel
    clear hown hb1
    by_cases hlt : k < xss.length
    · obtain ⟨a, A', c', rfl, hca, hra⟩ := (ha.below hb (Nat.le_refl _)) k hlt
      have hl := hs.row hlt
      go_wp2_with fail
      refine (toIntS_c _ _ _ _ hra (by omega)).mono ?_
      rintro e w2 ⟨rfl, hn2, hb2⟩
      have HS := half_step hh hlt ho hb2 hn2
      have HB := (bUp hb hb2 hb.size).setCell (p := ⟨w.heap.size, k, none⟩) (Nat.le_refl _) (.slice (some ⟨wr.heap.size, 0, none⟩) (rowAt xss k).length (rowAt xss k).length)
      have hlen := ho.1
      have hco := (row_below ho hb2).cellAt k (by omega)
      rw [List.getElem?_eq_getElem (by omega)] at hco
      have hfo := (row_below ho hb2).frozenAt k
      clear hh hn2
      go_wp2
      go_roundw
      case rel => exact ⟨k + 1, _, _, by omega, by go_num, HS.1, HS.2, HB⟩
      case measure => simp [intOf] <;> omega
    · have hkn : k = xss.length := by omega
      subst hkn
      go_wp2
      go_ret
      exact ⟨G, rfl, ⟨(row_lt ho).2, fun j hj => by rw [ho.cellAt j (by omega)]; exact hh.head j hj, hh.row, hh.apart⟩, hb⟩

theorem eqIntSS_same (A B : Option Addr) (xss : List (List Int)) (ca cb : Nat) (w : World) (ha : RdSS w A xss) (hb : RdSS w B xss) (hs : SzSS xss) :
    Calls Try.prog 26 #[.slice A xss.length ca, .slice B xss.length cb] w (Pure w (.bool true)) := by
  have hn := hs.1
  have hl1 : ((xss.length : Int) != (xss.length : Int)) = false := by simp
  go_enter Try.func26, Try.ntmps26
  go_wp2
  go_loopw [5] (fun i wr => ∃ k : Nat, k ≤ xss.length ∧ i = .int .i64 k ∧ Dr w wr) (fun i _ => xss.length - (intOf i).toNat)
  case atStart => exact ⟨0, by omega, rfl, Dr.refl w⟩
  case round =>
    obtain ⟨k, hk, rfl, hd⟩ := hrel
    by_cases hlt : k < xss.length
    · obtain ⟨a, A', c', rfl, hca, hra⟩ := (ha.dr hd) k hlt
      obtain ⟨b, B', d', rfl, hcb, hrb⟩ := (hb.dr hd) k hlt
      have hl := hs.row hlt
      go_wp2
      go_quiet ((go_at_call 18; exact qPure (eqIntS_is _ _ _ _ _ _ true (by simp) _ (hra.drewN _) (hrb.drewN _) (by omega) (by omega))))
      go_wp2
      go_roundw
      case rel => exact ⟨k + 1, by omega, by go_num, hd.drewN _⟩
      case measure => simp [intOf] <;> omega
    · go_wp2
      go_ret
      exact ⟨rfl, hd⟩

def MarkPost (w : World) (lo hi : Nat) (e : Ending) (w' : World) : Prop := ∃ r : Int, e = .returned (.int .i64 r) ∧ 0 ≤ r ∧ Holed lo hi w w'
theorem markIntSS_c (g hi : Nat) (G : Nat → Nat) (xss : List (List Int)) (c : Nat) (w : World) (ho : OwnSS w g G xss) (hs : SzSS xss) (hhi : ∀ k, k < xss.length → G k < hi) :
    Calls Try.prog 27 #[.slice (some ⟨g, 0, none⟩) xss.length c, .int .i64 1] w (MarkPost w (g + 1) hi) := by
  have hn := hs.1
  go_enter Try.func27, Try.ntmps27
  go_wp2
  go_loopw [1, 5] (fun q i wr => ∃ (k : Nat) (m : Int), k ≤ xss.length ∧ i = .int .i64 k ∧ q = .int .i64 m ∧ 0 ≤ m ∧ m ≤ 1 + 1048576 * (k : Int) ∧ Holed (g + 1) hi w wr ∧
      ∀ j, k ≤ j → j < xss.length → Own wr (g + 1) (some ⟨G j, 0, none⟩) (rowAt xss j).length (rowAt xss j)) (fun _ i _ => xss.length - (intOf i).toNat)
  case atStart => exact ⟨0, 1, by omega, rfl, rfl, by omega, by omega, Holed.refl _ _ _, fun j _ hj => ho.row j hj⟩
  case round =>
    obtain ⟨k, m, hk, rfl, rfl, hm0, hm1, hh, hrow⟩ := hrel
    have HR := Lib.hid hrow
    clear hrow
    by_cases hlt : k < xss.length
    · have hgl := ho.lt
      have hca : wr.cell? ⟨g, k, none⟩ = some (.slice (some ⟨G k, 0, none⟩) (rowAt xss k).length (rowAt xss k).length) := by
        rw [World.cell?_of_block (w := w) (hh.block g hgl (.inl (by omega)))]
        exact ho.head k hlt
      have hl := hs.row hlt
      have hok := HR.out k (Nat.le_refl _) hlt
      go_wp2_with fail
      refine (markIntS_c _ _ _ _ _ _ hok (by omega) (by omega) (by omega)).mono ?_
      rintro e w2 ⟨rfl, _, hg2⟩
      have hge := (hok.lt _ rfl).1
      simp at hge
      have HH := hh.grown hg2 hge (hhi k hlt)
      have HR2 : Hid (∀ j, k + 1 ≤ j → j < xss.length → Own w2 (g + 1) (some ⟨G j, 0, none⟩) (rowAt xss j).length (rowAt xss j)) :=
        Lib.hid fun j hj hj' => (HR.out j (by omega) hj').grown hg2 (.inr (by have := ho.apart k j (by omega) hj'; simp [blk]; omega))
      clear hok hg2 hge hca hh HR
      go_wp2
      go_roundw
      case rel => exact ⟨k + 1, _, by omega, by go_num, rfl, by omega, by omega, HH, HR2.out⟩
      case measure => simp [intOf] <;> omega
    · go_wp2
      go_ret
      exact ⟨m, rfl, hm0, hh⟩
end Go.Proofs.Ytjnllbmknblecaa
