/- Rows of rows: how a list of lists lies in memory, and the laws' own helpers on it. -/
import Derived.Test.YtnhclpajfejnoaaHol
import Derived.Test.YtnhclpajfejnoaaRowAt
namespace Go.Proofs.Ytnhclpajfejnoaa
open Go.RowKit

/-- The heads from an address on lead to rows that read as the lists. -/
def RdSS (w : World) (A : Option Addr) (xss : List (List Int)) : Prop :=
  ∀ k, k < xss.length → ∃ ad A' c, A = some ad ∧ w.cell? (ad.add k) = some (.slice A' (rowAt xss k).length c) ∧ Rd w A' (ints (rowAt xss k))
section
variable {w w' : World} {A : Option Addr} {xss : List (List Int)}
theorem RdSS.keep (h : RdSS w A xss) (hk : ∀ p : Addr, p.block < w.heap.size → w'.cell? p = w.cell? p) : RdSS w' A xss := by
  intro k hk'
  obtain ⟨ad, A', c, rfl, hc, hr⟩ := h k hk'
  exact ⟨ad, A', c, rfl, (hk _ (cell_lt hc)).trans hc, hr.keep fun p hp _ => hk p hp⟩
theorem RdSS.below {B : Nat} (h : RdSS w A xss) (hb : Below B w w') (hB : w.heap.size ≤ B) : RdSS w' A xss := h.keep fun _ hp => hb.cell (by omega)
theorem RdSS.drewN (h : RdSS w A xss) (k : Nat) : RdSS (w.drewN k) A xss := h
theorem RdSS.dr (h : RdSS w A xss) (hd : Dr w w') : RdSS w' A xss := by
  obtain ⟨m, rfl⟩ := hd
  exact h
theorem RdSS.alloc (h : RdSS w A xss) (o : Obj) : RdSS (w.alloc o) A xss := h.keep fun p hp => World.cell?_alloc_lt w o p hp
end


/-- No list is long. -/
def SzSS (xss : List (List Int)) : Prop := xss.length ≤ 1048576 ∧ ∀ k, k < xss.length → (rowAt xss k).length ≤ 1048576
theorem SzSS.row {xss : List (List Int)} (h : SzSS xss) {k : Nat} (hk : k < xss.length) : (rowAt xss k).length ≤ 1048576 := h.2 k hk

/-- Lists of the call's own: the heads in block g, row k in block G k, one behind the other. -/
structure OwnSS (w : World) (g : Nat) (G : Nat → Nat) (xss : List (List Int)) : Prop where
  lt : g < w.heap.size
  head : ∀ k, k < xss.length → w.cell? ⟨g, k, none⟩ = some (.slice (some ⟨G k, 0, none⟩) (rowAt xss k).length (rowAt xss k).length)
  row : ∀ k, k < xss.length → Own w (g + 1) (some ⟨G k, 0, none⟩) (rowAt xss k).length (rowAt xss k)
  apart : ∀ i j, i < j → j < xss.length → G i < G j
theorem OwnSS.rd {w : World} {g : Nat} {G : Nat → Nat} {xss : List (List Int)} (h : OwnSS w g G xss) : RdSS w (some ⟨g, 0, none⟩) xss :=
  fun k hk => ⟨_, _, _, rfl, by rw [Addr.add_lit, Nat.zero_add]; exact h.head k hk, (h.row k hk).rd⟩
theorem OwnSS.below {w w' : World} {g : Nat} {G : Nat → Nat} {xss : List (List Int)} (h : OwnSS w g G xss) (hb : Below w.heap.size w w') : OwnSS w' g G xss :=
  ⟨Nat.lt_of_lt_of_le h.lt hb.size, fun k hk => (hb.cell (p := ⟨g, k, none⟩) h.lt).trans (h.head k hk), fun k hk => (h.row k hk).below hb, h.apart⟩
theorem OwnSS.drewN {w : World} {g : Nat} {G : Nat → Nat} {xss : List (List Int)} (h : OwnSS w g G xss) (n : Nat) : OwnSS (w.drewN n) g G xss := ⟨h.lt, h.head, h.row, h.apart⟩
theorem OwnSS.dr {w w' : World} {g : Nat} {G : Nat → Nat} {xss : List (List Int)} (h : OwnSS w g G xss) (hd : Dr w w') : OwnSS w' g G xss := by
  obtain ⟨n, rfl⟩ := hd
  exact h.drewN n

end Go.Proofs.Ytnhclpajfejnoaa
