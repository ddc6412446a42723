/- The memo: a map from places to numbers; what stands in it is right. -/
import Derived.Test.YthhpioohdkglkaaBase
import Derived.Maps.OwnSet
import Derived.DeepKeys4
namespace Go.Proofs.Ythhpioohdkglkaa
open Go.RowKit Go.Maps Go.ChangeMaps Go.MapKept

def atV (X : Nat → Nat) : Value := .agg #[.int .i64 (X 0 : Nat), .int .i64 (X 1 : Nat), .int .i64 (X 2 : Nat)]
theorem memLaw : Keyed Try.prog 45 := Keyed.of_law (deep_law_laid (m := 2) (by kernel_rfl) (by omega) (of_decide_eq_true (by kernel_rfl)) (by kernel_rfl) (by kernel_rfl))
theorem memZero (w : World) : (zeroValue 3).run Try.prog w = .ok (.int .i64 0) w := by kernel_rfl
theorem memCells : Try.prog.cellsOf 45 = 3 := by kernel_rfl
theorem intCells : Try.prog.cellsOf 3 = 1 := by kernel_rfl
theorem keyInt {n : Int} (h : (Lit.int .i64 n).wf = true) (d : Nat) : Try.prog.keyLits (d + 1) 3 [.int .i64 n] = some [.int .i64 n] := by simp [Program.keyLits, Try.underlying3, h]
theorem keyArr {x y z : Int} (hx : (Lit.int .i64 x).wf = true) (hy : (Lit.int .i64 y).wf = true) (hz : (Lit.int .i64 z).wf = true) (d : Nat) : Try.prog.keyLits (d + 2) 45 [.int .i64 x, .int .i64 y, .int .i64 z] = some [.int .i64 x, .int .i64 y, .int .i64 z] := by
  simp [Program.keyLits, Try.underlying45, Try.underlying3, memCells, intCells, show List.range 3 = [0, 1, 2] from by decide, hx, hy, hz]
theorem memKeyT : Try.prog.keyType 45 = true := by kernel_rfl
theorem memTypes : Try.prog.types.size + 1 = (Try.prog.types.size - 1) + 2 := by
  have : 1 ≤ Try.prog.types.size := of_decide_eq_true (by kernel_rfl)
  omega
theorem memKey {x y z : Int} (hx : (Lit.int .i64 x).wf = true) (hy : (Lit.int .i64 y).wf = true) (hz : (Lit.int .i64 z).wf = true) : ∃ kl, keyOf Try.prog 45 (.agg #[.int .i64 x, .int .i64 y, .int .i64 z]) = some kl := by
  refine ⟨.string (keyBytes [.int .i64 x, .int .i64 y, .int .i64 z]), ?_⟩
  have h := keyArr hx hy hz (Try.prog.types.size - 1)
  rw [← memTypes] at h
  have hf : (Value.agg #[Value.int .i64 x, Value.int .i64 y, Value.int .i64 z]).formed Try.prog 45 = true := by simp [Value.formed, Try.underlying45, memCells]
  have hc : (Value.agg #[Value.int .i64 x, Value.int .i64 y, Value.int .i64 z]).cells.toList = [.int .i64 x, .int .i64 y, .int .i64 z] := rfl
  unfold keyOf
  rw [Try.underlying45]
  simp only [memKeyT, hf, Bool.and_self, if_true, hc, h, Option.map_some]
theorem wf_nat {n : Nat} (h : n < 1048576) : (Lit.int .i64 (n : Int)).wf = true := WalkArith.wf_i64 (by omega)
/-- Places that are small. -/
def SmallAt (X : Nat → Nat) : Prop := ∀ k, k < 3 → X k < 1048576
theorem atV_key {X : Nat → Nat} (h : SmallAt X) : ∃ kl, keyOf Try.prog 45 (atV X) = some kl := memKey (wf_nat (h 0 (by decide))) (wf_nat (h 1 (by decide))) (wf_nat (h 2 (by decide)))
theorem atV_inj {X Y : Nat → Nat} (h : atV X = atV Y) : ∀ k, k < 3 → X k = Y k := by
  simp only [atV, Value.agg.injEq, Array.mk.injEq, List.cons.injEq, Value.int.injEq, true_and, and_true] at h
  intro k hk
  match k, hk with
  | 0, _ => exact Int.ofNat_inj.1 h.1
  | 1, _ => exact Int.ofNat_inj.1 h.2.1
  | 2, _ => exact Int.ofNat_inj.1 h.2.2
/-- Block g is a memo of at most n entries: what stands at places that are ok is V. -/
def MemoOk (w : World) (g n : Nat) (ok : (Nat → Nat) → Prop) (V : (Nat → Nat) → Int) : Prop :=
  ∃ l : List (Lit × DataW Unit), w.ownsMap Try.prog 45 (plainElem Try.prog 3) g n (.map l) ∧ ∀ p ∈ l, ∀ X, ok X → keyOf Try.prog 45 (atV X) = some p.1 → p.2 = .lit (.int .i64 (V X))
section
variable {w w' : World} {g n : Nat} {ok : (Nat → Nat) → Prop} {V : (Nat → Nat) → Int}
theorem MemoOk.kept {row : Option Nat} (h : MemoOk w g n ok V) (hg : w.grownBy w' row) (hne : some g ≠ row) : MemoOk w' g n ok V := by
  obtain ⟨l, h1, h2⟩ := h
  exact ⟨l, h1.kept hg hne, h2⟩
theorem MemoOk.same (h : MemoOk w g n ok V) (hg : w'.heap[g]? = w.heap[g]?) : MemoOk w' g n ok V := by
  obtain ⟨l, ⟨es, clock, hb, F, hs, hD⟩, h2⟩ := h
  exact ⟨l, ⟨es, clock, hg.trans hb, F, hs, hD⟩, h2⟩
theorem MemoOk.mono (h : MemoOk w g n ok V) {n' : Nat} (hn : n ≤ n') : MemoOk w g n' ok V := by
  obtain ⟨l, h1, h2⟩ := h
  exact ⟨l, h1.mono hn, h2⟩
theorem memo_new {g : Nat} (hb : w.heap[g]? = some (.map #[] 0)) (ok : (Nat → Nat) → Prop) (V : (Nat → Nat) → Int) : MemoOk w g 0 ok V := by
  have h := World.ownsMap_made (H := Unit) ({ w with heap := #[] } : World) Try.prog 45 (plainElem Try.prog 3)
  obtain ⟨es, clock, hb', F, hs, hD⟩ := h
  have e : some (Obj.map #[] 0) = some (.map es clock) := by
    rw [← hb']
    simp [World.alloc]
  simp only [Option.some.injEq, Obj.map.injEq] at e
  obtain ⟨rfl, rfl⟩ := e
  exact ⟨[], ⟨_, _, hb, F, hs, hD⟩, fun p hp => by cases hp⟩
theorem MemoOk.look (h : MemoOk w g n ok V) {X : Nat → Nat} (hX : ok X) (hs : SmallAt X) :
    ∃ (c : Int) (b : Bool), (∀ w' : World, w'.heap[g]? = w.heap[g]? → (Instr.lookup 62 (.map (some g)) (atV X) true).run Try.prog w' = .ok (.tuple #[.int .i64 c, .bool b]) w') ∧ (b = true → c = V X) := by
  obtain ⟨kl, hkl⟩ := atV_key hs
  obtain ⟨l, h1, h2⟩ := h
  have all : ∀ w' : World, w'.heap[g]? = w.heap[g]? → w'.ownsMap Try.prog 45 (plainElem (H := Unit) Try.prog 3) g n (.map l) := fun w' hg => by
    obtain ⟨es, clock, hb, F, hs, hD⟩ := h1
    exact ⟨es, clock, hg.trans hb, F, hs, hD⟩
  have one : ∀ w' : World, w'.heap[g]? = w.heap[g]? → ∃ c : Int, (Instr.lookup 62 (.map (some g)) (atV X) true).run Try.prog w' = .ok (.tuple #[.int .i64 c, .bool (Maps.has (DataW.map l) kl)]) w' ∧ (DataW.map l).atKey kl (.lit (.int .i64 0)) = .lit (.int .i64 c) := fun w' hg => by
    obtain ⟨v, ps, hrun, hv⟩ := (all w' hg).look_ok memLaw Try.underlying62 (memZero w') (plainElem_int Try.underlying3 (by decide)) hkl
    obtain ⟨c, rfl, hc, _⟩ := plainElem_int_inv Try.underlying3 hv
    exact ⟨c, hrun, congrArg Prod.fst hc⟩
  obtain ⟨c, _, hat⟩ := one w rfl
  refine ⟨c, Maps.has (DataW.map l) kl, fun w' hg => ?_, fun hb => ?_⟩
  · obtain ⟨c', hrun, hat'⟩ := one w' hg
    rw [hat] at hat'
    simp only [DataW.lit.injEq, Lit.int.injEq, true_and] at hat'
    rw [hat']
    exact hrun
  · unfold Maps.has at hb
    have hb := hb
    simp only [List.any_eq_true] at hb
    obtain ⟨p, hp, hk⟩ := hb
    unfold DataW.atKey at hat
    simp only at hat
    cases hf : l.find? (fun p => p.1.sameKey kl) with
    | none =>
      have := List.find?_eq_none.1 hf p hp
      rw [hk] at this
      exact absurd rfl this
    | some q =>
      rw [hf] at hat
      have hq := List.find?_some hf
      have hqm := List.mem_of_find?_eq_some hf
      have e1 : q.1 = kl := by
        have h3 : ¬ notKey kl q = true := by simp [notKey, hq]
        rw [notKey_iff (memLaw.key hkl)] at h3
        exact Classical.not_not.1 h3
      have := h2 q hqm X hX (by rw [e1]; exact hkl)
      simp only at hat
      rw [this] at hat
      simp only [DataW.lit.injEq, Lit.int.injEq, true_and] at hat
      exact hat.symm
theorem mem_insert {x p : Lit × DataW Unit} : ∀ {l : List (Lit × DataW Unit)}, p ∈ DataW.insert x l → p = x ∨ p ∈ l := by
  intro l
  induction l with
  | nil => intro h; exact .inl (by simpa [DataW.insert] using h)
  | cons y r ih =>
    intro h
    unfold DataW.insert at h
    split at h
    · rcases List.mem_cons.1 h with h | h
      · exact .inl h
      · exact .inr h
    · rcases List.mem_cons.1 h with h | h
      · exact .inr (h ▸ List.mem_cons_self)
      · exact (ih h).imp id (List.mem_cons_of_mem _)
theorem MemoOk.store (h : MemoOk w g n ok V) {X : Nat → Nat} (hs : SmallAt X) (hn : n < maxLen) {v : Int} (hwf : (Lit.int .i64 v).wf = true) (hv : ∀ Y, ok Y → atV Y = atV X → V Y = v) :
    ∃ w', (Instr.mapUpdate 62 (.map (some g)) (atV X) (.int .i64 v)).run Try.prog w = .ok () w' ∧ MemoOk w' g (n + 1) ok V ∧ w.mapTurned w' g := by
  obtain ⟨kl, hkl⟩ := atV_key hs
  obtain ⟨l, h1, h2⟩ := h
  obtain ⟨w', hrun, ho, ht⟩ := h1.store memLaw Try.underlying62 hn hkl (plainElem_int Try.underlying3 hwf)
  refine ⟨w', hrun, ⟨_, ho, fun p hp Y hY hkY => ?_⟩, ht⟩
  rcases mem_insert hp with rfl | hp
  · rw [hv Y hY (memLaw.inj hkY hkl)]
  · exact h2 p (List.mem_filter.1 hp).1 Y hY hkY
end
end Go.Proofs.Ythhpioohdkglkaa
