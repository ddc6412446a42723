/- A region that draws its order, by an invariant over what has been taken: one proof an operation, whatever the number of orders. No program stands here. -/
import Derived.Test.YtmkfhjhiklnbfaaBut
namespace Go.Proofs.Ytmkfhjhiklnbfaa
open Go.RowKit

section
variable {P : Program} {ops : Array Oper} {Q : Exit → Act → World → Prop} {md : Region.Mode}

theorem cnt_set {l : List Bool} {k : Nat} (h : l[k]? = some false) : (l.set k true).count false + 1 = l.count false := by
  induction l generalizing k with
  | nil => simp at h
  | cons b l ih =>
    cases k with
    | zero =>
      simp at h
      subst h
      simp
    | succ k =>
      have := ih (k := k) (by simpa using h)
      rw [List.set_cons_succ, List.count_cons, List.count_cons]
      omega
theorem any_inv (I : Array Bool → Act → World → Prop)
    (hstep : ∀ done a w k, I done a w → k ∈ Region.ready md ops done → wpOp P ops Q k (fun b v => I (done.setIfInBounds k true) b v) a w)
    (hend : ∀ done a w, I done a w → Region.ready md ops done = [] → Q .normal a w) :
    ∀ n done a w, done.toList.count false ≤ n → I done a w → wpAny P md ops Q n done a w := by
  have hr : ∀ (done : Array Bool) k, k ∈ Region.ready md ops done → done.toList[k]? = some false := by
    intro done k hk
    have := (mem_ready.1 hk).1
    rw [Array.getElem?_toList]
    cases h : done[k]? with
    | none => rw [Array.getD_eq_getD_getElem?, h] at this; cases this
    | some b => rw [Array.getD_eq_getD_getElem?, h] at this; simp at this; rw [this]
  intro n
  induction n with
  | zero =>
    intro done a w hn hI
    have h0 : Region.ready md ops done = [] := by
      cases h : Region.ready md ops done with
      | nil => rfl
      | cons k l =>
        have := cnt_set (hr done k (by rw [h]; exact List.mem_cons_self))
        omega
    exact ⟨h0, hend done a w hI h0⟩
  | succ n ih =>
    intro done a w hn hI
    refine ⟨hend done a w hI, fun k hk => wpOp_mono (fun b v hb => ih _ b v ?_ hb) (hstep done a w k hI hk)⟩
    have := cnt_set (hr done k hk)
    rw [Array.toList_setIfInBounds]
    omega
theorem wp_region_inv {id : Nat} {a : Act} {w : World} (hm : P.follows .mixedOrders = true) (I : Array Bool → Act → World → Prop) (h0 : I (Array.replicate ops.size false) a w.drew)
    (hstep : ∀ done a w k, I done a w → k ∈ Region.ready .any ops done → wpOp P ops Q k (fun b v => I (done.setIfInBounds k true) b v) a w)
    (hend : ∀ done a w, I done a w → Region.ready .any ops done = [] → Q .normal a w) : (Code.region id ops true).wp P Q a w := by
  refine wp_region_any hm (any_inv I hstep hend _ _ _ _ ?_ h0)
  rw [Array.toList_replicate, List.count_replicate_self]
  exact Nat.le_refl _
end
end Go.Proofs.Ytmkfhjhiklnbfaa
