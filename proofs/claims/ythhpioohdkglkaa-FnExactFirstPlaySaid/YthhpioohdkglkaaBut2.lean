/- A region that draws its order and ends in operations that make or change memory: a load may be taken first if those last ones wait for it, over however many steps. No program stands here. -/
import Derived.Test.YthhpioohdkglkaaBut
namespace Go.Proofs.Ythhpioohdkglkaa
open Go.RowKit

section
variable {P : Program} {ops : Array Oper} {Q : Exit → Act → World → Prop} {md : Region.Mode} {S : World → Prop} {z : Nat → Bool}

/-- What has been taken has all that it waits for taken. -/
def Fit (md : Region.Mode) (ops : Array Oper) (done : Array Bool) : Prop := ∀ j oj, ops[j]? = some oj → done.getD j false = true → ∀ e ∈ oj.after, Region.binds md e = true → done.getD e.on false = true
def fitB (md : Region.Mode) (ops : Array Oper) (done : Array Bool) : Bool := (List.range ops.size).all fun j => !(done.getD j false) || (match ops[j]? with
  | some o => o.after.all fun e => !(Region.binds md e) || done.getD e.on false
  | none => true)
theorem fit_of {done : Array Bool} (h : fitB md ops done = true) : Fit md ops done := by
  intro j oj hoj hd e he hb
  have hj : j < ops.size := (Array.getElem?_eq_some_iff.1 hoj).1
  have := List.all_eq_true.1 h j (List.mem_range.2 hj)
  rw [hd, Bool.not_true, Bool.false_or, hoj] at this
  have := Array.all_eq_true'.1 this e he
  rw [hb, Bool.not_true, Bool.false_or] at this
  exact this
theorem Fit.set {done : Array Bool} {j : Nat} (h : Fit md ops done) (hj : j ∈ Region.ready md ops done) : Fit md ops (done.setIfInBounds j true) := by
  intro i oi hoi hd e he hb
  obtain ⟨_, oj, hoj, hall⟩ := mem_ready.1 hj
  rcases Decidable.em (j = i) with rfl | hne
  · rw [hoj] at hoi
    cases hoi
    exact getD_set_true (hall e he hb)
  · rw [getD_set_ne false hne] at hd
    exact getD_set_true (h i oi hoi hd e he hb)
/-- Number j waits for number k, over at most f steps. -/
def reach (md : Region.Mode) (ops : Array Oper) (k : Nat) : Nat → Nat → Bool
  | 0, _ => false
  | f + 1, j => match ops[j]? with
    | some o => o.after.any fun e => Region.binds md e && (e.on == k || reach md ops k f e.on)
    | none => false
theorem reach_no {done : Array Bool} {k : Nat} (hf : Fit md ops done) (hk : done.getD k false = false) : ∀ f j, reach md ops k f j = true → j ∉ Region.ready md ops done ∧ done.getD j false = false := by
  intro f
  induction f with
  | zero => intro j h; cases h
  | succ f ih =>
    intro j h
    unfold reach at h
    cases hoj : ops[j]? with
    | none => rw [hoj] at h; cases h
    | some oj =>
      rw [hoj] at h
      obtain ⟨e, he, hb⟩ := Array.any_eq_true'.1 h
      rw [Bool.and_eq_true, Bool.or_eq_true, beq_iff_eq] at hb
      have hx : done.getD e.on false = false := by
        rcases hb.2 with h2 | h2
        · rw [h2]; exact hk
        · exact (ih _ h2).2
      constructor
      · intro hj
        obtain ⟨_, o, ho, hall⟩ := mem_ready.1 hj
        rw [hoj] at ho
        cases ho
        have := hall e he hb.1
        rw [hx] at this
        cases this
      · cases hd : done.getD j false with
        | false => rfl
        | true =>
          have := hf j oj hoj hd e he hb.1
          rw [hx] at this
          cases this
def awaitedT (md : Region.Mode) (ops : Array Oper) (z : Nat → Bool) (k : Nat) : Bool := (List.range ops.size).all fun j => !z j || reach md ops k ops.size j
theorem Tamed.firstT {k : Nat} {o : Oper} {u : Value} (ho : ops[k]? = some o) (hs : Region.noSelect ops = true) (hz : awaitedT md ops z k = true)
    (hQ : ∀ c a w, Q (.panic c) (a.put o.dst u) w → Q (.panic c) a w) : ∀ (n : Nat) (done : Array Bool) (a : Act) (w : World), Fit md ops done →
    (∀ j oj, ops[j]? = some oj → j ≠ k → done.getD j true = false → (∀ e ∈ oj.after, Region.binds md e = true → e.on ≠ k) → o.apart ops oj = true) →
    k ∈ Region.ready md ops done → YieldsIf P ops S o u a → S w → Tamed P md ops Q S z n (done.setIfInBounds k true) (a.put o.dst u) w → Tamed P md ops Q S z (n + 1) done a w := by
  intro n
  induction n with
  | zero =>
    intro done a w _ hap hk hy hS H
    constructor
    · intro h
      rw [h] at hk
      cases hk
    · intro j hj
      rcases Decidable.em (j = k) with rfl | hne
      · exact hy.wpOp ho hS ⟨fun _ h => h, H⟩
      · have hr := ready_mono hj hne
        rw [H.1] at hr
        cases hr
  | succ n ih =>
    intro done a w hft hap hk hy hS H
    constructor
    · intro h
      rw [h] at hk
      cases hk
    · intro j hj
      rcases Decidable.em (j = k) with rfl | hne
      · exact hy.wpOp ho hS ⟨fun _ h => h, H⟩
      obtain ⟨hun, oj, hoj, hedges⟩ := mem_ready.1 hj
      have hkun := (mem_ready.1 hk).1
      have hfar : ∀ e ∈ oj.after, Region.binds md e = true → e.on ≠ k := by
        intro e he hb hek
        have := hedges e he hb
        rw [hek] at this
        rw [getD_both hkun] at this
        cases this
      have hjz : z j = false := by
        cases hzj : z j with
        | false => rfl
        | true =>
          have := List.all_eq_true.1 hz j (List.mem_range.2 (Array.getElem?_eq_some_iff.1 hoj).1)
          rw [hzj, Bool.not_true, Bool.false_or] at this
          exact absurd hj (reach_no hft (getD_both hkun) _ _ this).1
      have step := wpOp_putIf hoj (hap j oj hoj hne hun hfar) (fun cs b => Region.noSelect_spec hs k o cs b ho) (fun cs b => Region.noSelect_spec hs j oj cs b hoj) hQ hy (H.2 j (ready_mono hj hne))
      refine wpOp_mono (fun b v hb => ⟨fun _ => hb.2.1 hjz, ?_⟩) step
      refine ih (done.setIfInBounds j true) b v (hft.set hj) ?_ (ready_mono hk (Ne.symm hne)) hb.1 (hb.2.1 hjz hS) ?_
      · intro i oi hoi hik hiun hifar
        refine hap i oi hoi hik ?_ hifar
        rcases Decidable.em (j = i) with rfl | hji
        · exact hun
        · rw [getD_set_ne true hji] at hiun
          exact hiun
      · rw [Array.setIfInBounds_comm _ _ hne]
        exact hb.2.2
theorem tameT {k : Nat} {o : Oper} (u : Value) {n : Nat} {done : Array Bool} {a : Act} {w : World} (ho : ops[k]? = some o) (hs : Region.noSelect ops = true) (hz : awaitedT md ops z k = true) (hft : fitB md ops done = true)
    (hf : Region.free md ops done k = true) (hr : (Region.ready md ops done).contains k = true) (hQ : ∀ c a w, Q (.panic c) (a.put o.dst u) w → Q (.panic c) a w)
    (hw : Region.wanted o (yielded ops a.tmps) = true) (hS : S w) (hy : ∀ v, S v → (execOp a.eval o).run P v = .ok (.value u) v)
    (h : Tamed P md ops Q S z n (done.setIfInBounds k true) (a.put o.dst u) w) : Tamed P md ops Q S z (n + 1) done a w :=
  Tamed.firstT ho hs hz hQ n done a w (fit_of hft) (Region.free_spec ho hf) (by simpa using hr) (.inl ⟨hw, hy⟩) hS h
/-- Two operations may come up. -/
theorem tame_two {i j : Nat} {oi oj : Oper} {n : Nat} {done : Array Bool} {a : Act} {w : World} (hr : Region.ready md ops done = [i, j]) (hi : ops[i]? = some oi) (hj : ops[j]? = some oj)
    (hwi : Region.wanted oi (yielded ops a.tmps) = true) (hwj : Region.wanted oj (yielded ops a.tmps) = true)
    (h1 : oi.wp P a w (fun b v => (z i = false → S v) ∧ Tamed P md ops Q S z n (done.setIfInBounds i true) b v) Q)
    (h2 : oj.wp P a w (fun b v => (z j = false → S v) ∧ Tamed P md ops Q S z n (done.setIfInBounds j true) b v) Q) :
    Tamed P md ops Q S z (n + 1) done a w := by
  refine ⟨fun h0 => (by rw [hr] at h0; cases h0), fun k hk => ?_⟩
  rw [hr, List.mem_cons, List.mem_singleton] at hk
  rcases hk with rfl | rfl
  · unfold wpOp
    simp only [hi, hwi, if_true]
    exact .inl (Oper.wp_mono (fun _ _ hb => ⟨fun hz _ => hb.1 hz, hb.2⟩) h1)
  · unfold wpOp
    simp only [hj, hwj, if_true]
    exact .inl (Oper.wp_mono (fun _ _ hb => ⟨fun hz _ => hb.1 hz, hb.2⟩) h2)
end
end Go.Proofs.Ythhpioohdkglkaa
