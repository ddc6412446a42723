/- A region that draws its order and ends in stores to cells that it has loaded: a load may be taken first if its cell is as it was behind every operation but those last ones. No program stands here. -/
import Derived.Test.YthhpioohdkglkaaBase
import Derived.OrdersHeld
import Derived.StillTail
namespace Go.Proofs.Ythhpioohdkglkaa
open Go.RowKit

section
variable {P : Program} {ops : Array Oper} {Q : Exit → Act → World → Prop} {md : Region.Mode} {S : World → Prop} {z : Nat → Bool}

/-- Every order from here on ends well, and S holds behind each operation but those of z. -/
def Tamed (P : Program) (md : Region.Mode) (ops : Array Oper) (Q : Exit → Act → World → Prop) (S : World → Prop) (z : Nat → Bool) : Nat → Array Bool → Act → World → Prop
  | 0, done, a, w => Region.ready md ops done = [] ∧ Q .normal a w
  | n + 1, done, a, w => (Region.ready md ops done = [] → Q .normal a w) ∧
      ∀ k ∈ Region.ready md ops done, wpOp P ops Q k (fun b v => (z k = false → S w → S v) ∧ Tamed P md ops Q S z n (done.setIfInBounds k true) b v) a w

theorem Tamed.any : ∀ {n : Nat} {done : Array Bool} {a : Act} {w : World}, Tamed P md ops Q S z n done a w → wpAny P md ops Q n done a w
  | 0, _, _, _, h => h
  | _ + 1, _, _, _, h => ⟨h.1, fun k hk => wpOp_mono (fun _ _ hb => hb.2.any) (h.2 k hk)⟩

theorem tamed_region {id : Nat} {a : Act} {w : World} (z : Nat → Bool) (hm : P.follows .mixedOrders = true) (h : Tamed P .any ops Q S z ops.size (Array.replicate ops.size false) a w.drew) :
    (Code.region id ops true).wp P Q a w := wp_region_any hm h.any

/-- All of z wait for number k. -/
def awaited (md : Region.Mode) (ops : Array Oper) (z : Nat → Bool) (k : Nat) : Bool := (List.range ops.size).all fun j => !z j || Region.waitsFor md ops j k
/-- An operation that all of z wait for is taken first. -/
theorem Tamed.first {k : Nat} {o : Oper} {u : Value} (ho : ops[k]? = some o) (hs : Region.noSelect ops = true) (hz : awaited md ops z k = true)
    (hQ : ∀ c a w, Q (.panic c) (a.put o.dst u) w → Q (.panic c) a w) : ∀ (n : Nat) (done : Array Bool) (a : Act) (w : World),
    (∀ j oj, ops[j]? = some oj → j ≠ k → done.getD j true = false → (∀ e ∈ oj.after, Region.binds md e = true → e.on ≠ k) → o.apart ops oj = true) →
    k ∈ Region.ready md ops done → YieldsIf P ops S o u a → S w → Tamed P md ops Q S z n (done.setIfInBounds k true) (a.put o.dst u) w → Tamed P md ops Q S z (n + 1) done a w := by
  intro n
  induction n with
  | zero =>
    intro done a w _ hk hy hS H
    constructor
    · intro h
      rw [h] at hk
      cases hk
    · intro j hj
      rcases Decidable.em (j = k) with rfl | hne
      · exact hy.wpOp ho hS ⟨fun _ h => h, H⟩
      · have hr := ready_mono hj hne
        rw [H.1] at hr
        cases hr
  | succ n ih =>
    intro done a w hap hk hy hS H
    constructor
    · intro h
      rw [h] at hk
      cases hk
    · intro j hj
      rcases Decidable.em (j = k) with rfl | hne
      · exact hy.wpOp ho hS ⟨fun _ h => h, H⟩
      obtain ⟨hun, oj, hoj, hedges⟩ := mem_ready.1 hj
      have hkun := (mem_ready.1 hk).1
      have hfar : ∀ e ∈ oj.after, Region.binds md e = true → e.on ≠ k := by
        intro e he hb hek
        have := hedges e he hb
        rw [hek] at this
        rw [getD_both hkun] at this
        cases this
      have hjz : z j = false := by
        cases hzj : z j with
        | false => rfl
        | true =>
          have := List.all_eq_true.1 hz j (List.mem_range.2 (Array.getElem?_eq_some_iff.1 hoj).1)
          rw [hzj, Bool.not_true, Bool.false_or] at this
          obtain ⟨oz, hoz, e, he, hb, hek⟩ := Region.waitsFor_spec this
          rw [hoj] at hoz
          cases hoz
          exact absurd hek (hfar e he hb)
      have step := wpOp_putIf hoj (hap j oj hoj hne hun hfar) (fun cs b => Region.noSelect_spec hs k o cs b ho) (fun cs b => Region.noSelect_spec hs j oj cs b hoj) hQ hy (H.2 j (ready_mono hj hne))
      refine wpOp_mono (fun b v hb => ⟨fun _ => hb.2.1 hjz, ?_⟩) step
      refine ih (done.setIfInBounds j true) b v ?_ (ready_mono hk (Ne.symm hne)) hb.1 (hb.2.1 hjz hS) ?_
      · intro i oi hoi hik hiun hifar
        refine hap i oi hoi hik ?_ hifar
        rcases Decidable.em (j = i) with rfl | hji
        · exact hun
        · rw [getD_set_ne true hji] at hiun
          exact hiun
      · rw [Array.setIfInBounds_comm _ _ hne]
        exact hb.2.2

/-- An operation that yields its value in every world is taken first. -/
theorem Tamed.firstAny {k : Nat} {o : Oper} {u : Value} (ho : ops[k]? = some o) (hs : Region.noSelect ops = true)
    (hQ : ∀ c a w, Q (.panic c) (a.put o.dst u) w → Q (.panic c) a w) : ∀ (n : Nat) (done : Array Bool) (a : Act) (w : World),
    (∀ j oj, ops[j]? = some oj → j ≠ k → done.getD j true = false → (∀ e ∈ oj.after, Region.binds md e = true → e.on ≠ k) → o.apart ops oj = true) →
    k ∈ Region.ready md ops done → YieldsIf P ops (fun _ => True) o u a → Tamed P md ops Q S z n (done.setIfInBounds k true) (a.put o.dst u) w → Tamed P md ops Q S z (n + 1) done a w := by
  intro n
  induction n with
  | zero =>
    intro done a w _ hk hy H
    constructor
    · intro h
      rw [h] at hk
      cases hk
    · intro j hj
      rcases Decidable.em (j = k) with rfl | hne
      · exact hy.wpOp ho trivial ⟨fun _ h => h, H⟩
      · have hr := ready_mono hj hne
        rw [H.1] at hr
        cases hr
  | succ n ih =>
    intro done a w hap hk hy H
    constructor
    · intro h
      rw [h] at hk
      cases hk
    · intro j hj
      rcases Decidable.em (j = k) with rfl | hne
      · exact hy.wpOp ho trivial ⟨fun _ h => h, H⟩
      obtain ⟨hun, oj, hoj, hedges⟩ := mem_ready.1 hj
      have hkun := (mem_ready.1 hk).1
      have hfar : ∀ e ∈ oj.after, Region.binds md e = true → e.on ≠ k := by
        intro e he hb hek
        have := hedges e he hb
        rw [hek, getD_both hkun] at this
        cases this
      have step := wpOp_putIf hoj (hap j oj hoj hne hun hfar) (fun cs b => Region.noSelect_spec hs k o cs b ho) (fun cs b => Region.noSelect_spec hs j oj cs b hoj) hQ hy (H.2 j (ready_mono hj hne))
      refine wpOp_mono (fun b v hb => ⟨hb.2.1, ?_⟩) step
      refine ih (done.setIfInBounds j true) b v ?_ (ready_mono hk (Ne.symm hne)) hb.1 ?_
      · intro i oi hoi hik hiun hifar
        refine hap i oi hoi hik ?_ hifar
        rcases Decidable.em (j = i) with rfl | hji
        · exact hun
        · rw [getD_set_ne true hji] at hiun
          exact hiun
      · rw [Array.setIfInBounds_comm _ _ hne]
        exact hb.2.2
theorem tame0 {k : Nat} {o : Oper} (u : Value) {n : Nat} {done : Array Bool} {a : Act} {w : World} (ho : ops[k]? = some o) (hs : Region.noSelect ops = true)
    (hf : Region.free md ops done k = true) (hr : (Region.ready md ops done).contains k = true) (hQ : ∀ c a w, Q (.panic c) (a.put o.dst u) w → Q (.panic c) a w)
    (hw : Region.wanted o (yielded ops a.tmps) = true) (hy : ∀ v, (execOp a.eval o).run P v = .ok (.value u) v)
    (h : Tamed P md ops Q S z n (done.setIfInBounds k true) (a.put o.dst u) w) : Tamed P md ops Q S z (n + 1) done a w :=
  Tamed.firstAny ho hs hQ n done a w (Region.free_spec ho hf) (by simpa using hr) (.inl ⟨hw, fun v _ => hy v⟩) h

theorem tame {k : Nat} {o : Oper} (u : Value) {n : Nat} {done : Array Bool} {a : Act} {w : World} (ho : ops[k]? = some o) (hs : Region.noSelect ops = true) (hz : awaited md ops z k = true)
    (hf : Region.free md ops done k = true) (hr : (Region.ready md ops done).contains k = true) (hQ : ∀ c a w, Q (.panic c) (a.put o.dst u) w → Q (.panic c) a w)
    (hw : Region.wanted o (yielded ops a.tmps) = true) (hS : S w) (hy : ∀ v, S v → (execOp a.eval o).run P v = .ok (.value u) v)
    (h : Tamed P md ops Q S z n (done.setIfInBounds k true) (a.put o.dst u) w) : Tamed P md ops Q S z (n + 1) done a w :=
  Tamed.first ho hs hz hQ n done a w (Region.free_spec ho hf) (by simpa using hr) (.inl ⟨hw, hy⟩) hS h

/-- The one operation that may come up. -/
theorem tame_one {k : Nat} {o : Oper} {n : Nat} {done : Array Bool} {a : Act} {w : World} (hr : Region.ready md ops done = [k]) (ho : ops[k]? = some o)
    (hw : Region.wanted o (yielded ops a.tmps) = true) (h : o.wp P a w (fun b v => (z k = false → S v) ∧ Tamed P md ops Q S z n (done.setIfInBounds k true) b v) Q) :
    Tamed P md ops Q S z (n + 1) done a w := by
  refine ⟨fun h0 => (by rw [hr] at h0; cases h0), fun j hj => ?_⟩
  rw [hr, List.mem_singleton] at hj
  subst hj
  unfold wpOp
  simp only [ho, hw, if_true]
  exact .inl (Oper.wp_mono (fun _ _ hb => ⟨fun hz _ => hb.1 hz, hb.2⟩) h)
theorem tame_end {n : Nat} {done : Array Bool} {a : Act} {w : World} (hr : Region.ready md ops done = []) (h : Q .normal a w) : Tamed P md ops Q S z n done a w := by
  cases n with
  | zero => exact ⟨hr, h⟩
  | succ n => exact ⟨fun _ => h, by rw [hr]; intro k hk; cases hk⟩
end
end Go.Proofs.Ythhpioohdkglkaa
