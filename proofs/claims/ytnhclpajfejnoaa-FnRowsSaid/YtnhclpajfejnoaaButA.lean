/- Regions that draw their order: tame steps. -/
import Derived.Test.YtnhclpajfejnoaaBase
import Derived.OrdersHeld
import Derived.StillTail
namespace Go.Proofs.Ytnhclpajfejnoaa
open Go.RowKit

section
variable {P : Program} {ops : Array Oper} {Q : Exit → Act → World → Prop} {md : Region.Mode} {S : World → Prop} {z : Nat → Bool}

/-- Every order from here on ends well, and S holds behind each operation but those of z. -/
def Tamed (P : Program) (md : Region.Mode) (ops : Array Oper) (Q : Exit → Act → World → Prop) (S : World → Prop) (z : Nat → Bool) : Nat → Array Bool → Act → World → Prop
  | 0, done, a, w => Region.ready md ops done = [] ∧ Q .normal a w
  | n + 1, done, a, w => (Region.ready md ops done = [] → Q .normal a w) ∧
      ∀ k ∈ Region.ready md ops done, wpOp P ops Q k (fun b v => (z k = false → S w → S v) ∧ Tamed P md ops Q S z n (done.setIfInBounds k true) b v) a w

theorem Tamed.any : ∀ {n : Nat} {done : Array Bool} {a : Act} {w : World}, Tamed P md ops Q S z n done a w → wpAny P md ops Q n done a w
  | 0, _, _, _, h => h
  | _ + 1, _, _, _, h => ⟨h.1, fun k hk => wpOp_mono (fun _ _ hb => hb.2.any) (h.2 k hk)⟩

theorem tamed_region {id : Nat} {a : Act} {w : World} (z : Nat → Bool) (hm : P.follows .mixedOrders = true) (h : Tamed P .any ops Q S z ops.size (Array.replicate ops.size false) a w.drew) :
    (Code.region id ops true).wp P Q a w := wp_region_any hm h.any

/-- All of z wait for number k. -/
def awaited (md : Region.Mode) (ops : Array Oper) (z : Nat → Bool) (k : Nat) : Bool := (List.range ops.size).all fun j => !z j || Region.waitsFor md ops j k
/-- An operation that all of z wait for is taken first. -/
theorem Tamed.first {k : Nat} {o : Oper} {u : Value} (ho : ops[k]? = some o) (hs : Region.noSelect ops = true) (hz : awaited md ops z k = true)
    (hQ : ∀ c a w, Q (.panic c) (a.put o.dst u) w → Q (.panic c) a w) : ∀ (n : Nat) (done : Array Bool) (a : Act) (w : World),
    (∀ j oj, ops[j]? = some oj → j ≠ k → done.getD j true = false → (∀ e ∈ oj.after, Region.binds md e = true → e.on ≠ k) → o.apart ops oj = true) →
    k ∈ Region.ready md ops done → YieldsIf P ops S o u a → S w → Tamed P md ops Q S z n (done.setIfInBounds k true) (a.put o.dst u) w → Tamed P md ops Q S z (n + 1) done a w := by
  intro n
  induction n with
  | zero =>
    intro done a w _ hk hy hS H
    constructor
    · intro h
      rw [h] at hk
      cases hk
    · intro j hj
      rcases Decidable.em (j = k) with rfl | hne
      · exact hy.wpOp ho hS ⟨fun _ h => h, H⟩
      · have hr := ready_mono hj hne
        rw [H.1] at hr
        cases hr
  | succ n ih =>
    intro done a w hap hk hy hS H
    constructor
    · intro h
      rw [h] at hk
      cases hk
    · intro j hj
      rcases Decidable.em (j = k) with rfl | hne
      · exact hy.wpOp ho hS ⟨fun _ h => h, H⟩
      obtain ⟨hun, oj, hoj, hedges⟩ := mem_ready.1 hj
      have hkun := (mem_ready.1 hk).1
      have hfar : ∀ e ∈ oj.after, Region.binds md e = true → e.on ≠ k := by
        intro e he hb hek
        have := hedges e he hb
        rw [hek] at this
        rw [getD_both hkun] at this
        cases this
      have hjz : z j = false := by
        cases hzj : z j with
        | false => rfl
        | true =>
          have := List.all_eq_true.1 hz j (List.mem_range.2 (Array.getElem?_eq_some_iff.1 hoj).1)
          rw [hzj, Bool.not_true, Bool.false_or] at this
          obtain ⟨oz, hoz, e, he, hb, hek⟩ := Region.waitsFor_spec this
          rw [hoj] at hoz
          cases hoz
          exact absurd hek (hfar e he hb)
      have step := wpOp_putIf hoj (hap j oj hoj hne hun hfar) (fun cs b => Region.noSelect_spec hs k o cs b ho) (fun cs b => Region.noSelect_spec hs j oj cs b hoj) hQ hy (H.2 j (ready_mono hj hne))
      refine wpOp_mono (fun b v hb => ⟨fun _ => hb.2.1 hjz, ?_⟩) step
      refine ih (done.setIfInBounds j true) b v ?_ (ready_mono hk (Ne.symm hne)) hb.1 (hb.2.1 hjz hS) ?_
      · intro i oi hoi hik hiun hifar
        refine hap i oi hoi hik ?_ hifar
        rcases Decidable.em (j = i) with rfl | hji
        · exact hun
        · rw [getD_set_ne true hji] at hiun
          exact hiun
      · rw [Array.setIfInBounds_comm _ _ hne]
        exact hb.2.2

/-- An operation that yields its value in every world is taken first. -/
theorem Tamed.firstAny {k : Nat} {o : Oper} {u : Value} (ho : ops[k]? = some o) (hs : Region.noSelect ops = true)
    (hQ : ∀ c a w, Q (.panic c) (a.put o.dst u) w → Q (.panic c) a w) : ∀ (n : Nat) (done : Array Bool) (a : Act) (w : World),
    (∀ j oj, ops[j]? = some oj → j ≠ k → done.getD j true = false → (∀ e ∈ oj.after, Region.binds md e = true → e.on ≠ k) → o.apart ops oj = true) →
    k ∈ Region.ready md ops done → YieldsIf P ops (fun _ => True) o u a → Tamed P md ops Q S z n (done.setIfInBounds k true) (a.put o.dst u) w → Tamed P md ops Q S z (n + 1) done a w := by
  intro n
  induction n with
  | zero =>
    intro done a w _ hk hy H
    constructor
    · intro h
      rw [h] at hk
      cases hk
    · intro j hj
      rcases Decidable.em (j = k) with rfl | hne
      · exact hy.wpOp ho trivial ⟨fun _ h => h, H⟩
      · have hr := ready_mono hj hne
        rw [H.1] at hr
        cases hr
  | succ n ih =>
    intro done a w hap hk hy H
    constructor
    · intro h
      rw [h] at hk
      cases hk
    · intro j hj
      rcases Decidable.em (j = k) with rfl | hne
      · exact hy.wpOp ho trivial ⟨fun _ h => h, H⟩
      obtain ⟨hun, oj, hoj, hedges⟩ := mem_ready.1 hj
      have hkun := (mem_ready.1 hk).1
      have hfar : ∀ e ∈ oj.after, Region.binds md e = true → e.on ≠ k := by
        intro e he hb hek
        have := hedges e he hb
        rw [hek, getD_both hkun] at this
        cases this
      have step := wpOp_putIf hoj (hap j oj hoj hne hun hfar) (fun cs b => Region.noSelect_spec hs k o cs b ho) (fun cs b => Region.noSelect_spec hs j oj cs b hoj) hQ hy (H.2 j (ready_mono hj hne))
      refine wpOp_mono (fun b v hb => ⟨hb.2.1, ?_⟩) step
      refine ih (done.setIfInBounds j true) b v ?_ (ready_mono hk (Ne.symm hne)) hb.1 ?_
      · intro i oi hoi hik hiun hifar
        refine hap i oi hoi hik ?_ hifar
        rcases Decidable.em (j = i) with rfl | hji
        · exact hun
        · rw [getD_set_ne true hji] at hiun
          exact hiun
      · rw [Array.setIfInBounds_comm _ _ hne]
        exact hb.2.2
theorem tame0 {k : Nat} {o : Oper} (u : Value) {n : Nat} {done : Array Bool} {a : Act} {w : World} (ho : ops[k]? = some o) (hs : Region.noSelect ops = true)
    (hf : Region.free md ops done k = true) (hr : (Region.ready md ops done).contains k = true) (hQ : ∀ c a w, Q (.panic c) (a.put o.dst u) w → Q (.panic c) a w)
    (hw : Region.wanted o (yielded ops a.tmps) = true) (hy : ∀ v, (execOp a.eval o).run P v = .ok (.value u) v)
    (h : Tamed P md ops Q S z n (done.setIfInBounds k true) (a.put o.dst u) w) : Tamed P md ops Q S z (n + 1) done a w :=
  Tamed.firstAny ho hs hQ n done a w (Region.free_spec ho hf) (by simpa using hr) (.inl ⟨hw, fun v _ => hy v⟩) h

theorem tame {k : Nat} {o : Oper} (u : Value) {n : Nat} {done : Array Bool} {a : Act} {w : World} (ho : ops[k]? = some o) (hs : Region.noSelect ops = true) (hz : awaited md ops z k = true)
    (hf : Region.free md ops done k = true) (hr : (Region.ready md ops done).contains k = true) (hQ : ∀ c a w, Q (.panic c) (a.put o.dst u) w → Q (.panic c) a w)
    (hw : Region.wanted o (yielded ops a.tmps) = true) (hS : S w) (hy : ∀ v, S v → (execOp a.eval o).run P v = .ok (.value u) v)
    (h : Tamed P md ops Q S z n (done.setIfInBounds k true) (a.put o.dst u) w) : Tamed P md ops Q S z (n + 1) done a w :=
  Tamed.first ho hs hz hQ n done a w (Region.free_spec ho hf) (by simpa using hr) (.inl ⟨hw, hy⟩) hS h

/-- The one operation that may come up. -/
theorem tame_one {k : Nat} {o : Oper} {n : Nat} {done : Array Bool} {a : Act} {w : World} (hr : Region.ready md ops done = [k]) (ho : ops[k]? = some o)
    (hw : Region.wanted o (yielded ops a.tmps) = true) (h : o.wp P a w (fun b v => (z k = false → S v) ∧ Tamed P md ops Q S z n (done.setIfInBounds k true) b v) Q) :
    Tamed P md ops Q S z (n + 1) done a w := by
  refine ⟨fun h0 => (by rw [hr] at h0; cases h0), fun j hj => ?_⟩
  rw [hr, List.mem_singleton] at hj
  subst hj
  unfold wpOp
  simp only [ho, hw, if_true]
  exact .inl (Oper.wp_mono (fun _ _ hb => ⟨fun hz _ => hb.1 hz, hb.2⟩) h)
theorem tame_end {n : Nat} {done : Array Bool} {a : Act} {w : World} (hr : Region.ready md ops done = []) (h : Q .normal a w) : Tamed P md ops Q S z n done a w := by
  cases n with
  | zero => exact ⟨hr, h⟩
  | succ n => exact ⟨fun _ => h, by rw [hr]; intro k hk; cases hk⟩
end

section
variable {P : Program} {ops : Array Oper} {Q : Exit → Act → World → Prop} {md : Region.Mode} {S : World → Prop} {z : Nat → Bool}

/-- What has been taken has all that it waits for taken. -/
def Fit (md : Region.Mode) (ops : Array Oper) (done : Array Bool) : Prop := ∀ j oj, ops[j]? = some oj → done.getD j false = true → ∀ e ∈ oj.after, Region.binds md e = true → done.getD e.on false = true
def fitB (md : Region.Mode) (ops : Array Oper) (done : Array Bool) : Bool := (List.range ops.size).all fun j => !(done.getD j false) || (match ops[j]? with
  | some o => o.after.all fun e => !(Region.binds md e) || done.getD e.on false
  | none => true)
theorem fit_of {done : Array Bool} (h : fitB md ops done = true) : Fit md ops done := by
  intro j oj hoj hd e he hb
  have hj : j < ops.size := (Array.getElem?_eq_some_iff.1 hoj).1
  have := List.all_eq_true.1 h j (List.mem_range.2 hj)
  rw [hd, Bool.not_true, Bool.false_or, hoj] at this
  have := Array.all_eq_true'.1 this e he
  rw [hb, Bool.not_true, Bool.false_or] at this
  exact this
theorem Fit.set {done : Array Bool} {j : Nat} (h : Fit md ops done) (hj : j ∈ Region.ready md ops done) : Fit md ops (done.setIfInBounds j true) := by
  intro i oi hoi hd e he hb
  obtain ⟨_, oj, hoj, hall⟩ := mem_ready.1 hj
  rcases Decidable.em (j = i) with rfl | hne
  · rw [hoj] at hoi
    cases hoi
    exact getD_set_true (hall e he hb)
  · rw [getD_set_ne false hne] at hd
    exact getD_set_true (h i oi hoi hd e he hb)
/-- Number j waits for number k, over at most f steps. -/
def reach (md : Region.Mode) (ops : Array Oper) (k : Nat) : Nat → Nat → Bool
  | 0, _ => false
  | f + 1, j => match ops[j]? with
    | some o => o.after.any fun e => Region.binds md e && (e.on == k || reach md ops k f e.on)
    | none => false
theorem reach_no {done : Array Bool} {k : Nat} (hf : Fit md ops done) (hk : done.getD k false = false) : ∀ f j, reach md ops k f j = true → j ∉ Region.ready md ops done ∧ done.getD j false = false := by
  intro f
  induction f with
  | zero => intro j h; cases h
  | succ f ih =>
    intro j h
    unfold reach at h
    cases hoj : ops[j]? with
    | none => rw [hoj] at h; cases h
    | some oj =>
      rw [hoj] at h
      obtain ⟨e, he, hb⟩ := Array.any_eq_true'.1 h
      rw [Bool.and_eq_true, Bool.or_eq_true, beq_iff_eq] at hb
      have hx : done.getD e.on false = false := by
        rcases hb.2 with h2 | h2
        · rw [h2]; exact hk
        · exact (ih _ h2).2
      constructor
      · intro hj
        obtain ⟨_, o, ho, hall⟩ := mem_ready.1 hj
        rw [hoj] at ho
        cases ho
        have := hall e he hb.1
        rw [hx] at this
        cases this
      · cases hd : done.getD j false with
        | false => rfl
        | true =>
          have := hf j oj hoj hd e he hb.1
          rw [hx] at this
          cases this
def awaitedT (md : Region.Mode) (ops : Array Oper) (z : Nat → Bool) (k : Nat) : Bool := (List.range ops.size).all fun j => !z j || reach md ops k ops.size j
theorem Tamed.firstT {k : Nat} {o : Oper} {u : Value} (ho : ops[k]? = some o) (hs : Region.noSelect ops = true) (hz : awaitedT md ops z k = true)
    (hQ : ∀ c a w, Q (.panic c) (a.put o.dst u) w → Q (.panic c) a w) : ∀ (n : Nat) (done : Array Bool) (a : Act) (w : World), Fit md ops done →
    (∀ j oj, ops[j]? = some oj → j ≠ k → done.getD j true = false → (∀ e ∈ oj.after, Region.binds md e = true → e.on ≠ k) → o.apart ops oj = true) →
    k ∈ Region.ready md ops done → YieldsIf P ops S o u a → S w → Tamed P md ops Q S z n (done.setIfInBounds k true) (a.put o.dst u) w → Tamed P md ops Q S z (n + 1) done a w := by
  intro n
  induction n with
  | zero =>
    intro done a w _ hap hk hy hS H
    constructor
    · intro h
      rw [h] at hk
      cases hk
    · intro j hj
      rcases Decidable.em (j = k) with rfl | hne
      · exact hy.wpOp ho hS ⟨fun _ h => h, H⟩
      · have hr := ready_mono hj hne
        rw [H.1] at hr
        cases hr
  | succ n ih =>
    intro done a w hft hap hk hy hS H
    constructor
    · intro h
      rw [h] at hk
      cases hk
    · intro j hj
      rcases Decidable.em (j = k) with rfl | hne
      · exact hy.wpOp ho hS ⟨fun _ h => h, H⟩
      obtain ⟨hun, oj, hoj, hedges⟩ := mem_ready.1 hj
      have hkun := (mem_ready.1 hk).1
      have hfar : ∀ e ∈ oj.after, Region.binds md e = true → e.on ≠ k := by
        intro e he hb hek
        have := hedges e he hb
        rw [hek] at this
        rw [getD_both hkun] at this
        cases this
      have hjz : z j = false := by
        cases hzj : z j with
        | false => rfl
        | true =>
          have := List.all_eq_true.1 hz j (List.mem_range.2 (Array.getElem?_eq_some_iff.1 hoj).1)
          rw [hzj, Bool.not_true, Bool.false_or] at this
          exact absurd hj (reach_no hft (getD_both hkun) _ _ this).1
      have step := wpOp_putIf hoj (hap j oj hoj hne hun hfar) (fun cs b => Region.noSelect_spec hs k o cs b ho) (fun cs b => Region.noSelect_spec hs j oj cs b hoj) hQ hy (H.2 j (ready_mono hj hne))
      refine wpOp_mono (fun b v hb => ⟨fun _ => hb.2.1 hjz, ?_⟩) step
      refine ih (done.setIfInBounds j true) b v (hft.set hj) ?_ (ready_mono hk (Ne.symm hne)) hb.1 (hb.2.1 hjz hS) ?_
      · intro i oi hoi hik hiun hifar
        refine hap i oi hoi hik ?_ hifar
        rcases Decidable.em (j = i) with rfl | hji
        · exact hun
        · rw [getD_set_ne true hji] at hiun
          exact hiun
      · rw [Array.setIfInBounds_comm _ _ hne]
        exact hb.2.2
theorem tameT {k : Nat} {o : Oper} (u : Value) {n : Nat} {done : Array Bool} {a : Act} {w : World} (ho : ops[k]? = some o) (hs : Region.noSelect ops = true) (hz : awaitedT md ops z k = true) (hft : fitB md ops done = true)
    (hf : Region.free md ops done k = true) (hr : (Region.ready md ops done).contains k = true) (hQ : ∀ c a w, Q (.panic c) (a.put o.dst u) w → Q (.panic c) a w)
    (hw : Region.wanted o (yielded ops a.tmps) = true) (hS : S w) (hy : ∀ v, S v → (execOp a.eval o).run P v = .ok (.value u) v)
    (h : Tamed P md ops Q S z n (done.setIfInBounds k true) (a.put o.dst u) w) : Tamed P md ops Q S z (n + 1) done a w :=
  Tamed.firstT ho hs hz hQ n done a w (fit_of hft) (Region.free_spec ho hf) (by simpa using hr) (.inl ⟨hw, hy⟩) hS h
/-- Two operations may come up. -/
theorem tame_two {i j : Nat} {oi oj : Oper} {n : Nat} {done : Array Bool} {a : Act} {w : World} (hr : Region.ready md ops done = [i, j]) (hi : ops[i]? = some oi) (hj : ops[j]? = some oj)
    (hwi : Region.wanted oi (yielded ops a.tmps) = true) (hwj : Region.wanted oj (yielded ops a.tmps) = true)
    (h1 : oi.wp P a w (fun b v => (z i = false → S v) ∧ Tamed P md ops Q S z n (done.setIfInBounds i true) b v) Q)
    (h2 : oj.wp P a w (fun b v => (z j = false → S v) ∧ Tamed P md ops Q S z n (done.setIfInBounds j true) b v) Q) :
    Tamed P md ops Q S z (n + 1) done a w := by
  refine ⟨fun h0 => (by rw [hr] at h0; cases h0), fun k hk => ?_⟩
  rw [hr, List.mem_cons, List.mem_singleton] at hk
  rcases hk with rfl | rfl
  · unfold wpOp
    simp only [hi, hwi, if_true]
    exact .inl (Oper.wp_mono (fun _ _ hb => ⟨fun hz _ => hb.1 hz, hb.2⟩) h1)
  · unfold wpOp
    simp only [hj, hwj, if_true]
    exact .inl (Oper.wp_mono (fun _ _ hb => ⟨fun hz _ => hb.1 hz, hb.2⟩) h2)
end

theorem Tamed.more {P : Program} {ops : Array Oper} {Q : Exit → Act → World → Prop} {md : Region.Mode} {S S2 : World → Prop} {z : Nat → Bool} (hz : ∀ k, z k = false) (hi : ∀ w, S2 w → S w) :
    ∀ (n : Nat) (done : Array Bool) (a : Act) (w : World), S2 w → Tamed P md ops Q S2 z n done a w → Tamed P md ops Q S z n done a w
  | 0, _, _, _, _, h => h
  | n + 1, _, _, _, h2, h => ⟨h.1, fun k hk => wpOp_mono (fun b v hb => ⟨fun _ _ => hi v (hb.1 (hz k) h2), Tamed.more hz hi n _ b v (hb.1 (hz k) h2) hb.2⟩) (h.2 k hk)⟩
/-- An operation whose guard says no is passed over. -/
theorem tame_no {P : Program} {ops : Array Oper} {Q : Exit → Act → World → Prop} {md : Region.Mode} {S : World → Prop} {z : Nat → Bool} {k : Nat} {o : Oper} {n : Nat} {done : Array Bool} {a : Act} {w : World} (ho : ops[k]? = some o) (hs : Region.noSelect ops = true)
    (hf : Region.free md ops done k = true) (hr : (Region.ready md ops done).contains k = true) (hQ : ∀ c a w, Q (.panic c) (a.put o.dst undef) w → Q (.panic c) a w)
    (hw : Region.wanted o (yielded ops a.tmps) = false) (h : Tamed P md ops Q S z n (done.setIfInBounds k true) (a.put o.dst undef) w) : Tamed P md ops Q S z (n + 1) done a w :=
  Tamed.firstAny ho hs hQ n done a w (Region.free_spec ho hf) (by simpa using hr) (.inr ⟨hw, rfl⟩) h

end Go.Proofs.Ytnhclpajfejnoaa
