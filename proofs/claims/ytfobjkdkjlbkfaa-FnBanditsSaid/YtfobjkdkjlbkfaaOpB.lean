/- A region that draws its order, by an invariant or by facts; single operations in an act that is not a literal. -/
import Derived.Test.YtfobjkdkjlbkfaaButA
import Derived.Test.YtfobjkdkjlbkfaaTrB
import Derived.Test.YtfobjkdkjlbkfaaMk
namespace Go.Proofs.Ytfobjkdkjlbkfaa
open Go.RowKit

section
variable {P : Program} {ops : Array Oper} {Q : Exit → Act → World → Prop} {md : Region.Mode}

theorem cnt_set {l : List Bool} {k : Nat} (h : l[k]? = some false) : (l.set k true).count false + 1 = l.count false := by
  induction l generalizing k with
  | nil => simp at h
  | cons b l ih =>
    cases k with
    | zero =>
      simp at h
      subst h
      simp
    | succ k =>
      have := ih (k := k) (by simpa using h)
      rw [List.set_cons_succ, List.count_cons, List.count_cons]
      omega
theorem any_inv (I : Array Bool → Act → World → Prop)
    (hstep : ∀ done a w k, I done a w → k ∈ Region.ready md ops done → wpOp P ops Q k (fun b v => I (done.setIfInBounds k true) b v) a w)
    (hend : ∀ done a w, I done a w → Region.ready md ops done = [] → Q .normal a w) :
    ∀ n done a w, done.toList.count false ≤ n → I done a w → wpAny P md ops Q n done a w := by
  have hr : ∀ (done : Array Bool) k, k ∈ Region.ready md ops done → done.toList[k]? = some false := by
    intro done k hk
    have := (mem_ready.1 hk).1
    rw [Array.getElem?_toList]
    cases h : done[k]? with
    | none => rw [Array.getD_eq_getD_getElem?, h] at this; cases this
    | some b => rw [Array.getD_eq_getD_getElem?, h] at this; simp at this; rw [this]
  intro n
  induction n with
  | zero =>
    intro done a w hn hI
    have h0 : Region.ready md ops done = [] := by
      cases h : Region.ready md ops done with
      | nil => rfl
      | cons k l =>
        have := cnt_set (hr done k (by rw [h]; exact List.mem_cons_self))
        omega
    exact ⟨h0, hend done a w hI h0⟩
  | succ n ih =>
    intro done a w hn hI
    refine ⟨hend done a w hI, fun k hk => wpOp_mono (fun b v hb => ih _ b v ?_ hb) (hstep done a w k hI hk)⟩
    have := cnt_set (hr done k hk)
    rw [Array.toList_setIfInBounds]
    omega
theorem wp_region_inv {id : Nat} {a : Act} {w : World} (hm : P.follows .mixedOrders = true) (I : Array Bool → Act → World → Prop) (h0 : I (Array.replicate ops.size false) a w.drew)
    (hstep : ∀ done a w k, I done a w → k ∈ Region.ready .any ops done → wpOp P ops Q k (fun b v => I (done.setIfInBounds k true) b v) a w)
    (hend : ∀ done a w, I done a w → Region.ready .any ops done = [] → Q .normal a w) : (Code.region id ops true).wp P Q a w := by
  refine wp_region_any hm (any_inv I hstep hend _ _ _ _ ?_ h0)
  rw [Array.toList_replicate, List.count_replicate_self]
  exact Nat.le_refl _
end

section
variable {P : Program} {ops : Array Oper} {Q : Exit → Act → World → Prop}

/-- What operation k left: its slot's value and the world. 'use k' is the operation that consumes it: behind that one nothing is said. -/
def Left (ops : Array Oper) (F : Nat → Value → World → Prop) (k : Nat) (a : Act) (w : World) : Prop :=
  ∀ o, ops[k]? = some o → match o.dst with
    | some d => ∃ u, a.tmps[d]? = some u ∧ F k u w
    | none => F k undef w
structure Facts (ops : Array Oper) (F : Nat → Value → World → Prop) (A : Value → Value → Prop) (use : Nat → Nat) (G : Array Bool → World → Prop) (a0 : Act) (done : Array Bool) (a : Act) (w : World) : Prop where
  grow : G done w
  defs : a.defers = a0.defers
  size : a.tmps.size = a0.tmps.size
  rest : ∀ s, (∀ (k : Nat) (o : Oper), ops[k]? = some o → o.dst ≠ some s) → a.tmps[s]? = a0.tmps[s]?
  left : ∀ k, done.getD k false = true → done.getD (use k) false = false → Left ops F k a w
  pair : ∀ (j k d e : Nat) (oj ok : Oper) (x y : Value), j ≠ k → done.getD j false = true → done.getD (use j) false = false → done.getD k false = true → done.getD (use k) false = false →
    ops[j]? = some oj → ops[k]? = some ok → oj.dst = some d → ok.dst = some e → a.tmps[d]? = some x → a.tmps[e]? = some y → A x y

/-- Each slot is written once, and lies in the act. -/
def onceB (ops : Array Oper) (n : Nat) : Bool := (List.range ops.size).all fun j => match ops[j]? with
  | some oj => (match oj.dst with
    | some d => decide (d < n) && (List.range ops.size).all fun k => k == j || (match ops[k]? with
      | some ok => ok.dst != some d
      | none => true)
    | none => true) && oj.guard.isNone
  | none => true
theorem once_of {n j d : Nat} {oj : Oper} (h : onceB ops n = true) (hj : ops[j]? = some oj) (hd : oj.dst = some d) : d < n ∧ ∀ k ok, ops[k]? = some ok → k ≠ j → ok.dst ≠ some d := by
  have hjs : j < ops.size := (Array.getElem?_eq_some_iff.1 hj).1
  have := List.all_eq_true.1 h j (List.mem_range.2 hjs)
  rw [hj] at this
  simp only [hd, Bool.and_eq_true, decide_eq_true_eq] at this
  refine ⟨this.1.1, fun k ok hk hne => ?_⟩
  have hks : k < ops.size := (Array.getElem?_eq_some_iff.1 hk).1
  have := List.all_eq_true.1 this.1.2 k (List.mem_range.2 hks)
  rw [hk] at this
  simpa [hne] using this
theorem unguarded {n j : Nat} {oj : Oper} (h : onceB ops n = true) (hj : ops[j]? = some oj) : oj.guard = none := by
  have hjs : j < ops.size := (Array.getElem?_eq_some_iff.1 hj).1
  have := List.all_eq_true.1 h j (List.mem_range.2 hjs)
  rw [hj] at this
  simp only [Bool.and_eq_true] at this
  exact Option.isNone_iff_eq_none.1 this.2

/-- What a step must show. -/
def Stp (ops : Array Oper) (F : Nat → Value → World → Prop) (A : Value → Value → Prop) (use : Nat → Nat) (G : Array Bool → World → Prop) (done : Array Bool) (k : Nat) (o : Oper) (a : Act) (w : World) : Act → World → Prop := fun b v =>
  ∃ u, b = a.put o.dst u ∧ F k (o.dst.elim undef fun _ => u) v ∧ G (done.setIfInBounds k true) v ∧ ∀ j x, use j ≠ k → done.getD j false = true → done.getD (use j) false = false → F j x w →
    (∀ oj d, ops[j]? = some oj → oj.dst = some d → a.tmps[d]? = some x) → F j x v ∧ ∀ oj d, ops[j]? = some oj → oj.dst = some d → a.tmps[d]? = some x → A x u ∧ A u x

theorem facts_step {a0 a : Act} {w : World} {done : Array Bool} {k : Nat} {o : Oper} {F : Nat → Value → World → Prop} {A : Value → Value → Prop} {use : Nat → Nat} {G : Array Bool → World → Prop}
    (ho : onceB ops a0.tmps.size = true) (hI : Facts ops F A use G a0 done a w) (hk : k ∈ Region.ready .any ops done) (hko : ops[k]? = some o)
    (hb : o.wp P a w (Stp ops F A use G done k o a w) Q) :
    wpOp P ops Q k (fun b v => Facts ops F A use G a0 (done.setIfInBounds k true) b v) a w := by
  have hun := (mem_ready.1 hk).1
  have hg := unguarded ho hko
  have hw : Region.wanted o (yielded ops a.tmps) = true := by simp [Region.wanted, hg]
  unfold wpOp
  simp only [hko, hw, if_true]
  refine .inl (Oper.wp_mono (fun b v hbb => ?_) hb)
  obtain ⟨u, rfl, hF, hGv, hkeep⟩ := hbb
  have hsz : k < done.size := by
    rcases Nat.lt_or_ge k done.size with h | h
    · exact h
    · rw [Array.getD_eq_getD_getElem?, Array.getElem?_eq_none h] at hun
      cases hun
  refine ⟨hGv, ?_, ?_, ?_, ?_, ?_⟩
  · cases hd : o.dst <;> simp [Act.put, hI.defs]
  · cases hd : o.dst <;> simp [Act.put, hI.size]
  · intro s hs
    have hne := hs k o hko
    rw [← hI.rest s hs]
    cases hd : o.dst with
    | none => rfl
    | some d =>
      have : d ≠ s := fun h => hne (by rw [hd, h])
      simp [Act.put, Array.getElem?_setIfInBounds_ne this]
  · intro j hj huj oj hoj
    rcases Decidable.em (j = k) with rfl | hne
    · rw [hko] at hoj
      cases hoj
      cases hd : o.dst with
      | none => rw [hd] at hF; exact hF
      | some d =>
        have hdl := (once_of ho hko hd).1
        rw [hd] at hF
        exact ⟨u, by simp [Act.put, hI.size, hdl], hF⟩
    · rw [getD_set_ne false (Ne.symm hne)] at hj
      have huk : use j ≠ k := fun h => by
        rw [h, Array.getD_eq_getD_getElem?, Array.getElem?_setIfInBounds_self_of_lt hsz] at huj
        cases huj
      rw [getD_set_ne false (Ne.symm huk)] at huj
      have hL := hI.left j hj huj oj hoj
      cases hd : oj.dst with
      | none =>
        rw [hd] at hL
        exact (hkeep j _ huk hj huj hL fun oj' d' h1 h2 => by rw [hoj] at h1; cases h1; rw [hd] at h2; cases h2).1
      | some d =>
        rw [hd] at hL
        obtain ⟨x, hx, hFx⟩ := hL
        refine ⟨x, ?_, (hkeep j _ huk hj huj hFx fun oj' d' h1 h2 => by rw [hoj] at h1; cases h1; rw [hd] at h2; cases h2; exact hx).1⟩
        have hdk := (once_of ho hoj hd).2 k o hko (Ne.symm hne)
        cases hdo : o.dst with
        | none => exact hx
        | some e =>
          have : e ≠ d := fun h => hdk (by rw [hdo, h])
          simp [Act.put, Array.getElem?_setIfInBounds_ne this, hx]
  · have old : ∀ (j d : Nat) (oj : Oper) (x : Value), j ≠ k → ops[j]? = some oj → oj.dst = some d → (a.put o.dst u).tmps[d]? = some x → a.tmps[d]? = some x := by
      intro j d oj x hne hoj hd hx
      have hdk := (once_of ho hoj hd).2 k o hko (Ne.symm hne)
      cases hdo : o.dst with
      | none => rw [hdo] at hx; exact hx
      | some e =>
        have : e ≠ d := fun h => hdk (by rw [hdo, h])
        rw [hdo] at hx
        simpa [Act.put, Array.getElem?_setIfInBounds_ne this] using hx
    have new : ∀ (d : Nat) (x : Value), o.dst = some d → (a.put o.dst u).tmps[d]? = some x → x = u := by
      intro d x hd hx
      have hdl := (once_of ho hko hd).1
      rw [hd] at hx
      simp [Act.put, hI.size, hdl] at hx
      exact hx.symm
    have live : ∀ j, (done.setIfInBounds k true).getD (use j) false = false → use j ≠ k ∧ done.getD (use j) false = false := by
      intro j huj
      have huk : use j ≠ k := fun h => by
        rw [h, Array.getD_eq_getD_getElem?, Array.getElem?_setIfInBounds_self_of_lt hsz] at huj
        cases huj
      rw [getD_set_ne false (Ne.symm huk)] at huj
      exact ⟨huk, huj⟩
    intro j i d e oj oi x y hji hj huj hi hui hoj hoi hd he hx hy
    obtain ⟨huk, huj2⟩ := live j huj
    obtain ⟨hik, hui2⟩ := live i hui
    clear huj hui
    rcases Decidable.em (j = k) with rfl | hjk
    · rw [hko] at hoj
      cases hoj
      rw [getD_set_ne false hji] at hi
      have hy' := old i e oi y (Ne.symm hji) hoi he hy
      have hL := hI.left i hi hui2 oi hoi
      rw [he] at hL
      obtain ⟨y', hy2, hFy⟩ := hL
      rw [hy'] at hy2
      cases hy2
      rw [new d x hd hx]
      exact ((hkeep i y hik hi hui2 hFy fun oj' d' h1 h2 => by rw [hoi] at h1; cases h1; rw [he] at h2; cases h2; exact hy').2 oi e hoi he hy').2
    · have hx' := old j d oj x hjk hoj hd hx
      rw [getD_set_ne false (Ne.symm hjk)] at hj
      have hL := hI.left j hj huj2 oj hoj
      rw [hd] at hL
      obtain ⟨x', hx2, hFx⟩ := hL
      rw [hx'] at hx2
      cases hx2
      rcases Decidable.em (i = k) with rfl | hne
      · rw [hko] at hoi
        cases hoi
        rw [new e y he hy]
        exact ((hkeep j x huk hj huj2 hFx fun oj' d' h1 h2 => by rw [hoj] at h1; cases h1; rw [hd] at h2; cases h2; exact hx').2 oj d hoj hd hx').1
      · rw [getD_set_ne false (Ne.symm hne)] at hi
        exact hI.pair j i d e oj oi x y hji hj huj2 hi hui2 hoj hoi hd he hx' (old i e oi y hne hoi he hy)
theorem wp_region_facts {id : Nat} {a0 : Act} {w0 : World} (hm : P.follows .mixedOrders = true) (F : Nat → Value → World → Prop) (A : Value → Value → Prop) (use : Nat → Nat) (G : Array Bool → World → Prop)
    (ho : onceB ops a0.tmps.size = true) (hG : G (Array.replicate ops.size false) w0.drew)
    (hop : ∀ k o, ops[k]? = some o → ∀ done a w, Facts ops F A use G a0 done a w → k ∈ Region.ready .any ops done →
      o.wp P a w (Stp ops F A use G done k o a w) Q)
    (hend : ∀ done a w, Facts ops F A use G a0 done a w → Region.ready .any ops done = [] → Q .normal a w) : (Code.region id ops true).wp P Q a0 w0 := by
  refine wp_region_inv hm (Facts ops F A use G a0) ⟨hG, rfl, rfl, fun _ _ => rfl, fun k hk => ?_, fun j _ _ _ _ _ _ _ _ hj => ?_⟩ ?_ hend
  · rw [Array.getD_eq_getD_getElem?, Array.getElem?_replicate] at hk
    split at hk <;> cases hk
  · rw [Array.getD_eq_getD_getElem?, Array.getElem?_replicate] at hj
    split at hj <;> cases hj
  · intro done a w k hI hk
    obtain ⟨_, o, hko, _⟩ := mem_ready.1 hk
    exact facts_step ho hI hk hko (hop k o hko done a w hI hk)

/-- Operation k waits for operation j. -/
def depB (md : Region.Mode) (ops : Array Oper) (k j : Nat) : Bool := match ops[k]? with
  | some o => o.after.any fun e => Region.binds md e && e.on == j
  | none => false
theorem ready_dep {md : Region.Mode} {done : Array Bool} {k j : Nat} (hk : k ∈ Region.ready md ops done) (h : depB md ops k j = true) : done.getD j false = true := by
  obtain ⟨_, o, ho, hall⟩ := mem_ready.1 hk
  unfold depB at h
  rw [ho] at h
  obtain ⟨e, he, hb⟩ := Array.any_eq_true'.1 h
  rw [Bool.and_eq_true, beq_iff_eq] at hb
  rw [← hb.2]
  exact hall e he hb.1
theorem ready_new {md : Region.Mode} {done : Array Bool} {k : Nat} (hk : k ∈ Region.ready md ops done) : done.getD k false = false := by
  have := (mem_ready.1 hk).1
  rw [Array.getD_eq_getD_getElem?] at this ⊢
  cases h : done[k]? with
  | none => rfl
  | some b => rw [h] at this; simpa using this
/-- The fact of a forerunner that k alone consumes. -/
theorem Facts.at {F : Nat → Value → World → Prop} {A : Value → Value → Prop} {use : Nat → Nat} {G : Array Bool → World → Prop} {a0 a : Act} {done : Array Bool} {w : World} {k j d : Nat} {oj : Oper} (h : Facts ops F A use G a0 done a w)
    (hk : k ∈ Region.ready .any ops done) (hdep : depB .any ops k j = true) (hu : use j = k) (hj : ops[j]? = some oj) (hd : oj.dst = some d) : ∃ u, a.tmps[d]? = some u ∧ F j u w := by
  have := h.left j (ready_dep hk hdep) (by rw [hu]; exact ready_new hk) oj hj
  rw [hd] at this
  exact this
theorem act_lit (a : Act) {n : Nat} (h : a.tmps.size = n) : a.tmps = ((List.range n).map fun i => a.tmps.getD i undef).toArray := by
  subst h
  apply Array.ext
  · simp
  · intro i h1 h2
    simp [Array.getD_eq_getD_getElem?, h1]
end

section
variable {P : Program} {ops : Array Oper} {Q : Exit → Act → World → Prop}

/-- Each operation waits for earlier ones only. -/
def earlyB (ops : Array Oper) : Bool := (List.range ops.size).all fun k => match ops[k]? with
  | some o => o.after.all fun e => !(Region.binds .any e) || decide (e.on < k)
  | none => true
theorem all_done {done : Array Bool} (he : earlyB ops = true) (hs : done.size = ops.size) (hr : Region.ready .any ops done = []) : ∀ k, k < ops.size → done.getD k false = true := by
  intro k
  induction k using Nat.strongRecOn with
  | ind k ih =>
    intro hk
    cases hd : done.getD k false with
    | true => rfl
    | false =>
      exfalso
      have hko : ops[k]? = some ops[k] := Array.getElem?_eq_getElem hk
      have h1 := List.all_eq_true.1 he k (List.mem_range.2 hk)
      rw [hko] at h1
      have hd' : done.getD k true = false := by
        have hkd : k < done.size := by omega
        rw [Array.getD_eq_getD_getElem?, Array.getElem?_eq_getElem hkd] at hd ⊢
        exact hd
      have : k ∈ Region.ready .any ops done := by
        refine mem_ready.2 ⟨hd', _, hko, fun e hem hb => ?_⟩
        have h2 := Array.all_eq_true'.1 h1 e hem
        rw [hb, Bool.not_true, Bool.false_or, decide_eq_true_eq] at h2
        exact ih _ h2 (by omega)
      rw [hr] at this
      cases this
def lastB (ops : Array Oper) (last : Nat) : Bool := (List.range ops.size).all fun j => j == last || depB .any ops last j
theorem wp_region_last {id : Nat} {a0 : Act} {w0 : World} (last : Nat) (hm : P.follows .mixedOrders = true) (F : Nat → Value → World → Prop) (A : Value → Value → Prop) (use : Nat → Nat) (G : Array Bool → World → Prop)
    (ho : onceB ops a0.tmps.size = true) (he : earlyB ops = true) (hl : lastB ops last = true) (hls : last < ops.size) (hG : G (Array.replicate ops.size false) w0.drew)
    (hop : ∀ k o, k ≠ last → ops[k]? = some o → ∀ done a w, Facts ops F A use G a0 done a w → k ∈ Region.ready .any ops done →
      o.wp P a w (Stp ops F A use G done k o a w) Q)
    (hlast : ∀ o, ops[last]? = some o → ∀ done a w, Facts ops F A use G a0 done a w → last ∈ Region.ready .any ops done → o.wp P a w (fun b v => Q .normal b v) Q) : (Code.region id ops true).wp P Q a0 w0 := by
  have h0 : Facts ops F A use G a0 (Array.replicate ops.size false) a0 w0.drew := by
    have hf : ∀ k, (Array.replicate ops.size false).getD k false = true → False := by
      intro k hk
      rw [Array.getD_eq_getD_getElem?, Array.getElem?_replicate] at hk
      split at hk <;> cases hk
    exact ⟨hG, rfl, rfl, fun _ _ => rfl, fun k hk => (hf k hk).elim, fun j _ _ _ _ _ _ _ _ hj => (hf j hj).elim⟩
  refine wp_region_inv hm (fun done a w => done.size = ops.size ∧ ((done.getD last false = true ∧ Q .normal a w ∧ ∀ k, k < ops.size → done.getD k false = true) ∨ (done.getD last false = false ∧ Facts ops F A use G a0 done a w))) ⟨by simp, .inr ⟨?_, h0⟩⟩ ?_ ?_
  · simp [Array.getD_eq_getD_getElem?, hls]
  · rintro done a w k ⟨hs, hI⟩ hk
    obtain ⟨hun, o, hko, _⟩ := mem_ready.1 hk
    have hks : k < ops.size := (Array.getElem?_eq_some_iff.1 hko).1
    have hnew := ready_new hk
    rcases hI with ⟨_, _, hall⟩ | ⟨hnl, hI⟩
    · rw [hall k hks] at hnew
      cases hnew
    · rcases Decidable.em (k = last) with rfl | hne
      · have hw : Region.wanted o (yielded ops a.tmps) = true := by simp [Region.wanted, unguarded ho hko]
        unfold wpOp
        simp only [hko, hw, if_true]
        refine .inl (Oper.wp_mono (fun b v hb => ⟨by simp [hs], .inl ⟨?_, hb, ?_⟩⟩) (hlast o hko done a w hI hk))
        · simp [Array.getD_eq_getD_getElem?, hs, hks]
        · intro j hj
          rcases Decidable.em (j = k) with rfl | hjk
          · simp [Array.getD_eq_getD_getElem?, hs, hks]
          · rw [getD_set_ne false (Ne.symm hjk)]
            have := List.all_eq_true.1 hl j (List.mem_range.2 hj)
            rw [Bool.or_eq_true, beq_iff_eq] at this
            exact ready_dep hk (this.resolve_left hjk)
      · refine wpOp_mono (fun b v hb => ⟨by simp [hs], .inr ⟨?_, hb⟩⟩) (facts_step ho hI hk hko (hop k o hne hko done a w hI hk))
        rw [getD_set_ne false hne]
        exact hnl
  · rintro done a w ⟨hs, hI⟩ hr
    rcases hI with ⟨_, hQ, _⟩ | ⟨hnl, _⟩
    · exact hQ
    · rw [all_done he hs hr last hls] at hnl
      cases hnl
end


section
variable {P : Program} {o : Oper} {a : Act} {w : World} {K : Act → World → Prop} {Q : Exit → Act → World → Prop}

theorem eval_tmp {d : Nat} {u : Value} (h : a.tmps[d]? = some u) : a.eval (.tmp d) = u := by
  simp [Act.eval, h]
theorem op_val {v : Value} (hrun : (execOp a.eval o).run P w = .ok (.value v) w) (h : K (a.put o.dst v) w) : o.wp P a w K Q := by
  unfold Oper.wp
  simp [hrun]
  exact h
theorem op_move {x : Operand} {v : Value} (hop : o.op = .move x) (hv : a.eval x = v) (h : K (a.put o.dst v) w) : o.wp P a w K Q :=
  op_val (by simp [execOp, hop, hv]) h
theorem op_to {v : Value} {w' : World} (hrun : (execOp a.eval o).run P w = .ok (.value v) w') (h : K (a.put o.dst v) w') : o.wp P a w K Q := by
  unfold Oper.wp
  rw [hrun, Oper.upon_value]
  exact h
theorem op_call {f : FuncId} {args : Array Value} {R : Ending → World → Prop} (hrun : (execOp a.eval o).run P w = .ok (.enter f args) w) (hc : Calls P f args w R) (h : ∀ e w', R e w' → ∃ v, e = .returned v ∧ K (a.put o.dst v) w') : o.wp P a w K Q := by
  unfold Oper.wp
  rw [hrun, Oper.upon_enter]
  refine hc.mono ?_
  intro e w' he
  obtain ⟨v, rfl, hk⟩ := h e w' he
  exact hk
end

section
variable {o : Oper} {a : Act} {w : World} {K : Act → World → Prop} {Q : Exit → Act → World → Prop}
theorem op_lit0 (hop : o.op = Op.buildSlice 24 0 #[]) (h : K (a.put o.dst (.slice (some ⟨w.heap.size, 0, none⟩) 0 0)) (w.alloc (.cells #[] 3))) : o.wp Try.prog a w K Q := by
  refine op_to ?_ h
  simp only [execOp, hop]
  go_simp
theorem op_lit1 {x : Operand} {i : Int} (hop : o.op = Op.buildSlice 24 1 #[(0, x)]) (hx : a.eval x = .int .i64 i) (h : K (a.put o.dst (.slice (some ⟨w.heap.size, 0, none⟩) 1 1)) (w.alloc (.cells #[.int .i64 i] 3))) : o.wp Try.prog a w K Q := by
  refine op_to ?_ h
  simp only [execOp, hop]
  simp [hx]
  go_simp
end

section
variable {o : Oper} {a : Act} {w : World} {K : Act → World → Prop} {Q : Exit → Act → World → Prop}
theorem op_add {x y : Operand} {i j : Int} (hop : o.op = Op.binOp BinOp.add 3 x y 3) (hx : a.eval x = .int .i64 i) (hy : a.eval y = .int .i64 j) (hw : IntKind.i64.wrap (i + j) = i + j) (h : K (a.put o.dst (.int .i64 (i + j))) w) : o.wp Try.prog a w K Q := by
  refine op_to ?_ h
  simp only [execOp, hop]
  simp [hx, hy]
  go_simp
theorem op_build2 {x y : Operand} {A1 A2 : Option Addr} {n1 n2 c1 c2 : Nat} (hop : o.op = Op.build 26 #[(0, x), (1, y)]) (hx : a.eval x = .slice A1 n1 c1) (hy : a.eval y = .slice A2 n2 c2) (h : K (a.put o.dst (.agg #[.slice A1 n1 c1, .slice A2 n2 c2])) w) : o.wp Try.prog a w K Q := by
  refine op_to ?_ h
  simp only [execOp, hop]
  simp [hx, hy]
  go_simp
end

section
variable {o : Oper} {a : Act} {w : World} {K : Act → World → Prop} {Q : Exit → Act → World → Prop}
theorem op_build3 {x y : Operand} {A1 A2 A3 : Option Addr} {n1 n2 n3 c1 c2 c3 : Nat} (hop : o.op = Op.build 28 #[(0, x), (1, y)]) (hx : a.eval x = .agg #[.slice A1 n1 c1, .slice A2 n2 c2]) (hy : a.eval y = .slice A3 n3 c3) (h : K (a.put o.dst (.agg #[.slice A1 n1 c1, .slice A2 n2 c2, .slice A3 n3 c3])) w) : o.wp Try.prog a w K Q := by
  refine op_to ?_ h
  simp only [execOp, hop]
  simp [hx, hy]
  go_simp
theorem op_box (hop : o.op = Op.alloc 28) (h : K (a.put o.dst (.pointer (some ⟨w.heap.size, 0, none⟩))) (w.alloc (.cells #[.slice none 0 0, .slice none 0 0, .slice none 0 0] 28))) : o.wp Try.prog a w K Q := by
  refine op_to ?_ h
  simp only [execOp, hop]
  go_simp
end

section
variable {o : Oper} {a : Act} {w : World} {K : Act → World → Prop} {Q : Exit → Act → World → Prop}
theorem op_fill {x y : Operand} {g : Nat} {A1 A2 A3 : Option Addr} {n1 n2 n3 c1 c2 c3 : Nat} {m1 m2 m3 : Value} (hop : o.op = Op.store 28 x y) (hx : a.eval x = .pointer (some ⟨g, 0, none⟩)) (hy : a.eval y = .agg #[.slice A1 n1 c1, .slice A2 n2 c2, .slice A3 n3 c3]) (hd : o.dst = none)
    (f0 : w.cell? ⟨g, 0, none⟩ = some m1) (f1 : w.cell? ⟨g, 1, none⟩ = some m2) (f2 : w.cell? ⟨g, 2, none⟩ = some m3) (z0 : w.frozen? ⟨g, 0, none⟩ = false) (z1 : w.frozen? ⟨g, 1, none⟩ = false) (z2 : w.frozen? ⟨g, 2, none⟩ = false)
    (h : K a (((w.setCell ⟨g, 0, none⟩ (.slice A1 n1 c1)).setCell ⟨g, 1, none⟩ (.slice A2 n2 c2)).setCell ⟨g, 2, none⟩ (.slice A3 n3 c3))) : o.wp Try.prog a w K Q := by
  unfold Oper.wp
  simp only [execOp, hop]
  simp [hx, hy]
  go_simp
  simpa [Oper.upon, Act.put, hd] using h
end

section
variable {o : Oper} {a : Act} {Q : Exit → Act → World → Prop}
theorem op_makes {K : Act → World → Prop} (w : World) (l c : Operand) (hop : o.op = Op.makeSlice 24 l c) (kl kc : IntKind) (L C : Int) (n : Nat)
    (hl : a.eval l = .int kl L) (hc : a.eval c = .int kc C) (hL : L = (n : Int)) (hC : C = (n : Int)) (hn : n ≤ 16777216)
    (hK : ∀ w', Own w' w.heap.size (some ⟨w.heap.size, 0, none⟩) n (List.replicate n 0) → Below w.heap.size w w' → K (a.put o.dst (.slice (some ⟨w.heap.size, 0, none⟩) n n)) w') :
    o.wp Try.prog a w K Q := by
  obtain ⟨i0, hi, hz0, hz1, hz2⟩ := info_parts int_info
  obtain ⟨w', hrun, r1, r2⟩ := run_make_full (P := Try.prog) w w.heap.size 24 3 i0 _ 1 Try.underlying24 hi hz0 hz1 kl kc n (by rw [hz2]; omega) (by unfold maxLen; omega) (Nat.le_refl _)
  subst hL
  subst hC
  unfold Oper.wp
  simp [execOp, hop, hl, hc, hrun, Result.andThen]
  refine hK w' (own_of _ _ _ n _ _ (by simp) ?_) (below_of_grown r2)
  rw [← madeInts]
  exact r1
/-- A call of a function with one argument. -/
theorem op_call1 {K : Act → World → Prop} {w : World} {f : FuncId} {d : Nat} {v : Value} {ts : Array TypeId} {R : Ending → World → Prop} (hop : o.op = Op.call { callee := .value (.func f), args := #[.tmp d], argTypes := ts }) (hx : a.tmps[d]? = some v) (hf : (callFunc f #[v]).run Try.prog w = .ok (.enter f #[v]) w)
    (hc : Calls Try.prog f #[v] w R) (h : ∀ e w', R e w' → ∃ u, e = .returned u ∧ K (a.put o.dst u) w') : o.wp Try.prog a w K Q := by
  refine op_call ?_ hc h
  simp only [execOp, hop]
  simp []
  go_simp

end


end Go.Proofs.Ytfobjkdkjlbkfaa
