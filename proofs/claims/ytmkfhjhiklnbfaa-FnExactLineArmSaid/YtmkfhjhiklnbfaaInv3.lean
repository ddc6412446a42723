/- A region that draws its order, by facts, with a last operation that waits for all others. No program stands here. -/
import Derived.Test.YtmkfhjhiklnbfaaInv2
namespace Go.Proofs.Ytmkfhjhiklnbfaa
open Go.RowKit

section
variable {P : Program} {ops : Array Oper} {Q : Exit → Act → World → Prop}

/-- Each operation waits for earlier ones only. -/
def earlyB (ops : Array Oper) : Bool := (List.range ops.size).all fun k => match ops[k]? with
  | some o => o.after.all fun e => !(Region.binds .any e) || decide (e.on < k)
  | none => true
theorem all_done {done : Array Bool} (he : earlyB ops = true) (hs : done.size = ops.size) (hr : Region.ready .any ops done = []) : ∀ k, k < ops.size → done.getD k false = true := by
  intro k
  induction k using Nat.strongRecOn with
  | ind k ih =>
    intro hk
    cases hd : done.getD k false with
    | true => rfl
    | false =>
      exfalso
      have hko : ops[k]? = some ops[k] := Array.getElem?_eq_getElem hk
      have h1 := List.all_eq_true.1 he k (List.mem_range.2 hk)
      rw [hko] at h1
      have hd' : done.getD k true = false := by
        have hkd : k < done.size := by omega
        rw [Array.getD_eq_getD_getElem?, Array.getElem?_eq_getElem hkd] at hd ⊢
        exact hd
      have : k ∈ Region.ready .any ops done := by
        refine mem_ready.2 ⟨hd', _, hko, fun e hem hb => ?_⟩
        have h2 := Array.all_eq_true'.1 h1 e hem
        rw [hb, Bool.not_true, Bool.false_or, decide_eq_true_eq] at h2
        exact ih _ h2 (by omega)
      rw [hr] at this
      cases this
def lastB (ops : Array Oper) (last : Nat) : Bool := (List.range ops.size).all fun j => j == last || depB .any ops last j
theorem wp_region_last {id : Nat} {a0 : Act} {w0 : World} (last : Nat) (hm : P.follows .mixedOrders = true) (F : Nat → Value → World → Prop) (A : Value → Value → Prop) (use : Nat → Nat) (G : Array Bool → World → Prop)
    (ho : onceB ops a0.tmps.size = true) (he : earlyB ops = true) (hl : lastB ops last = true) (hls : last < ops.size) (hG : G (Array.replicate ops.size false) w0.drew)
    (hop : ∀ k o, k ≠ last → ops[k]? = some o → ∀ done a w, Facts ops F A use G a0 done a w → k ∈ Region.ready .any ops done →
      o.wp P a w (Stp ops F A use G done k o a w) Q)
    (hlast : ∀ o, ops[last]? = some o → ∀ done a w, Facts ops F A use G a0 done a w → last ∈ Region.ready .any ops done → o.wp P a w (fun b v => Q .normal b v) Q) : (Code.region id ops true).wp P Q a0 w0 := by
  have h0 : Facts ops F A use G a0 (Array.replicate ops.size false) a0 w0.drew := by
    have hf : ∀ k, (Array.replicate ops.size false).getD k false = true → False := by
      intro k hk
      rw [Array.getD_eq_getD_getElem?, Array.getElem?_replicate] at hk
      split at hk <;> cases hk
    exact ⟨hG, rfl, rfl, fun _ _ => rfl, fun k hk => (hf k hk).elim, fun j _ _ _ _ _ _ _ _ hj => (hf j hj).elim⟩
  refine wp_region_inv hm (fun done a w => done.size = ops.size ∧ ((done.getD last false = true ∧ Q .normal a w ∧ ∀ k, k < ops.size → done.getD k false = true) ∨ (done.getD last false = false ∧ Facts ops F A use G a0 done a w))) ⟨by simp, .inr ⟨?_, h0⟩⟩ ?_ ?_
  · simp [Array.getD_eq_getD_getElem?, hls]
  · rintro done a w k ⟨hs, hI⟩ hk
    obtain ⟨hun, o, hko, _⟩ := mem_ready.1 hk
    have hks : k < ops.size := (Array.getElem?_eq_some_iff.1 hko).1
    have hnew := ready_new hk
    rcases hI with ⟨_, _, hall⟩ | ⟨hnl, hI⟩
    · rw [hall k hks] at hnew
      cases hnew
    · rcases Decidable.em (k = last) with rfl | hne
      · have hw : Region.wanted o (yielded ops a.tmps) = true := by simp [Region.wanted, unguarded ho hko]
        unfold wpOp
        simp only [hko, hw, if_true]
        refine .inl (Oper.wp_mono (fun b v hb => ⟨by simp [hs], .inl ⟨?_, hb, ?_⟩⟩) (hlast o hko done a w hI hk))
        · simp [Array.getD_eq_getD_getElem?, hs, hks]
        · intro j hj
          rcases Decidable.em (j = k) with rfl | hjk
          · simp [Array.getD_eq_getD_getElem?, hs, hks]
          · rw [getD_set_ne false (Ne.symm hjk)]
            have := List.all_eq_true.1 hl j (List.mem_range.2 hj)
            rw [Bool.or_eq_true, beq_iff_eq] at this
            exact ready_dep hk (this.resolve_left hjk)
      · refine wpOp_mono (fun b v hb => ⟨by simp [hs], .inr ⟨?_, hb⟩⟩) (facts_step ho hI hk hko (hop k o hne hko done a w hI hk))
        rw [getD_set_ne false hne]
        exact hnl
  · rintro done a w ⟨hs, hI⟩ hr
    rcases hI with ⟨_, hQ, _⟩ | ⟨hnl, _⟩
    · exact hQ
    · rw [all_done he hs hr last hls] at hnl
      cases hnl
end
end Go.Proofs.Ytmkfhjhiklnbfaa
