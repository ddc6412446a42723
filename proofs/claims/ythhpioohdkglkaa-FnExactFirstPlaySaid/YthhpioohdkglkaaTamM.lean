/- What holds behind each operation of a region that draws may be added to on the way. No program stands here. -/
import Derived.Test.YthhpioohdkglkaaBut2
namespace Go.Proofs.Ythhpioohdkglkaa
open Go.RowKit

theorem Tamed.more {P : Program} {ops : Array Oper} {Q : Exit → Act → World → Prop} {md : Region.Mode} {S S2 : World → Prop} {z : Nat → Bool} (hz : ∀ k, z k = false) (hi : ∀ w, S2 w → S w) :
    ∀ (n : Nat) (done : Array Bool) (a : Act) (w : World), S2 w → Tamed P md ops Q S2 z n done a w → Tamed P md ops Q S z n done a w
  | 0, _, _, _, _, h => h
  | n + 1, _, _, _, h2, h => ⟨h.1, fun k hk => wpOp_mono (fun b v hb => ⟨fun _ _ => hi v (hb.1 (hz k) h2), Tamed.more hz hi n _ b v (hb.1 (hz k) h2) hb.2⟩) (h.2 k hk)⟩
/-- An operation whose guard says no is passed over. -/
theorem tame_no {P : Program} {ops : Array Oper} {Q : Exit → Act → World → Prop} {md : Region.Mode} {S : World → Prop} {z : Nat → Bool} {k : Nat} {o : Oper} {n : Nat} {done : Array Bool} {a : Act} {w : World} (ho : ops[k]? = some o) (hs : Region.noSelect ops = true)
    (hf : Region.free md ops done k = true) (hr : (Region.ready md ops done).contains k = true) (hQ : ∀ c a w, Q (.panic c) (a.put o.dst undef) w → Q (.panic c) a w)
    (hw : Region.wanted o (yielded ops a.tmps) = false) (h : Tamed P md ops Q S z n (done.setIfInBounds k true) (a.put o.dst undef) w) : Tamed P md ops Q S z (n + 1) done a w :=
  Tamed.firstAny ho hs hQ n done a w (Region.free_spec ho hf) (by simpa using hr) (.inr ⟨hw, rfl⟩) h
end Go.Proofs.Ythhpioohdkglkaa
