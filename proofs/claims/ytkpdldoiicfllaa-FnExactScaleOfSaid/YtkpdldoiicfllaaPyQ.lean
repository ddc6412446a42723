/- Arms that are played: newPlaying as its users want it; the program's ScaleOf. -/
import Derived.Test.YtkpdldoiicfllaaPyN
namespace Go.Proofs.Ytkpdldoiicfllaa
open Go.RowKit

theorem heads_ss {w : World} {t : TypeId} {B c n : Nat} {A : Option Addr} {D : Nat → Prop} {H : List Value} {xss : List (List Int)} {f : Nat → List Int} (ho : OwnV t w B A c H) (hh : HeadsT Lies0 w D H n f) (hl : xss.length = n) (hf : ∀ k, k < n → rowAt xss k = f k) : RdSS w A xss := by
  intro k hk
  have hk' : k < n := by omega
  obtain ⟨g, rfl, _, _⟩ := ho.form (by rw [hh.len]; omega)
  obtain ⟨v, h1, a, c', rfl, h3, _⟩ := hh.at_ k hk'
  exact ⟨_, a, c', rfl, by rw [Addr.add_lit, Nat.zero_add, hf k hk']; exact ho.cell h1, by rw [hf k hk']; exact h3⟩
theorem newPyAt {L : List Mkd} {a b : Int} (hok : ArmsOk L a b) : NewPy L a b := by
  intro A c w h hs
  refine (newPy (.inl rfl) hok A c w h hs).mono ?_
  rintro e w' ⟨rfl, As, cs, Hs, Al, cl, Hl, Ak, ck, Hk, b8, o3, _, hb⟩
  exact ⟨_, rfl, ⟨⟨A, c, b8.c0, h.below hb (Nat.le_refl _)⟩, b8.c1, b8.c2, ⟨As, cs, b8.c3, heads_ss o3.os o3.hs (rowsF_length _ _) fun k hk => rowsF_at hk⟩, ⟨Al, cl, b8.c4, heads_ss o3.ol o3.hl (rowsF_length _ _) fun k hk => rowsF_at hk⟩⟩, hb⟩
theorem implSc_c (A : Option Addr) (L : List Mkd) (c : Nat) (a b : Int) (w : World) (h : RdMs w A L) (hs : SzMs L) :
    Calls Try.prog 10 #[.slice A L.length c, .int .i64 a, .int .i64 b] w (Quietly w (.tuple #[.int .i64 (scV L a b), .bool (armsB L a b)])) := implSc_of A L c a b newPyAt w h hs
end Go.Proofs.Ytkpdldoiicfllaa
