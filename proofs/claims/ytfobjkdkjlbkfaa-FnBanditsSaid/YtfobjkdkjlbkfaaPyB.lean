/- Memos and new playings (merged of MemW PyB). -/
import Derived.Test.YtfobjkdkjlbkfaaBase
import Derived.Maps.OwnSet
import Derived.DeepKeys4
import Derived.Test.YtfobjkdkjlbkfaaPyA
import Derived.Test.YtfobjkdkjlbkfaaPlaA
namespace Go.Proofs.Ytfobjkdkjlbkfaa
open Go.RowKit
open Go.RowKit Go.Maps Go.ChangeMaps Go.MapKept

def atV (X : Nat → Nat) : Value := .agg #[.int .i64 (X 0 : Nat), .int .i64 (X 1 : Nat), .int .i64 (X 2 : Nat)]
theorem memLaw : Keyed Try.prog 95 := Keyed.of_law (deep_law_laid (m := 2) (by kernel_rfl) (by omega) (of_decide_eq_true (by kernel_rfl)) (by kernel_rfl) (by kernel_rfl))
theorem memZero (w : World) : (zeroValue 3).run Try.prog w = .ok (.int .i64 0) w := by kernel_rfl
theorem memCells : Try.prog.cellsOf 95 = 3 := by kernel_rfl
theorem intCells : Try.prog.cellsOf 3 = 1 := by kernel_rfl
theorem keyInt {n : Int} (h : (Lit.int .i64 n).wf = true) (d : Nat) : Try.prog.keyLits (d + 1) 3 [.int .i64 n] = some [.int .i64 n] := by simp [Program.keyLits, Try.underlying3, h]
theorem keyArr {x y z : Int} (hx : (Lit.int .i64 x).wf = true) (hy : (Lit.int .i64 y).wf = true) (hz : (Lit.int .i64 z).wf = true) (d : Nat) : Try.prog.keyLits (d + 2) 95 [.int .i64 x, .int .i64 y, .int .i64 z] = some [.int .i64 x, .int .i64 y, .int .i64 z] := by
  simp [Program.keyLits, Try.underlying95, Try.underlying3, memCells, intCells, show List.range 3 = [0, 1, 2] from by decide, hx, hy, hz]
theorem memKeyT : Try.prog.keyType 95 = true := by kernel_rfl
theorem memTypes : Try.prog.types.size + 1 = (Try.prog.types.size - 1) + 2 := by
  have : 1 ≤ Try.prog.types.size := of_decide_eq_true (by kernel_rfl)
  omega
theorem memKey {x y z : Int} (hx : (Lit.int .i64 x).wf = true) (hy : (Lit.int .i64 y).wf = true) (hz : (Lit.int .i64 z).wf = true) : ∃ kl, keyOf Try.prog 95 (.agg #[.int .i64 x, .int .i64 y, .int .i64 z]) = some kl := by
  refine ⟨.string (keyBytes [.int .i64 x, .int .i64 y, .int .i64 z]), ?_⟩
  have h := keyArr hx hy hz (Try.prog.types.size - 1)
  rw [← memTypes] at h
  have hf : (Value.agg #[Value.int .i64 x, Value.int .i64 y, Value.int .i64 z]).formed Try.prog 95 = true := by simp [Value.formed, Try.underlying95, memCells]
  have hc : (Value.agg #[Value.int .i64 x, Value.int .i64 y, Value.int .i64 z]).cells.toList = [.int .i64 x, .int .i64 y, .int .i64 z] := rfl
  unfold keyOf
  rw [Try.underlying95]
  simp only [memKeyT, hf, Bool.and_self, if_true, hc, h, Option.map_some]
theorem wf_nat {n : Nat} (h : n < 1048576) : (Lit.int .i64 (n : Int)).wf = true := WalkArith.wf_i64 (by omega)
/-- Places that are small. -/
def SmallAt (X : Nat → Nat) : Prop := ∀ k, k < 3 → X k < 1048576
theorem atV_key {X : Nat → Nat} (h : SmallAt X) : ∃ kl, keyOf Try.prog 95 (atV X) = some kl := memKey (wf_nat (h 0 (by decide))) (wf_nat (h 1 (by decide))) (wf_nat (h 2 (by decide)))
theorem atV_inj {X Y : Nat → Nat} (h : atV X = atV Y) : ∀ k, k < 3 → X k = Y k := by
  simp only [atV, Value.agg.injEq, Array.mk.injEq, List.cons.injEq, Value.int.injEq, true_and, and_true] at h
  intro k hk
  match k, hk with
  | 0, _ => exact Int.ofNat_inj.1 h.1
  | 1, _ => exact Int.ofNat_inj.1 h.2.1
  | 2, _ => exact Int.ofNat_inj.1 h.2.2
/-- Block g is a memo of at most n entries: what stands at places that are ok is V. -/
def MemoOk (w : World) (g n : Nat) (ok : (Nat → Nat) → Prop) (V : (Nat → Nat) → Int) : Prop :=
  ∃ l : List (Lit × DataW Unit), w.ownsMap Try.prog 95 (plainElem Try.prog 3) g n (.map l) ∧ ∀ p ∈ l, ∀ X, ok X → keyOf Try.prog 95 (atV X) = some p.1 → p.2 = .lit (.int .i64 (V X))
section
variable {w w' : World} {g n : Nat} {ok : (Nat → Nat) → Prop} {V : (Nat → Nat) → Int}
theorem MemoOk.kept {row : Option Nat} (h : MemoOk w g n ok V) (hg : w.grownBy w' row) (hne : some g ≠ row) : MemoOk w' g n ok V := by
  obtain ⟨l, h1, h2⟩ := h
  exact ⟨l, h1.kept hg hne, h2⟩
theorem MemoOk.same (h : MemoOk w g n ok V) (hg : w'.heap[g]? = w.heap[g]?) : MemoOk w' g n ok V := by
  obtain ⟨l, ⟨es, clock, hb, F, hs, hD⟩, h2⟩ := h
  exact ⟨l, ⟨es, clock, hg.trans hb, F, hs, hD⟩, h2⟩
theorem MemoOk.mono (h : MemoOk w g n ok V) {n' : Nat} (hn : n ≤ n') : MemoOk w g n' ok V := by
  obtain ⟨l, h1, h2⟩ := h
  exact ⟨l, h1.mono hn, h2⟩
theorem memo_new {g : Nat} (hb : w.heap[g]? = some (.map #[] 0)) (ok : (Nat → Nat) → Prop) (V : (Nat → Nat) → Int) : MemoOk w g 0 ok V := by
  have h := World.ownsMap_made (H := Unit) ({ w with heap := #[] } : World) Try.prog 95 (plainElem Try.prog 3)
  obtain ⟨es, clock, hb', F, hs, hD⟩ := h
  have e : some (Obj.map #[] 0) = some (.map es clock) := by
    rw [← hb']
    simp [World.alloc]
  simp only [Option.some.injEq, Obj.map.injEq] at e
  obtain ⟨rfl, rfl⟩ := e
  exact ⟨[], ⟨_, _, hb, F, hs, hD⟩, fun p hp => by cases hp⟩
theorem MemoOk.look (h : MemoOk w g n ok V) {X : Nat → Nat} (hX : ok X) (hs : SmallAt X) :
    ∃ (c : Int) (b : Bool), (∀ w' : World, w'.heap[g]? = w.heap[g]? → (Instr.lookup 109 (.map (some g)) (atV X) true).run Try.prog w' = .ok (.tuple #[.int .i64 c, .bool b]) w') ∧ (b = true → c = V X) := by
  obtain ⟨kl, hkl⟩ := atV_key hs
  obtain ⟨l, h1, h2⟩ := h
  have all : ∀ w' : World, w'.heap[g]? = w.heap[g]? → w'.ownsMap Try.prog 95 (plainElem (H := Unit) Try.prog 3) g n (.map l) := fun w' hg => by
    obtain ⟨es, clock, hb, F, hs, hD⟩ := h1
    exact ⟨es, clock, hg.trans hb, F, hs, hD⟩
  have one : ∀ w' : World, w'.heap[g]? = w.heap[g]? → ∃ c : Int, (Instr.lookup 109 (.map (some g)) (atV X) true).run Try.prog w' = .ok (.tuple #[.int .i64 c, .bool (Maps.has (DataW.map l) kl)]) w' ∧ (DataW.map l).atKey kl (.lit (.int .i64 0)) = .lit (.int .i64 c) := fun w' hg => by
    obtain ⟨v, ps, hrun, hv⟩ := (all w' hg).look_ok memLaw Try.underlying109 (memZero w') (plainElem_int Try.underlying3 (by decide)) hkl
    obtain ⟨c, rfl, hc, _⟩ := plainElem_int_inv Try.underlying3 hv
    exact ⟨c, hrun, congrArg Prod.fst hc⟩
  obtain ⟨c, _, hat⟩ := one w rfl
  refine ⟨c, Maps.has (DataW.map l) kl, fun w' hg => ?_, fun hb => ?_⟩
  · obtain ⟨c', hrun, hat'⟩ := one w' hg
    rw [hat] at hat'
    simp only [DataW.lit.injEq, Lit.int.injEq, true_and] at hat'
    rw [hat']
    exact hrun
  · unfold Maps.has at hb
    have hb := hb
    simp only [List.any_eq_true] at hb
    obtain ⟨p, hp, hk⟩ := hb
    unfold DataW.atKey at hat
    simp only at hat
    cases hf : l.find? (fun p => p.1.sameKey kl) with
    | none =>
      have := List.find?_eq_none.1 hf p hp
      rw [hk] at this
      exact absurd rfl this
    | some q =>
      rw [hf] at hat
      have hq := List.find?_some hf
      have hqm := List.mem_of_find?_eq_some hf
      have e1 : q.1 = kl := by
        have h3 : ¬ notKey kl q = true := by simp [notKey, hq]
        rw [notKey_iff (memLaw.key hkl)] at h3
        exact Classical.not_not.1 h3
      have := h2 q hqm X hX (by rw [e1]; exact hkl)
      simp only at hat
      rw [this] at hat
      simp only [DataW.lit.injEq, Lit.int.injEq, true_and] at hat
      exact hat.symm
theorem mem_insert {x p : Lit × DataW Unit} : ∀ {l : List (Lit × DataW Unit)}, p ∈ DataW.insert x l → p = x ∨ p ∈ l := by
  intro l
  induction l with
  | nil => intro h; exact .inl (by simpa [DataW.insert] using h)
  | cons y r ih =>
    intro h
    unfold DataW.insert at h
    split at h
    · rcases List.mem_cons.1 h with h | h
      · exact .inl h
      · exact .inr h
    · rcases List.mem_cons.1 h with h | h
      · exact .inr (h ▸ List.mem_cons_self)
      · exact (ih h).imp id (List.mem_cons_of_mem _)
theorem MemoOk.store (h : MemoOk w g n ok V) {X : Nat → Nat} (hs : SmallAt X) (hn : n < maxLen) {v : Int} (hwf : (Lit.int .i64 v).wf = true) (hv : ∀ Y, ok Y → atV Y = atV X → V Y = v) :
    ∃ w', (Instr.mapUpdate 109 (.map (some g)) (atV X) (.int .i64 v)).run Try.prog w = .ok () w' ∧ MemoOk w' g (n + 1) ok V ∧ w.mapTurned w' g := by
  obtain ⟨kl, hkl⟩ := atV_key hs
  obtain ⟨l, h1, h2⟩ := h
  obtain ⟨w', hrun, ho, ht⟩ := h1.store memLaw Try.underlying109 hn hkl (plainElem_int Try.underlying3 hwf)
  refine ⟨w', hrun, ⟨_, ho, fun p hp Y hY hkY => ?_⟩, ht⟩
  rcases mem_insert hp with rfl | hp
  · rw [hv Y hY (memLaw.inj hkY hkl)]
  · exact h2 p (List.mem_filter.1 hp).1 Y hY hkY
end

open Go.RowKit Go.Maps

def kidRows (m : Mkd) : List (List Int) := (List.range m.P.length).map fun (x : Nat) => kids m.P x
theorem kidRows_len (m : Mkd) : (kidRows m).length = m.P.length := by simp [kidRows]
theorem kidRows_at {m : Mkd} {x : Nat} (h : x < m.P.length) : rowAt (kidRows m) x = kids m.P x := by simp [rowAt, kidRows, h]
/-- The children of all nodes of all arms. -/
def RdK (w : World) (A : Option Addr) (L : List Mkd) : Prop := ∀ k, k < L.length → ∃ ad A' c, A = some ad ∧ w.cell? (ad.add k) = some (.slice A' (mAt L k).P.length c) ∧ RdSS w A' (kidRows (mAt L k))
theorem RdK.keep {w w' : World} {A : Option Addr} {L : List Mkd} (h : RdK w A L) (hk : ∀ p : Addr, p.block < w.heap.size → w'.cell? p = w.cell? p) : RdK w' A L := fun k hk' => by
  obtain ⟨ad, A', c, rfl, h1, h2⟩ := h k hk'
  exact ⟨ad, A', c, rfl, (hk _ (cell_lt h1)).trans h1, h2.keep hk⟩
theorem lies_k {w : World} {A : Option Addr} {c g : Nat} {L : List Mkd} {D : Nat → Prop} {H : List Value} (ho : OwnV 68 w (g + 1) A c H) (hh : HeadsT (LiesR Lies0) w D H L.length fun j => ((mAt L j).P.length, fun x => kids (mAt L j).P x)) : RdK w A L := fun k hk => by
  obtain ⟨r, rfl, _, _⟩ := ho.form (by rw [hh.len]; omega)
  obtain ⟨v, h1, a, c', rfl, h3, _⟩ := hh.at_ k hk
  refine ⟨_, a, c', rfl, by rw [Addr.add_lit, Nat.zero_add]; exact ho.cell h1, fun x hx => ?_⟩
  rw [kidRows_len] at hx
  obtain ⟨ad, v2, rfl, h4, a2, c2, rfl, h5, _⟩ := h3 x hx
  exact ⟨ad, a2, c2, rfl, by rw [kidRows_at hx]; exact h4, by rw [kidRows_at hx]; exact h5⟩
/-- A plan as a value, and what it needs of the world. -/
structure Plv where
  v : Value
  J : World → Prop
  keep : ∀ w w' : World, J w → (∀ q : Addr, q.block < w.heap.size → w'.cell? q = w.cell? q) → J w'
def noPl : Plv := ⟨.nilFunc, fun _ => True, fun _ _ _ _ => trivial⟩
/-- All but the memo. -/
structure PyS (w : World) (p gm : Nat) (L : List Mkd) (a b : Int) (pl : Plv) : Prop where
  arms : ∃ A c, w.cell? ⟨p, 0, none⟩ = some (.slice A L.length c) ∧ RdMs w A L
  va : w.cell? ⟨p, 1, none⟩ = some (.int .i64 a)
  vb : w.cell? ⟨p, 2, none⟩ = some (.int .i64 b)
  sums : ∃ A c, w.cell? ⟨p, 3, none⟩ = some (.slice A L.length c) ∧ RdSS w A (rowsF sumRow L)
  left : ∃ A c, w.cell? ⟨p, 4, none⟩ = some (.slice A L.length c) ∧ RdSS w A (rowsF leftRow L)
  kid : ∃ A c, w.cell? ⟨p, 5, none⟩ = some (.slice A L.length c) ∧ RdK w A L
  vm : w.cell? ⟨p, 6, none⟩ = some (.map (some gm))
  vp : w.cell? ⟨p, 7, none⟩ = some pl.v
  ex : pl.J w
section
variable {w w' : World} {p gm : Nat} {L : List Mkd} {a b : Int} {pl : Plv}
theorem PyS.at_ (h : PyS w p gm L a b pl) : PyAt w p L a b := ⟨h.arms, h.va, h.vb, h.sums, h.left⟩
theorem PyS.keep (h : PyS w p gm L a b pl) (hk : ∀ q : Addr, q.block < w.heap.size → w'.cell? q = w.cell? q) : PyS w' p gm L a b pl := by
  have c1 : ∀ {j : Nat} {u : Value}, w.cell? ⟨p, j, none⟩ = some u → w'.cell? ⟨p, j, none⟩ = some u := fun h => (hk _ (cell_lt h)).trans h
  obtain ⟨⟨A0, c0, e0, r0⟩, va, vb, ⟨A3, c3, e3, r3⟩, ⟨A4, c4, e4, r4⟩, ⟨A5, c5, e5, r5⟩, vm, vp, ex⟩ := h
  exact ⟨⟨A0, c0, c1 e0, r0.keep hk⟩, c1 va, c1 vb, ⟨A3, c3, c1 e3, r3.keep hk⟩, ⟨A4, c4, c1 e4, r4.keep hk⟩, ⟨A5, c5, c1 e5, r5.keep hk⟩, c1 vm, c1 vp, pl.keep _ _ ex hk⟩
theorem PyS.below (h : PyS w p gm L a b pl) (hb : Below w.heap.size w w') : PyS w' p gm L a b pl := h.keep fun _q hq => hb.cell hq
theorem memo_cell {g n : Nat} {ok : (Nat → Nat) → Prop} {V : (Nat → Nat) → Int} (h : MemoOk w g n ok V) (q : Addr) (hq : q.block = g) : w.cell? q = none := by
  obtain ⟨l, ⟨es, clock, hb, _⟩, _⟩ := h
  unfold World.cell?
  rw [hq, hb]
/-- Only the memo has been written: all cells read as they did. -/
theorem memo_same {g n n' : Nat} {ok : (Nat → Nat) → Prop} {V : (Nat → Nat) → Int} (h : MemoOk w g n ok V) (h' : MemoOk w' g n' ok V) (hg : w.grownBy w' (some g)) : ∀ q : Addr, q.block < w.heap.size → w'.cell? q = w.cell? q := fun q hq => by
  rcases Decidable.em (q.block = g) with e | hne
  · rw [memo_cell h q e, memo_cell h' q e]
  · exact World.cell?_of_block (hg.block _ hq fun e => hne (by injection e))
end
/-- Places in the arms; 0 behind them. -/
def At3 (L : List Mkd) (X : Nat → Nat) : Prop := AtOk L X ∧ ∀ k, L.length ≤ k → X k = 0
theorem ArmsOk.small {L : List Mkd} {a b : Int} (h : ArmsOk L a b) {X : Nat → Nat} (hX : At3 L X) : SmallAt X := fun k _ => by
  rcases Nat.lt_or_ge k L.length with hk | hk
  · have := hX.1 k hk
    have := (h.arm hk).n9
    omega
  · rw [hX.2 k hk]
    decide
theorem ArmsOk.upd3 {L : List Mkd} {a b : Int} (h : ArmsOk L a b) {X : Nat → Nat} (hX : At3 L X) {i y : Nat} (hi : i < L.length) (hy : y < (mAt L i).P.length) : At3 L (updX X i y) :=
  ⟨h.upd hX.1 hi hy, fun k hk => by rw [updX_ne X y (by omega)]; exact hX.2 k hk⟩
theorem At3.ext {L : List Mkd} (hn : L.length ≤ 3) {X Y : Nat → Nat} (hX : At3 L X) (hY : At3 L Y) (h : atV Y = atV X) : Y = X := by
  funext k
  rcases Nat.lt_or_ge k 3 with hk | hk
  · exact atV_inj h k hk
  · rw [hX.2 k (by omega), hY.2 k (by omega)]
theorem ArmsOk.at3 {L : List Mkd} {a b : Int} (h : ArmsOk L a b) : At3 L fun _ => 0 := ⟨h.at0, fun _ _ => rfl⟩
/-- newPlaying, with a plan or none. -/
theorem newPyS {L : List Mkd} {a b : Int} {pl : Plv} (hpl : pl.v = .nilFunc ∨ ∃ fn f cs, pl.v = .func fn f cs) (hok : ArmsOk L a b) (V : (Nat → Nat) → Int) (A : Option Addr) (c : Nat) (w : World) (h : RdMs w A L) (hs : SzMs L) (hJ : pl.J w) :
    Calls Try.prog 76 #[.slice A L.length c, .int .i64 a, .int .i64 b, pl.v] w fun e w' => e = .returned (.pointer (some ⟨w.heap.size + 1, 0, none⟩)) ∧ PyS w' (w.heap.size + 1) w.heap.size L a b pl ∧ MemoOk w' w.heap.size 0 (At3 L) V ∧ Below w.heap.size w w' := by
  refine (newPy hpl hok A c w h hs).mono ?_
  rintro e w' ⟨rfl, As, cs, Hs, Al, cl, Hl, Ak, ck, Hk, b8, o3, hm, hb⟩
  exact ⟨rfl, ⟨⟨A, c, b8.c0, h.below hb (Nat.le_refl _)⟩, b8.c1, b8.c2, ⟨As, cs, b8.c3, heads_ss o3.os o3.hs (rowsF_length _ _) fun k hk => rowsF_at hk⟩, ⟨Al, cl, b8.c4, heads_ss o3.ol o3.hl (rowsF_length _ _) fun k hk => rowsF_at hk⟩,
    ⟨Ak, ck, b8.c5, lies_k o3.ok o3.hk⟩, b8.c6, b8.c7, pl.keep _ _ hJ fun q hq => hb.cell hq⟩, memo_new hm _ _, hb⟩

theorem can_len {L : List Mkd} {X : Nat → Nat} {i : Nat} : ((0 : Int) < ((kids (mAt L i).P (X i : Nat)).length : Int)) = (canX L X i = true) := by
  unfold canX
  cases he : endB (mAt L i).P (X i)
  · have : kids (mAt L i).P (X i : Nat) ≠ [] := fun h' => by rw [(kids_nil _).1 h'] at he; cases he
    have := List.length_pos_iff.2 this
    simp; omega
  · rw [(kids_nil _).2 he]
    simp
set_option maxRecDepth 20000 in
set_option maxHeartbeats 2000000 in
theorem can_c {L : List Mkd} {a b : Int} {pl : Plv} (hok : ArmsOk L a b) {X : Nat → Nat} (hX : AtOk L X) {i : Nat} (hi : i < L.length) (p gm : Nat) (q : Bool) (hq : canX L X i = q) (w : World) (h : PyS w p gm L a b pl) :
    Calls Try.prog 81 #[.pointer (some ⟨p, 0, none⟩), atV X, .int .i64 (i : Int)] w (Quietly w (.bool q)) := by
  unfold atV
  have hn3 := hok.n3
  have HB1 : Below w.heap.size w (w.alloc (.cells #[.int .i64 (X 0 : Nat), .int .i64 (X 1 : Nat), .int .i64 (X 2 : Nat)] 95)) := (Below.refl _ _).alloc (Nat.le_refl _) _
  have bx := Bx3.new w (.int .i64 (X 0 : Nat)) (.int .i64 (X 1 : Nat)) (.int .i64 (X 2 : Nat)) 95
  obtain ⟨A5, c5, e5, r5⟩ := (h.below HB1).kid
  obtain ⟨ad, A', c', rfl, q1, r1⟩ := r5 i hi
  obtain ⟨ad2, A2, c2, rfl, q2, r2⟩ := r1 (X i) (by rw [kidRows_len]; exact hX i hi)
  rw [kidRows_at (hX i hi)] at q2
  have hxi := hX i hi
  have hi3 : (i : Int) < 3 := by omega
  have hq2 : decide ((0 : Int) < ((kids (mAt L i).P (X i : Nat)).length : Int)) = q := by
    rw [← hq]
    cases hc : canX L X i
    · exact decide_eq_false (by rw [can_len, hc]; simp)
    · exact decide_eq_true (by rw [can_len, hc])
  have bi : (w.alloc (.cells #[.int .i64 (X 0 : Nat), .int .i64 (X 1 : Nat), .int .i64 (X 2 : Nat)] 95)).cell? ⟨w.heap.size, i, none⟩ = some (.int .i64 (X i : Nat)) := by
    match i, Nat.lt_of_lt_of_le hi hn3 with
    | 0, _ => exact bx.1
    | 1, _ => exact bx.2.1
    | 2, _ => exact bx.2.2.1
  clear h r5 r1 r2 bx hq
  go_enter Try.func81, Try.ntmps81
  go_upto_region 1 with fail
  generalize hu : w.alloc (.cells #[.int .i64 (X 0 : Nat), .int .i64 (X 1 : Nat), .int .i64 (X 2 : Nat)] 95) = u at *
  clear hu
  generalize hkl : (kids (mAt L i).P (X i : Nat)).length = kl at *
  clear hkl
  have hd1 : Below u.heap.size u u.drew := Below.drew (Below.refl _ _)
  have SK1 : Hid (∀ w', Below u.heap.size u w' → w'.cell? ⟨p, 5, none⟩ = some (.slice (some ad) L.length c5) ∧ w'.cell? (ad.add i) = some (.slice (some ad2) (mAt L i).P.length c') ∧ w'.cell? ⟨w.heap.size, i, none⟩ = some (.int .i64 (X i : Nat)) ∧ w'.cell? (ad2.add (X i)) = some (.slice A2 kl c2)) := Lib.hid fun w' HV => ⟨(HV.cell (cell_lt e5)).trans e5, (HV.cell (cell_lt q1)).trans q1, (HV.cell (cell_lt bi)).trans bi, (HV.cell (cell_lt q2)).trans q2⟩
  clear e5 q1 bi q2
  have hS1_0 := SK1.out _ hd1
  refine tamed_region (S := fun w' => w'.cell? ⟨p, 5, none⟩ = some (.slice (some ad) L.length c5) ∧ w'.cell? (ad.add i) = some (.slice (some ad2) (mAt L i).P.length c') ∧ w'.cell? ⟨w.heap.size, i, none⟩ = some (.int .i64 (X i : Nat)) ∧ w'.cell? (ad2.add (X i)) = some (.slice A2 kl c2)) (fun _ => false) (by kernel_rfl) ?_
  refine tame0 (k := 0) ?_ rfl (by kernel_rfl) (by kernel_rfl) (by kernel_rfl) (fun _ _ _ h => h) (by kernel_rfl) (fun v => ?_) ?_
  rotate_left
  · (go_simp; all_goals rfl)
  simp only [Act.put, List.setIfInBounds_toArray]
  refine tame0 (k := 1) ?_ rfl (by kernel_rfl) (by kernel_rfl) (by kernel_rfl) (fun _ _ _ h => h) (by kernel_rfl) (fun v => ?_) ?_
  rotate_left
  · (go_simp; all_goals rfl)
  simp only [Act.put]
  refine tame0 (k := 2) ?_ rfl (by kernel_rfl) (by kernel_rfl) (by kernel_rfl) (fun _ _ _ h => h) (by kernel_rfl) (fun v => ?_) ?_
  rotate_left
  · (go_simp; all_goals rfl)
  simp only [Act.put]
  refine tame (k := 3) ?_ rfl (by kernel_rfl) (by kernel_rfl) (by kernel_rfl) (by kernel_rfl) (fun _ _ _ h => h) (by kernel_rfl) hS1_0 (fun v hv => ?_) ?_
  rotate_left
  · (obtain ⟨k1, k2, k3, k4⟩ := hv; go_simp; all_goals rfl)
  simp only [Act.put]
  refine tame0 (k := 4) ?_ rfl (by kernel_rfl) (by kernel_rfl) (by kernel_rfl) (fun _ _ _ h => h) (by kernel_rfl) (fun v => ?_) ?_
  rotate_left
  · (go_simp; all_goals rfl)
  simp only [Act.put]
  refine tame0 (k := 5) ?_ rfl (by kernel_rfl) (by kernel_rfl) (by kernel_rfl) (fun _ _ _ h => h) (by kernel_rfl) (fun v => ?_) ?_
  rotate_left
  · (go_simp; all_goals rfl)
  simp only [Act.put]
  refine tame (k := 6) ?_ rfl (by kernel_rfl) (by kernel_rfl) (by kernel_rfl) (by kernel_rfl) (fun _ _ _ h => h) (by kernel_rfl) hS1_0 (fun v hv => ?_) ?_
  rotate_left
  · (obtain ⟨k1, k2, k3, k4⟩ := hv; go_simp; all_goals rfl)
  simp only [Act.put]
  refine tame0 (k := 7) ?_ rfl (by kernel_rfl) (by kernel_rfl) (by kernel_rfl) (fun _ _ _ h => h) (by kernel_rfl) (fun v => ?_) ?_
  rotate_left
  · (go_simp; all_goals rfl)
  simp only [Act.put]
  refine tame0 (k := 8) ?_ rfl (by kernel_rfl) (by kernel_rfl) (by kernel_rfl) (fun _ _ _ h => h) (by kernel_rfl) (fun v => ?_) ?_
  rotate_left
  · (go_simp; all_goals rfl)
  simp only [Act.put]
  refine tame (k := 9) ?_ rfl (by kernel_rfl) (by kernel_rfl) (by kernel_rfl) (by kernel_rfl) (fun _ _ _ h => h) (by kernel_rfl) hS1_0 (fun v hv => ?_) ?_
  rotate_left
  · (obtain ⟨k1, k2, k3, k4⟩ := hv; go_simp; all_goals rfl)
  simp only [Act.put]
  refine tame0 (k := 10) ?_ rfl (by kernel_rfl) (by kernel_rfl) (by kernel_rfl) (fun _ _ _ h => h) (by kernel_rfl) (fun v => ?_) ?_
  rotate_left
  · (go_simp; all_goals rfl)
  simp only [Act.put]
  refine tame (k := 11) ?_ rfl (by kernel_rfl) (by kernel_rfl) (by kernel_rfl) (by kernel_rfl) (fun _ _ _ h => h) (by kernel_rfl) hS1_0 (fun v hv => ?_) ?_
  rotate_left
  · (obtain ⟨k1, k2, k3, k4⟩ := hv; go_simp; all_goals rfl)
  simp only [Act.put]
  refine tame0 (k := 12) ?_ rfl (by kernel_rfl) (by kernel_rfl) (by kernel_rfl) (fun _ _ _ h => h) (by kernel_rfl) (fun v => ?_) ?_
  rotate_left
  · (go_simp; all_goals rfl)
  simp only [Act.put]
  refine tame0 (k := 13) ?_ rfl (by kernel_rfl) (by kernel_rfl) (by kernel_rfl) (fun _ _ _ h => h) (by kernel_rfl) (fun v => ?_) ?_
  rotate_left
  · (go_simp; all_goals rfl)
  simp only [Act.put]
  have hS1_0v := Lib.hid hS1_0
  clear hS1_0
  refine tame_one (k := 14) (by kernel_rfl) rfl (by kernel_rfl) ?_
  go_simp
  refine ⟨by first | exact hS1_0v | exact Hid.out hS1_0v, ?_⟩
  refine tame_end (by kernel_rfl) ?_
  have HB2 : Below w.heap.size w u.drew := Below.drew HB1
  generalize u.drew = v at *
  go_wp2
  go_ret
  refine ⟨?_, HB2⟩
  rw [← hq2]
  congr 2
  simp

open Go.RowKit Go.Maps

/-- All cells of u read so in v. -/
def CS (u v : World) : Prop := u.heap.size ≤ v.heap.size ∧ ∀ q : Addr, q.block < u.heap.size → v.cell? q = u.cell? q
theorem CS.of_below {u v : World} (h : Below u.heap.size u v) : CS u v := ⟨h.size, fun _q hq => h.cell hq⟩
theorem CS.refl (u : World) : CS u u := ⟨Nat.le_refl _, fun _ _ => rfl⟩
theorem CS.trans {u v w : World} (h : CS u v) (h' : CS v w) : CS u w := ⟨Nat.le_trans h.1 h'.1, fun q hq => (h'.2 q (Nat.lt_of_lt_of_le hq h.1)).trans (h.2 q hq)⟩
theorem CS.cell {u v : World} (h : CS u v) {q : Addr} {x : Value} (hq : u.cell? q = some x) : v.cell? q = some x := (h.2 q (cell_lt hq)).trans hq
def Lim (N k : Nat) : Prop := N + 28 ^ k ≤ 4611686018427387904
/-- What a value's call answers, at places with at most m plays left. -/
def ValC (L : List Mkd) (a b : Int) (pl : Option ((Nat → Nat) → Int)) (plv : Plv) (p gm m : Nat) : Prop := ∀ (X : Nat → Nat) (w : World) (N : Nat), At3 L X → remX L X ≤ m → PyS w p gm L a b plv → MemoOk w gm N (At3 L) (valX L a b pl) → Lim N (m + 1) →
  Calls Try.prog 79 #[.pointer (some ⟨p, 0, none⟩), atV X] w fun e w' => e = .returned (.int .i64 (valX L a b pl X)) ∧ MemoOk w' gm (N + 28 ^ (m + 1)) (At3 L) (valX L a b pl) ∧ w.grownBy w' (some gm)
theorem bx_upd {w : World} {g i : Nat} {X : Nat → Nat} (h : Bx3 w g (.int .i64 (X 0 : Nat)) (.int .i64 (X 1 : Nat)) (.int .i64 (X 2 : Nat))) (hi : i < 3) (y : Nat) :
    (w.setCell ⟨g, i, none⟩ (.int .i64 (y : Nat))).cell? ⟨g, 0, none⟩ = some (.int .i64 (updX X i y 0 : Nat)) ∧ (w.setCell ⟨g, i, none⟩ (.int .i64 (y : Nat))).cell? ⟨g, 1, none⟩ = some (.int .i64 (updX X i y 1 : Nat)) ∧ (w.setCell ⟨g, i, none⟩ (.int .i64 (y : Nat))).cell? ⟨g, 2, none⟩ = some (.int .i64 (updX X i y 2 : Nat)) := by
  obtain ⟨h0, h1, h2, _⟩ := h
  match i, hi with
  | 0, _ => exact ⟨by simp [go_sem, h0, updX], by simp [go_sem, h1, updX], by simp [go_sem, h2, updX]⟩
  | 1, _ => exact ⟨by simp [go_sem, h0, updX], by simp [go_sem, h1, updX], by simp [go_sem, h2, updX]⟩
  | 2, _ => exact ⟨by simp [go_sem, h0, updX], by simp [go_sem, h1, updX], by simp [go_sem, h2, updX]⟩
theorem grown_newPy {w v : World} {g gm i : Nat} (h : w.grownBy v (some gm)) (hg : w.heap.size ≤ g) (y : Nat) : w.grownBy (v.setCell ⟨g, i, none⟩ (.int .i64 (y : Nat))) (some gm) :=
  ⟨h.os, h.tape, h.output, by rw [World.size_setCell]; exact h.size, fun k hk hne => (Below.heap_setCell _ _ _ _ (by show k ≠ g; omega)).trans (h.block k hk hne)⟩
theorem scaleX_c {L : List Mkd} {a b : Int} (hok : ArmsOk L a b) {X : Nat → Nat} (hX : AtOk L X) {p : Nat} {w : World} (h : PyAt w p L a b) :
    Calls Try.prog 77 #[.pointer (some ⟨p, 0, none⟩), .agg #[.int .i64 (X 0 : Nat), .int .i64 (X 1 : Nat), .int .i64 (X 2 : Nat)]] w (Quietly w (.int .i64 (scX L b X))) := scaleAt_c hok hX h
set_option maxRecDepth 20000 in
set_option maxHeartbeats 4000000 in
theorem play_c {L : List Mkd} {a b : Int} {pl : Option ((Nat → Nat) → Int)} {plv : Plv} {p gm m : Nat} (hok : ArmsOk L a b) (hpl : PlOk L pl) (HV : ValC L a b pl plv p gm m) (X : Nat → Nat) (w : World) (N i : Nat) (hX : At3 L X) (hm : remX L X ≤ m + 1) (hi : i < L.length)
    (h : PyS w p gm L a b plv) (hM : MemoOk w gm N (At3 L) (valX L a b pl)) (hN : N + 9 * 28 ^ (m + 1) ≤ 4611686018427387904) :
    Calls Try.prog 82 #[.pointer (some ⟨p, 0, none⟩), atV X, .int .i64 (i : Int)] w fun e w' => e = .returned (.int .i64 (aft L a b (valX L a b pl) X i)) ∧ MemoOk w' gm (N + 9 * 28 ^ (m + 1)) (At3 L) (valX L a b pl) ∧ w.grownBy w' (some gm) := by
  unfold atV
  have hn3 := hok.n3
  have HB1 : Below w.heap.size w (w.alloc (.cells #[.int .i64 (X 0 : Nat), .int .i64 (X 1 : Nat), .int .i64 (X 2 : Nat)] 95)) := (Below.refl _ _).alloc (Nat.le_refl _) _
  have bx := Bx3.new w (.int .i64 (X 0 : Nat)) (.int .i64 (X 1 : Nat)) (.int .i64 (X 2 : Nat)) 95
  have HS := Lib.hid (h.below HB1)
  have HM := Lib.hid (hM.kept (grown_of_below HB1 none) (by simp))
  have hgm : gm < w.heap.size := by
    obtain ⟨l, ho, _⟩ := hM
    exact ho.lt
  have hxi := hX.1 i hi
  have hi3 : (i : Int) < 3 := by omega
  have bi : (w.alloc (.cells #[.int .i64 (X 0 : Nat), .int .i64 (X 1 : Nat), .int .i64 (X 2 : Nat)] 95)).cell? ⟨w.heap.size, i, none⟩ = some (.int .i64 (X i : Nat)) := by
    match i, Nat.lt_of_lt_of_le hi hn3 with
    | 0, _ => exact bx.1
    | 1, _ => exact bx.2.1
    | 2, _ => exact bx.2.2.1
  obtain ⟨A0, c0, e0, r0⟩ := (h.below HB1).arms
  obtain ⟨ad, A1, c1, A2, c2, A3, c3, rfl, q1, q2, q3, r1, r2, r3⟩ := r0 i hi
  have hfl := (hok.arm hi).len
  obtain ⟨af, rfl, qf⟩ := r3.intN (k := X i) (by omega)
  have q3' := cellOff 2 (by omega) q3
  have hsc := hok.scX_bd hX.1
  have hf : -99 ≤ nth (mAt L i).F (X i) ∧ nth (mAt L i).F (X i) ≤ 99 := allB_nth (hok.arm hi).fees (by omega)
  have hfs : -(99 * 7247757312000) ≤ nth (mAt L i).F (X i) * scX L b X ∧ nth (mAt L i).F (X i) * scX L b X ≤ 99 * 7247757312000 := mulAbs hf hsc (by decide)
  have hw1 : IntKind.i64.wrap (nth (mAt L i).F (X i) * scX L b X) = nth (mAt L i).F (X i) * scX L b X := IntWalk.i64_in _ (by omega)
  rw [hfl] at q3'
  obtain ⟨x0, x1, x2, xz⟩ := bx
  clear h hM r0 q1 q2 q3 r1 r2 r3 hfl
  go_enter Try.func82, Try.ntmps82
  go_upto_region 1 with fail
  generalize hu : w.alloc (.cells #[.int .i64 (X 0 : Nat), .int .i64 (X 1 : Nat), .int .i64 (X 2 : Nat)] 95) = u at *
  clear hu
  have hd1 : Below u.heap.size u u.drew := Below.drew (Below.refl _ _)
  have SK1 : Hid (∀ w', Below u.heap.size u w' → w'.cell? ⟨p, 0, none⟩ = some (.slice (some ad) L.length c0) ∧ w'.cell? ⟨(ad.add (i * 3)).block, (ad.add (i * 3)).off + 2, none⟩ = some (.slice (some af) (mAt L i).P.length c3) ∧ w'.cell? (af.add (X i)) = some (.int .i64 (nth (mAt L i).F (X i))) ∧ w'.cell? ⟨w.heap.size, i, none⟩ = some (.int .i64 (X i : Nat)) ∧ w'.cell? ⟨w.heap.size, 0, none⟩ = some (.int .i64 (X 0 : Nat)) ∧ w'.cell? ⟨w.heap.size, 1, none⟩ = some (.int .i64 (X 1 : Nat)) ∧ w'.cell? ⟨w.heap.size, 2, none⟩ = some (.int .i64 (X 2 : Nat))) := Lib.hid fun w' HV => ⟨(HV.cell (cell_lt e0)).trans e0, (HV.cell (cell_lt q3')).trans q3', (HV.cell (cell_lt qf)).trans qf, (HV.cell (cell_lt bi)).trans bi, (HV.cell (cell_lt x0)).trans x0, (HV.cell (cell_lt x1)).trans x1, (HV.cell (cell_lt x2)).trans x2⟩
  clear e0 q3' qf bi x0 x1 x2
  have hS1_0 := SK1.out _ hd1
  refine tamed_region (S := fun w' => w'.cell? ⟨p, 0, none⟩ = some (.slice (some ad) L.length c0) ∧ w'.cell? ⟨(ad.add (i * 3)).block, (ad.add (i * 3)).off + 2, none⟩ = some (.slice (some af) (mAt L i).P.length c3) ∧ w'.cell? (af.add (X i)) = some (.int .i64 (nth (mAt L i).F (X i))) ∧ w'.cell? ⟨w.heap.size, i, none⟩ = some (.int .i64 (X i : Nat)) ∧ w'.cell? ⟨w.heap.size, 0, none⟩ = some (.int .i64 (X 0 : Nat)) ∧ w'.cell? ⟨w.heap.size, 1, none⟩ = some (.int .i64 (X 1 : Nat)) ∧ w'.cell? ⟨w.heap.size, 2, none⟩ = some (.int .i64 (X 2 : Nat))) (fun _ => false) (by kernel_rfl) ?_
  refine tame0 (k := 0) ?_ rfl (by kernel_rfl) (by kernel_rfl) (by kernel_rfl) (fun _ _ _ h => h) (by kernel_rfl) (fun v => ?_) ?_
  rotate_left
  · (go_simp; all_goals rfl)
  simp only [Act.put, List.setIfInBounds_toArray]
  refine tame0 (k := 1) ?_ rfl (by kernel_rfl) (by kernel_rfl) (by kernel_rfl) (fun _ _ _ h => h) (by kernel_rfl) (fun v => ?_) ?_
  rotate_left
  · (go_simp; all_goals rfl)
  simp only [Act.put]
  refine tame0 (k := 2) ?_ rfl (by kernel_rfl) (by kernel_rfl) (by kernel_rfl) (fun _ _ _ h => h) (by kernel_rfl) (fun v => ?_) ?_
  rotate_left
  · (go_simp; all_goals rfl)
  simp only [Act.put]
  refine tame (k := 3) ?_ rfl (by kernel_rfl) (by kernel_rfl) (by kernel_rfl) (by kernel_rfl) (fun _ _ _ h => h) (by kernel_rfl) hS1_0 (fun v hv => ?_) ?_
  rotate_left
  · (obtain ⟨k1, k2, k3, k4, k5, k6, k7⟩ := hv; go_simp; all_goals rfl)
  simp only [Act.put]
  refine tame0 (k := 4) ?_ rfl (by kernel_rfl) (by kernel_rfl) (by kernel_rfl) (fun _ _ _ h => h) (by kernel_rfl) (fun v => ?_) ?_
  rotate_left
  · (go_simp; all_goals rfl)
  simp only [Act.put]
  refine tame0 (k := 5) ?_ rfl (by kernel_rfl) (by kernel_rfl) (by kernel_rfl) (fun _ _ _ h => h) (by kernel_rfl) (fun v => ?_) ?_
  rotate_left
  · (go_simp; all_goals rfl)
  simp only [Act.put]
  refine tame0 (k := 6) ?_ rfl (by kernel_rfl) (by kernel_rfl) (by kernel_rfl) (fun _ _ _ h => h) (by kernel_rfl) (fun v => ?_) ?_
  rotate_left
  · (go_simp; all_goals rfl)
  simp only [Act.put]
  refine tame (k := 7) ?_ rfl (by kernel_rfl) (by kernel_rfl) (by kernel_rfl) (by kernel_rfl) (fun _ _ _ h => h) (by kernel_rfl) hS1_0 (fun v hv => ?_) ?_
  rotate_left
  · (obtain ⟨k1, k2, k3, k4, k5, k6, k7⟩ := hv; go_simp; all_goals rfl)
  simp only [Act.put]
  refine tame0 (k := 8) ?_ rfl (by kernel_rfl) (by kernel_rfl) (by kernel_rfl) (fun _ _ _ h => h) (by kernel_rfl) (fun v => ?_) ?_
  rotate_left
  · (go_simp; all_goals rfl)
  simp only [Act.put]
  refine tame0 (k := 9) ?_ rfl (by kernel_rfl) (by kernel_rfl) (by kernel_rfl) (fun _ _ _ h => h) (by kernel_rfl) (fun v => ?_) ?_
  rotate_left
  · (go_simp; all_goals rfl)
  simp only [Act.put]
  refine tame (k := 10) ?_ rfl (by kernel_rfl) (by kernel_rfl) (by kernel_rfl) (by kernel_rfl) (fun _ _ _ h => h) (by kernel_rfl) hS1_0 (fun v hv => ?_) ?_
  rotate_left
  · (obtain ⟨k1, k2, k3, k4, k5, k6, k7⟩ := hv; go_simp; all_goals rfl)
  simp only [Act.put]
  refine tame0 (k := 11) ?_ rfl (by kernel_rfl) (by kernel_rfl) (by kernel_rfl) (fun _ _ _ h => h) (by kernel_rfl) (fun v => ?_) ?_
  rotate_left
  · (go_simp; all_goals rfl)
  simp only [Act.put]
  refine tame (k := 12) ?_ rfl (by kernel_rfl) (by kernel_rfl) (by kernel_rfl) (by kernel_rfl) (fun _ _ _ h => h) (by kernel_rfl) hS1_0 (fun v hv => ?_) ?_
  rotate_left
  · (obtain ⟨k1, k2, k3, k4, k5, k6, k7⟩ := hv; go_simp; all_goals rfl)
  simp only [Act.put]
  refine tame0 (k := 13) ?_ rfl (by kernel_rfl) (by kernel_rfl) (by kernel_rfl) (fun _ _ _ h => h) (by kernel_rfl) (fun v => ?_) ?_
  rotate_left
  · (go_simp; all_goals rfl)
  simp only [Act.put]
  refine tame (k := 14) ?_ rfl (by kernel_rfl) (by kernel_rfl) (by kernel_rfl) (by kernel_rfl) (fun _ _ _ h => h) (by kernel_rfl) hS1_0 (fun v hv => ?_) ?_
  rotate_left
  · (obtain ⟨k1, k2, k3, k4, k5, k6, k7⟩ := hv; go_simp; all_goals rfl)
  simp only [Act.put]
  refine tame_one (k := 15) (by kernel_rfl) rfl (by kernel_rfl) ?_
  go_simp
  refine (scaleX_c hok hX.1 (HS.out.below (Below.drew (Below.refl _ _))).at_).mono ?_
  rintro e u2 ⟨rfl, b2⟩
  have hd1_1 := bUp hd1 b2 (Nat.le_refl _)
  have hS1_1 := Lib.hid (SK1.out _ hd1_1)
  refine ⟨by first | exact hS1_1 | exact Hid.out hS1_1, ?_⟩
  refine tame0 (k := 16) ?_ rfl (by kernel_rfl) (by kernel_rfl) (by kernel_rfl) (fun _ _ _ h => h) (by kernel_rfl) (fun v => ?_) ?_
  rotate_left
  · (go_simp; all_goals rfl)
  simp only [Act.put]
  refine tame_one (k := 17) (by kernel_rfl) rfl (by kernel_rfl) ?_
  go_simp
  refine ⟨by first | exact hS1_1 | exact Hid.out hS1_1, ?_⟩
  refine tame_end (by kernel_rfl) ?_
  have HS2 := Lib.hid (HS.out.below hd1_1)
  have HM2 := Lib.hid (HM.out.kept (grown_of_below hd1_1 none) (by simp))
  have bi := hS1_1.out.2.2.2.1
  have bx := Lib.hid hS1_1.out.2.2.2.2
  have HB2 : Below w.heap.size w u2 := bUp HB1 hd1_1 (Nat.le_of_lt xz)
  have xz2 : w.heap.size < u2.heap.size := Nat.lt_of_lt_of_le xz hd1_1.size
  obtain ⟨A5, c5, e5, r5⟩ := HS2.out.kid
  obtain ⟨ad5, A6, c6, rfl, q5, r6⟩ := r5 i hi
  obtain ⟨ad6, A7, c7, rfl, q6, r7⟩ := r6 (X i) (by rw [kidRows_len]; exact hxi)
  rw [kidRows_at hxi] at q6 r7
  clear HS HM SK1 hS1_0 hS1_1 hd1 hd1_1 b2 r5 r6 HB1 xz
  go_upto_region 2 with fail
  generalize hkl : (kids (mAt L i).P (X i : Nat)).length = kl at *
  have hd2 : Below u2.heap.size u2 u2.drew := Below.drew (Below.refl _ _)
  have SK2 : Hid (∀ w', Below u2.heap.size u2 w' → w'.cell? ⟨p, 5, none⟩ = some (.slice (some ad5) L.length c5) ∧ w'.cell? (ad5.add i) = some (.slice (some ad6) (mAt L i).P.length c6) ∧ w'.cell? ⟨w.heap.size, i, none⟩ = some (.int .i64 (X i : Nat)) ∧ w'.cell? (ad6.add (X i)) = some (.slice A7 kl c7)) := Lib.hid fun w' HV => ⟨(HV.cell (cell_lt e5)).trans e5, (HV.cell (cell_lt q5)).trans q5, (HV.cell (cell_lt bi)).trans bi, (HV.cell (cell_lt q6)).trans q6⟩
  clear e5 q5 bi q6
  have hS2_0 := SK2.out _ hd2
  refine tamed_region (S := fun w' => w'.cell? ⟨p, 5, none⟩ = some (.slice (some ad5) L.length c5) ∧ w'.cell? (ad5.add i) = some (.slice (some ad6) (mAt L i).P.length c6) ∧ w'.cell? ⟨w.heap.size, i, none⟩ = some (.int .i64 (X i : Nat)) ∧ w'.cell? (ad6.add (X i)) = some (.slice A7 kl c7)) (fun _ => false) (by kernel_rfl) ?_
  refine tame0 (k := 0) ?_ rfl (by kernel_rfl) (by kernel_rfl) (by kernel_rfl) (fun _ _ _ h => h) (by kernel_rfl) (fun v => ?_) ?_
  rotate_left
  · (go_simp; all_goals rfl)
  simp only [Act.put, List.setIfInBounds_toArray]
  refine tame0 (k := 1) ?_ rfl (by kernel_rfl) (by kernel_rfl) (by kernel_rfl) (fun _ _ _ h => h) (by kernel_rfl) (fun v => ?_) ?_
  rotate_left
  · (go_simp; all_goals rfl)
  simp only [Act.put]
  refine tame0 (k := 2) ?_ rfl (by kernel_rfl) (by kernel_rfl) (by kernel_rfl) (fun _ _ _ h => h) (by kernel_rfl) (fun v => ?_) ?_
  rotate_left
  · (go_simp; all_goals rfl)
  simp only [Act.put]
  refine tame (k := 3) ?_ rfl (by kernel_rfl) (by kernel_rfl) (by kernel_rfl) (by kernel_rfl) (fun _ _ _ h => h) (by kernel_rfl) hS2_0 (fun v hv => ?_) ?_
  rotate_left
  · (obtain ⟨k1, k2, k3, k4⟩ := hv; go_simp; all_goals rfl)
  simp only [Act.put]
  refine tame0 (k := 4) ?_ rfl (by kernel_rfl) (by kernel_rfl) (by kernel_rfl) (fun _ _ _ h => h) (by kernel_rfl) (fun v => ?_) ?_
  rotate_left
  · (go_simp; all_goals rfl)
  simp only [Act.put]
  refine tame0 (k := 5) ?_ rfl (by kernel_rfl) (by kernel_rfl) (by kernel_rfl) (fun _ _ _ h => h) (by kernel_rfl) (fun v => ?_) ?_
  rotate_left
  · (go_simp; all_goals rfl)
  simp only [Act.put]
  refine tame (k := 6) ?_ rfl (by kernel_rfl) (by kernel_rfl) (by kernel_rfl) (by kernel_rfl) (fun _ _ _ h => h) (by kernel_rfl) hS2_0 (fun v hv => ?_) ?_
  rotate_left
  · (obtain ⟨k1, k2, k3, k4⟩ := hv; go_simp; all_goals rfl)
  simp only [Act.put]
  refine tame0 (k := 7) ?_ rfl (by kernel_rfl) (by kernel_rfl) (by kernel_rfl) (fun _ _ _ h => h) (by kernel_rfl) (fun v => ?_) ?_
  rotate_left
  · (go_simp; all_goals rfl)
  simp only [Act.put]
  refine tame0 (k := 8) ?_ rfl (by kernel_rfl) (by kernel_rfl) (by kernel_rfl) (fun _ _ _ h => h) (by kernel_rfl) (fun v => ?_) ?_
  rotate_left
  · (go_simp; all_goals rfl)
  simp only [Act.put]
  refine tame (k := 9) ?_ rfl (by kernel_rfl) (by kernel_rfl) (by kernel_rfl) (by kernel_rfl) (fun _ _ _ h => h) (by kernel_rfl) hS2_0 (fun v hv => ?_) ?_
  rotate_left
  · (obtain ⟨k1, k2, k3, k4⟩ := hv; go_simp; all_goals rfl)
  simp only [Act.put]
  refine tame0 (k := 10) ?_ rfl (by kernel_rfl) (by kernel_rfl) (by kernel_rfl) (fun _ _ _ h => h) (by kernel_rfl) (fun v => ?_) ?_
  rotate_left
  · (go_simp; all_goals rfl)
  simp only [Act.put]
  refine tame (k := 11) ?_ rfl (by kernel_rfl) (by kernel_rfl) (by kernel_rfl) (by kernel_rfl) (fun _ _ _ h => h) (by kernel_rfl) hS2_0 (fun v hv => ?_) ?_
  rotate_left
  · (obtain ⟨k1, k2, k3, k4⟩ := hv; go_simp; all_goals rfl)
  simp only [Act.put]
  refine tame0 (k := 12) ?_ rfl (by kernel_rfl) (by kernel_rfl) (by kernel_rfl) (fun _ _ _ h => h) (by kernel_rfl) (fun v => ?_) ?_
  rotate_left
  · (go_simp; all_goals rfl)
  simp only [Act.put]
  have hS2_0v := Lib.hid hS2_0
  clear hS2_0
  refine tame_one (k := 13) (by kernel_rfl) rfl (by kernel_rfl) ?_
  go_simp
  refine ⟨by first | exact hS2_0v | exact Hid.out hS2_0v, ?_⟩
  refine tame_end (by kernel_rfl) ?_
  have HB3 : Below w.heap.size w u2.drew := Below.drew HB2
  have HS3 := Lib.hid (show PyS u2.drew p gm L a b plv from HS2.out.keep fun _ _ => rfl)
  have HM3 := Lib.hid (show MemoOk u2.drew gm N (At3 L) (valX L a b pl) from HM2.out.same rfl)
  have bx3 := Lib.hid (show u2.drew.cell? ⟨w.heap.size, 0, none⟩ = some (.int .i64 (X 0 : Nat)) ∧ u2.drew.cell? ⟨w.heap.size, 1, none⟩ = some (.int .i64 (X 1 : Nat)) ∧ u2.drew.cell? ⟨w.heap.size, 2, none⟩ = some (.int .i64 (X 2 : Nat)) from bx.out)
  have r8 : Rd u2.drew A7 (ints (kids (mAt L i).P (X i : Nat))) := r7
  have xz3 : w.heap.size < u2.drew.heap.size := xz2
  clear HB2 HS2 HM2 bx r7 xz2 SK2 hd2 hS2_0v
  generalize u2.drew = u3 at *
  have L1 := Lib.hid hkl
  clear hkl
  go_wp2_with fail
  go_loopw [7, 41] (fun q j wr => ∃ k : Nat, k ≤ kl ∧ j = .int .i64 (k : Int) ∧ q = .int .i64 (aftT L a b (valX L a b pl) X i k) ∧ CS u3 wr ∧ w.grownBy wr (some gm) ∧ MemoOk wr gm (N + k * 28 ^ (m + 1)) (At3 L) (valX L a b pl)) (fun _ j _ => kl - (intOf j).toNat)
  case atStart => exact ⟨0, by omega, rfl, by simp [aftT, kS], CS.refl _, grown_of_below HB3 _, by simpa using HM3.out⟩
  case round =>
    obtain ⟨v, rfl⟩ : ∃ v : World, v = wr := ⟨_, rfl⟩
    obtain ⟨k, hk, rfl, rfl, hcs, hgr, hmo⟩ := hrel
    by_cases hlt : k < kl
    · obtain ⟨a7, rfl, qk⟩ := r8.intN (k := k) (by rw [L1.out]; exact hlt)
      have qk' := hcs.cell qk
      have x0 := hcs.cell bx3.out.1
      have x1 := hcs.cell bx3.out.2.1
      have x2 := hcs.cell bx3.out.2.2
      go_upto_region 6 with fail
      have by0 := Bx3.new v (.int .i64 (X 0 : Nat)) (.int .i64 (X 1 : Nat)) (.int .i64 (X 2 : Nat)) 95
      have hz0 : v.heap.size < (v.alloc (.cells #[.int .i64 (X 0 : Nat), .int .i64 (X 1 : Nat), .int .i64 (X 2 : Nat)] 95)).heap.size := by0.2.2.2
      have fz : ∀ j, (v.alloc (.cells #[.int .i64 (X 0 : Nat), .int .i64 (X 1 : Nat), .int .i64 (X 2 : Nat)] 95)).frozen? ⟨v.heap.size, j, none⟩ = false := fun j => frozen_of_row _ _ j _ _ (heap_alloc_new v _)
      have hcs2 : CS v (v.alloc (.cells #[.int .i64 (X 0 : Nat), .int .i64 (X 1 : Nat), .int .i64 (X 2 : Nat)] 95)) := .of_below ((Below.refl _ _).alloc (Nat.le_refl _) _)
      have hgr2 := hgr.trans ((World.grownBy_alloc v (.cells #[.int .i64 (X 0 : Nat), .int .i64 (X 1 : Nat), .int .i64 (X 2 : Nat)] 95) (some gm)))
      have hmo2 := hmo.kept (World.grownBy_alloc v (.cells #[.int .i64 (X 0 : Nat), .int .i64 (X 1 : Nat), .int .i64 (X 2 : Nat)] 95) none) (by simp)
      generalize v.alloc (.cells #[.int .i64 (X 0 : Nat), .int .i64 (X 1 : Nat), .int .i64 (X 2 : Nat)] 95) = v2 at *
      obtain ⟨y, ey, hy1, hy2⟩ : ∃ y : Nat, nth (kids (mAt L i).P (X i : Nat)) k = (y : Int) ∧ y < (mAt L i).P.length ∧ nth (mAt L i).P y = (X i : Nat) := by
        obtain ⟨y, h1, _, h2, h3⟩ := kid_at (hok.arm hi).tree.par (show k < (kids (mAt L i).P (X i : Nat)).length by rw [L1.out]; exact hlt)
        exact ⟨y, h1, h2, h3⟩
      have ek := aftT_next L a b (valX L a b pl) X i k y ey
      rw [ey]
      have yi : v2.cell? ⟨v.heap.size, i, none⟩ = some (.int .i64 (X i : Nat)) := by
        match i, Nat.lt_of_lt_of_le hi hn3 with
        | 0, _ => exact by0.1
        | 1, _ => exact by0.2.1
        | 2, _ => exact by0.2.2.1
      have fzi := fz i
      have bn := bx_upd by0 (Nat.lt_of_lt_of_le hi hn3) y
      have hcs3 : CS v (v2.setCell ⟨v.heap.size, i, none⟩ (.int .i64 (y : Nat))) := ⟨by rw [World.size_setCell]; exact Nat.le_of_lt hz0, fun q hq => (World.cell?_setCell_other _ _ _ _ (fun e => by have := congrArg Addr.block e; simp at this; omega)).trans (hcs2.2 q hq)⟩
      have hgs : gm < v.heap.size := Nat.lt_of_lt_of_le hgm hgr.size
      have hgr3 : w.grownBy (v2.setCell ⟨v.heap.size, i, none⟩ (.int .i64 (y : Nat))) (some gm) := grown_newPy hgr2 hgr.size y
      have hmo3 : MemoOk (v2.setCell ⟨v.heap.size, i, none⟩ (.int .i64 (y : Nat))) gm (N + k * 28 ^ (m + 1)) (At3 L) (valX L a b pl) := hmo2.kept (grown_setCell v2 _ _) (by simp; omega)
      clear by0 fz hgr2 hmo2 x0 x1 x2 hcs2
      go_upto_region 7 with fail
      have hz3 : v.heap.size < (v2.setCell ⟨v.heap.size, i, none⟩ (.int .i64 (y : Nat))).heap.size := by rw [World.size_setCell]; exact hz0
      generalize v2.setCell ⟨v.heap.size, i, none⟩ (.int .i64 (y : Nat)) = v3 at *
      clear yi fzi qk'
      have va3 := (hcs.trans hcs3).cell HS3.out.va
      obtain ⟨n0, n1, n2⟩ := bn
      have hpg : p ≠ gm := fun e => by
        have := memo_cell hmo3 ⟨p, 1, none⟩ e
        rw [va3] at this
        cases this
      have hvg : v.heap.size ≠ gm := by omega
      have hkl9 : kl ≤ 9 := by
        have := kidTo_len (mAt L i).P (X i : Nat) (mAt L i).P.length
        have := (hok.arm hi).n9
        rw [← L1.out]
        unfold kids
        omega
      have hrem : remX L (updX X i y) ≤ m := by
        have := hok.rem_kid hX.1 hi hy1 hy2
        omega
      have hlm : Lim (N + k * 28 ^ (m + 1)) (m + 1) := by
        have : (k + 1) * 28 ^ (m + 1) ≤ 9 * 28 ^ (m + 1) := Nat.mul_le_mul_right _ (by omega)
        have e : (k + 1) * 28 ^ (m + 1) = k * 28 ^ (m + 1) + 28 ^ (m + 1) := Nat.succ_mul _ _
        unfold Lim
        omega
      have C := Lib.hid (HV (updX X i y) v3.drew (N + k * 28 ^ (m + 1)) (hok.upd3 hX hi hy1) hrem (HS3.out.keep (hcs.trans hcs3).2) (hmo3.same rfl) hlm)
      have hva := valX_bd hok hpl (hok.upd hX.1 hi hy1)
      have hab := hok.ab
      have ha1 := hok.a1
      have hb4 := hok.b4
      have hmul := mulAbs (x := valX L a b pl (updX X i y)) (y := a) (A := 6457751764992000) (B := 3) hva ⟨by omega, by omega⟩ (by decide)
      rw [Int.mul_comm] at hmul
      have ht1 := aftT_bd hok hpl hX.1 hi (k := k) (by rw [L1.out]; omega)
      have ht2 := aftT_bd hok hpl hX.1 hi (k := k + 1) (by rw [L1.out]; omega)
      have hwa : IntKind.i64.wrap (a * valX L a b pl (updX X i y)) = a * valX L a b pl (updX X i y) := IntWalk.i64_in _ (by omega)
      have hwb : IntKind.i64.wrap (aftT L a b (valX L a b pl) X i k + a * valX L a b pl (updX X i y)) = aftT L a b (valX L a b pl) X i k + a * valX L a b pl (updX X i y) := IntWalk.i64_in _ (by rw [← ek]; omega)
      have EK := Lib.hid ek
      have hmo4 := Lib.hid hmo3
      clear ek hmul hva hmo ht1 ht2 hmo3 hab ha1 hb4
      generalize aftT L a b (valX L a b pl) X i k = acc at *
      generalize hvv : valX L a b pl (updX X i y) = vv at *
      have SK : Hid (∀ w', Kept v3 w' (fun b => b = gm) → w'.cell? ⟨p, 1, none⟩ = some (.int .i64 a) ∧ w'.cell? ⟨v.heap.size, 0, none⟩ = some (.int .i64 (updX X i y 0 : Nat)) ∧ w'.cell? ⟨v.heap.size, 1, none⟩ = some (.int .i64 (updX X i y 1 : Nat)) ∧ w'.cell? ⟨v.heap.size, 2, none⟩ = some (.int .i64 (updX X i y 2 : Nat))) := Lib.hid fun w' hK => ⟨(hK.cell (p := ⟨p, 1, none⟩) (cell_lt va3) hpg).trans va3, (hK.cell (p := ⟨v.heap.size, 0, none⟩) (cell_lt n0) hvg).trans n0, (hK.cell (p := ⟨v.heap.size, 1, none⟩) (cell_lt n1) hvg).trans n1, (hK.cell (p := ⟨v.heap.size, 2, none⟩) (cell_lt n2) hvg).trans n2⟩
      clear va3 n0 n1 n2
      have hS := SK.out v3.drew ⟨Nat.le_refl _, fun _ _ _ => rfl⟩
      refine tamed_region (S := fun w' => w'.cell? ⟨p, 1, none⟩ = some (.int .i64 a) ∧ w'.cell? ⟨v.heap.size, 0, none⟩ = some (.int .i64 (updX X i y 0 : Nat)) ∧ w'.cell? ⟨v.heap.size, 1, none⟩ = some (.int .i64 (updX X i y 1 : Nat)) ∧ w'.cell? ⟨v.heap.size, 2, none⟩ = some (.int .i64 (updX X i y 2 : Nat))) (fun _ => false) (by kernel_rfl) ?_
      refine tame0 (k := 0) ?_ rfl (by kernel_rfl) (by kernel_rfl) (by kernel_rfl) (fun _ _ _ h => h) (by kernel_rfl) (fun v => ?_) ?_
      rotate_left
      · (go_simp; all_goals rfl)
      simp only [Act.put, List.setIfInBounds_toArray]
      refine tame0 (k := 1) ?_ rfl (by kernel_rfl) (by kernel_rfl) (by kernel_rfl) (fun _ _ _ h => h) (by kernel_rfl) (fun v => ?_) ?_
      rotate_left
      · (go_simp; all_goals rfl)
      simp only [Act.put]
      refine tame0 (k := 2) ?_ rfl (by kernel_rfl) (by kernel_rfl) (by kernel_rfl) (fun _ _ _ h => h) (by kernel_rfl) (fun v => ?_) ?_
      rotate_left
      · (go_simp; all_goals rfl)
      simp only [Act.put]
      refine tame0 (k := 3) ?_ rfl (by kernel_rfl) (by kernel_rfl) (by kernel_rfl) (fun _ _ _ h => h) (by kernel_rfl) (fun v => ?_) ?_
      rotate_left
      · (go_simp; all_goals rfl)
      simp only [Act.put]
      refine tame (k := 4) ?_ rfl (by kernel_rfl) (by kernel_rfl) (by kernel_rfl) (by kernel_rfl) (fun _ _ _ h => h) (by kernel_rfl) hS (fun v hv => ?_) ?_
      rotate_left
      · (obtain ⟨k1, k2, k3, k4⟩ := hv; go_simp; all_goals rfl)
      simp only [Act.put]
      refine tame0 (k := 5) ?_ rfl (by kernel_rfl) (by kernel_rfl) (by kernel_rfl) (fun _ _ _ h => h) (by kernel_rfl) (fun v => ?_) ?_
      rotate_left
      · (go_simp; all_goals rfl)
      simp only [Act.put]
      refine tame (k := 6) ?_ rfl (by kernel_rfl) (by kernel_rfl) (by kernel_rfl) (by kernel_rfl) (fun _ _ _ h => h) (by kernel_rfl) hS (fun v hv => ?_) ?_
      rotate_left
      · (obtain ⟨k1, k2, k3, k4⟩ := hv; go_simp; all_goals rfl)
      simp only [Act.put]
      clear hS
      refine tame_one (k := 7) (by kernel_rfl) rfl (by kernel_rfl) ?_
      go_simp
      refine C.out.mono ?_
      rintro e v4 ⟨rfl, hmo5, hgr4⟩
      have hK4 : Kept v3 v4 (fun b => b = gm) := (show Kept v3 v3.drew (fun b => b = gm) from ⟨Nat.le_refl _, fun _ _ _ => rfl⟩).trans (Kept.of_grown hgr4 fun b hb => by injection hb with hb; exact hb.symm)
      refine ⟨SK.out v4 hK4, ?_⟩
      refine tame0 (k := 8) ?_ rfl (by kernel_rfl) (by kernel_rfl) (by kernel_rfl) (fun _ _ _ h => h) (by kernel_rfl) (fun v => ?_) ?_
      rotate_left
      · (go_simp; all_goals rfl)
      simp only [Act.put]
      refine tame0 (k := 9) ?_ rfl (by kernel_rfl) (by kernel_rfl) (by kernel_rfl) (fun _ _ _ h => h) (by kernel_rfl) (fun v => ?_) ?_
      rotate_left
      · (go_simp; all_goals rfl)
      simp only [Act.put]
      refine tame_one (k := 10) (by kernel_rfl) rfl (by kernel_rfl) ?_
      go_simp
      refine ⟨SK.out v4 hK4, ?_⟩
      refine tame_end (by kernel_rfl) ?_
      have hgr6 : v3.grownBy v4 (some gm) := ⟨hgr4.os, hgr4.tape, hgr4.output, hgr4.size, hgr4.block⟩
      have hcs4 : CS v3 v4 := ⟨hgr6.size, memo_same hmo4.out hmo5 hgr6⟩
      have hgr5 := hgr3.trans hgr6
      clear hgr6
      clear hwa hwb hlm
      go_wp2_with fail
      go_roundw
      case rel => exact ⟨k + 1, by omega, by go_num, by rw [EK.out], (hcs.trans hcs3).trans hcs4, hgr5, hmo5.mono (by rw [Nat.succ_mul]; omega)⟩
      case measure => simp [intOf] <;> omega
    · obtain rfl : k = kl := by omega
      go_wp2_with fail
      go_ret
      refine ⟨?_, hmo.mono ?_, hgr⟩
      · unfold aft
        rw [L1.out]
        rfl
      · have : k ≤ 9 := by
          have := kidTo_len (mAt L i).P (X i : Nat) (mAt L i).P.length
          have := (hok.arm hi).n9
          rw [← L1.out]
          unfold kids
          omega
        have := Nat.mul_le_mul_right (28 ^ (m + 1)) this
        omega

open Go.RowKit Go.Maps

/-- What a play's call answers at the places X. -/
def PlyC (L : List Mkd) (a b : Int) (pl : Option ((Nat → Nat) → Int)) (plv : Plv) (p gm K : Nat) (X : Nat → Nat) : Prop := ∀ (i : Nat) (w : World) (N : Nat), i < L.length → canX L X i = true → PyS w p gm L a b plv → MemoOk w gm N (At3 L) (valX L a b pl) → N + K ≤ 4611686018427387904 →
  Calls Try.prog 82 #[.pointer (some ⟨p, 0, none⟩), atV X, .int .i64 (i : Int)] w fun e w' => e = .returned (.int .i64 (aft L a b (valX L a b pl) X i)) ∧ MemoOk w' gm (N + K) (At3 L) (valX L a b pl) ∧ w.grownBy w' (some gm)
theorem mx_if (x y : Int) : (if x < y then y else x) = mxI x y := by unfold mxI; split <;> split <;> omega
theorem besTo_yes {L : List Mkd} {a b : Int} {V : (Nat → Nat) → Int} {X : Nat → Nat} {k : Nat} (h : canX L X k = true) : besTo L a b V X (k + 1) = mxI (besTo L a b V X k) (aft L a b V X k) := by rw [besTo, if_pos h]
theorem besTo_no {L : List Mkd} {a b : Int} {V : (Nat → Nat) → Int} {X : Nat → Nat} {k : Nat} (h : canX L X k = false) : besTo L a b V X (k + 1) = besTo L a b V X k := by rw [besTo, if_neg (by rw [h]; decide)]
set_option maxRecDepth 20000 in
set_option maxHeartbeats 4000000 in
theorem valueN_c {L : List Mkd} {a b : Int} {p gm K : Nat} (hok : ArmsOk L a b) (hpl : PlOk L none) (X : Nat → Nat) (HP : PlyC L a b none noPl p gm K X) (w : World) (N : Nat) (hX : At3 L X)
    (h : PyS w p gm L a b noPl) (hM : MemoOk w gm N (At3 L) (valX L a b none)) (hN : N + 3 * K + 1 ≤ 4611686018427387904) :
    Calls Try.prog 79 #[.pointer (some ⟨p, 0, none⟩), atV X] w fun e w' => e = .returned (.int .i64 (valX L a b none X)) ∧ MemoOk w' gm (N + 3 * K + 1) (At3 L) (valX L a b none) ∧ w.grownBy w' (some gm) := by
  unfold atV
  have hn3 := hok.n3
  have HB1 : Below w.heap.size w (w.alloc (.cells #[.int .i64 (X 0 : Nat), .int .i64 (X 1 : Nat), .int .i64 (X 2 : Nat)] 95)) := (Below.refl _ _).alloc (Nat.le_refl _) _
  have bx := Bx3.new w (.int .i64 (X 0 : Nat)) (.int .i64 (X 1 : Nat)) (.int .i64 (X 2 : Nat)) 95
  have HS := Lib.hid (h.below HB1)
  have HM := Lib.hid (hM.kept (grown_of_below HB1 none) (by simp))
  have hgm : gm < w.heap.size := by
    obtain ⟨l, ho, _⟩ := hM
    exact ho.lt
  obtain ⟨x0, x1, x2, xz⟩ := bx
  have e6 := (h.below HB1).vm
  have hpg : p ≠ gm := fun e => by
    have := memo_cell hM ⟨p, 6, none⟩ e
    rw [h.vm] at this
    cases this
  obtain ⟨cv, bv, hlook, hcv⟩ := (hM.kept (grown_of_below HB1 none) (by simp)).look hX (hok.small hX)
  unfold atV at hlook
  have HL := Lib.hid hlook
  clear h hM hlook
  go_enter Try.func79, Try.ntmps79
  go_upto_region 1 with fail
  generalize hu : w.alloc (.cells #[.int .i64 (X 0 : Nat), .int .i64 (X 1 : Nat), .int .i64 (X 2 : Nat)] 95) = u at *
  clear hu
  have hd1 : Below u.heap.size u u.drew := Below.drew (Below.refl _ _)
  have HX := Lib.hid (And.intro x0 (And.intro x1 x2))
  have hS : (fun w' : World => w'.cell? ⟨p, 6, none⟩ = some (.map (some gm)) ∧ w'.cell? ⟨w.heap.size, 0, none⟩ = some (.int .i64 (X 0 : Nat)) ∧ w'.cell? ⟨w.heap.size, 1, none⟩ = some (.int .i64 (X 1 : Nat)) ∧ w'.cell? ⟨w.heap.size, 2, none⟩ = some (.int .i64 (X 2 : Nat)) ∧ w'.heap[gm]? = u.heap[gm]?) u.drew := ⟨e6, x0, x1, x2, rfl⟩
  clear e6 x0 x1 x2
  refine tamed_region (S := fun w' => w'.cell? ⟨p, 6, none⟩ = some (.map (some gm)) ∧ w'.cell? ⟨w.heap.size, 0, none⟩ = some (.int .i64 (X 0 : Nat)) ∧ w'.cell? ⟨w.heap.size, 1, none⟩ = some (.int .i64 (X 1 : Nat)) ∧ w'.cell? ⟨w.heap.size, 2, none⟩ = some (.int .i64 (X 2 : Nat)) ∧ w'.heap[gm]? = u.heap[gm]?) (fun _ => false) (by kernel_rfl) ?_
  refine tame0 (k := 0) ?_ rfl (by kernel_rfl) (by kernel_rfl) (by kernel_rfl) (fun _ _ _ h => h) (by kernel_rfl) (fun v => ?_) ?_
  rotate_left
  · (go_simp; all_goals rfl)
  simp only [Act.put, List.setIfInBounds_toArray]
  refine tame0 (k := 1) ?_ rfl (by kernel_rfl) (by kernel_rfl) (by kernel_rfl) (fun _ _ _ h => h) (by kernel_rfl) (fun v => ?_) ?_
  rotate_left
  · (go_simp; all_goals rfl)
  simp only [Act.put]
  refine tame0 (k := 2) ?_ rfl (by kernel_rfl) (by kernel_rfl) (by kernel_rfl) (fun _ _ _ h => h) (by kernel_rfl) (fun v => ?_) ?_
  rotate_left
  · (go_simp; all_goals rfl)
  simp only [Act.put]
  refine tame (k := 3) ?_ rfl (by kernel_rfl) (by kernel_rfl) (by kernel_rfl) (by kernel_rfl) (fun _ _ _ h => h) (by kernel_rfl) hS (fun v hv => ?_) ?_
  rotate_left
  · (obtain ⟨k1, k2, k3, k4, k5⟩ := hv; go_simp; all_goals rfl)
  simp only [Act.put]
  refine tame (k := 4) ?_ rfl (by kernel_rfl) (by kernel_rfl) (by kernel_rfl) (by kernel_rfl) (fun _ _ _ h => h) (by kernel_rfl) hS (fun v hv => ?_) ?_
  rotate_left
  · (obtain ⟨k1, k2, k3, k4, k5⟩ := hv; go_simp; all_goals rfl)
  simp only [Act.put]
  refine tame (k := 5) ?_ rfl (by kernel_rfl) (by kernel_rfl) (by kernel_rfl) (by kernel_rfl) (fun _ _ _ h => h) (by kernel_rfl) hS (fun v hv => ?_) ?_
  rotate_left
  · (obtain ⟨k1, k2, k3, k4, k5⟩ := hv; have hlk := HL.out v k5; go_simp; all_goals rfl)
  simp only [Act.put]
  refine tame0 (k := 6) ?_ rfl (by kernel_rfl) (by kernel_rfl) (by kernel_rfl) (fun _ _ _ h => h) (by kernel_rfl) (fun v => ?_) ?_
  rotate_left
  · (go_simp; all_goals rfl)
  simp only [Act.put]
  refine tame0 (k := 7) ?_ rfl (by kernel_rfl) (by kernel_rfl) (by kernel_rfl) (fun _ _ _ h => h) (by kernel_rfl) (fun v => ?_) ?_
  rotate_left
  · (go_simp; all_goals rfl)
  simp only [Act.put]
  refine tame0 (k := 8) ?_ rfl (by kernel_rfl) (by kernel_rfl) (by kernel_rfl) (fun _ _ _ h => h) (by kernel_rfl) (fun v => ?_) ?_
  rotate_left
  · (go_simp; all_goals rfl)
  simp only [Act.put]
  have hSv := Lib.hid hS
  clear hS
  refine tame_one (k := 9) (by kernel_rfl) rfl (by kernel_rfl) ?_
  go_simp
  refine ⟨hSv.out, ?_⟩
  refine tame_one (k := 10) (by kernel_rfl) rfl (by kernel_rfl) ?_
  go_simp
  refine ⟨hSv.out, ?_⟩
  refine tame_end (by kernel_rfl) ?_
  have HB2 : Below w.heap.size w u.drew := Below.drew HB1
  have HS2 := Lib.hid (HS.out.keep (w' := u.drew) fun _ _ => rfl)
  have HM2 := Lib.hid (HM.out.same (w' := u.drew) rfl)
  have HX2 : Hid (u.drew.cell? ⟨w.heap.size, 0, none⟩ = some (.int .i64 (X 0 : Nat)) ∧ u.drew.cell? ⟨w.heap.size, 1, none⟩ = some (.int .i64 (X 1 : Nat)) ∧ u.drew.cell? ⟨w.heap.size, 2, none⟩ = some (.int .i64 (X 2 : Nat))) := HX
  have xz2 : w.heap.size < u.drew.heap.size := xz
  clear hSv HX HS HM HL HB1 xz hd1
  generalize u.drew = v at *
  have e7 : v.cell? ⟨p, 7, none⟩ = some .nilFunc := HS2.out.vp
  obtain ⟨A0, c0, e0, r0⟩ := HS2.out.arms
  cases bv
  · clear hcv
    have hnn : (Sem.run Try.prog (binOp BinOp.neq 106 .nilFunc .nilFunc) v) = .ok (.bool false) v := rfl
    go_wp2_with fail
    clear hnn
    go_loopw [7, 44] (fun q j wr => ∃ k : Nat, k ≤ L.length ∧ j = .int .i64 (k : Int) ∧ q = .int .i64 (besTo L a b (valX L a b none) X k) ∧ CS v wr ∧ w.grownBy wr (some gm) ∧ MemoOk wr gm (N + k * K) (At3 L) (valX L a b none)) (fun _ j _ => L.length - (intOf j).toNat)
    case atStart => exact ⟨0, by omega, rfl, rfl, CS.refl _, grown_of_below HB2 _, by simpa using HM2.out⟩
    case round =>
      obtain ⟨vr, rfl⟩ : ∃ vr : World, vr = wr := ⟨_, rfl⟩
      obtain ⟨k, hk, rfl, rfl, hcs, hgr, hmo⟩ := hrel
      clear e0 r0 e7
      have x0 := hcs.cell HX2.out.1
      have x1 := hcs.cell HX2.out.2.1
      have x2 := hcs.cell HX2.out.2.2
      by_cases hlt : k < L.length
      · have hmo' := Lib.hid hmo
        clear hmo
        cases hc : canX L X k
        · have HN := Lib.hid (besTo_no (a := a) (b := b) (V := valX L a b none) hc)
          have C := can_c hok hX.1 hlt p gm false hc vr (HS2.out.keep hcs.2)
          unfold atV at C
          go_wp2_with fail
          refine C.mono ?_
          rintro e v2 ⟨rfl, b2⟩
          clear C
          have hcs2 := hcs.trans (.of_below b2)
          have hgr2 := hgr.trans (grown_of_below b2 _)
          have hmo2 := hmo'.out.kept (grown_of_below b2 none) (by simp)
          clear b2 hcs hgr hmo' x0 x1 x2
          go_wp2_with fail
          go_roundw
          case rel => exact ⟨k + 1, by omega, by go_num, by rw [HN.out], hcs2, hgr2, hmo2.mono (by rw [Nat.succ_mul]; omega)⟩
          case measure => simp [intOf] <;> omega
        · have HN := Lib.hid (besTo_yes (a := a) (b := b) (V := valX L a b none) hc)
          have C := can_c hok hX.1 hlt p gm true hc vr (HS2.out.keep hcs.2)
          unfold atV at C
          go_wp2_with fail
          refine C.mono ?_
          rintro e v2 ⟨rfl, b2⟩
          clear C
          have hcs2 := hcs.trans (.of_below b2)
          have hgr2 := hgr.trans (grown_of_below b2 _)
          have hmo2 := hmo'.out.kept (grown_of_below b2 none) (by simp)
          clear b2 hcs hgr hmo' x0 x1 x2
          have x0 := hcs2.cell HX2.out.1
          have x1 := hcs2.cell HX2.out.2.1
          have x2 := hcs2.cell HX2.out.2.2
          have hkK : (k + 1) * K ≤ 3 * K := Nat.mul_le_mul_right _ (by omega)
          rw [Nat.succ_mul] at hkK
          have C := HP k v2 (N + k * K) hlt hc (HS2.out.keep hcs2.2) hmo2 (by omega)
          unfold atV at C
          have HMo2 := Lib.hid hmo2
          clear hmo2
          go_wp2_with fail
          refine C.mono ?_
          rintro e v3 ⟨rfl, hmo3, hgr3⟩
          clear C
          have hcs3 := hcs2.trans ⟨hgr3.size, memo_same HMo2.out hmo3 hgr3⟩
          have hgr4 := hgr2.trans hgr3
          have hmo4 := Lib.hid hmo3
          clear hcs2 hgr2 hgr3 hmo3 HMo2 x0 x1 x2
          go_wp2_with fail
          go_roundw
          case rel => exact ⟨k + 1, by omega, by go_num, by rw [HN.out]; exact congrArg _ (mx_if _ _), hcs3, hgr4, hmo4.out.mono (by rw [Nat.succ_mul]; omega)⟩
          case measure => simp [intOf] <;> omega
      · obtain rfl : k = L.length := by omega
        have hv0 : valX L a b none X = besTo L a b (valX L a b none) X L.length := valX_eq hok hpl hX.1
        have vm := (HS2.out.keep hcs.2).vm
        have hvb := valX_bd hok hpl hX.1
        obtain ⟨w5, hrun, hmo5, htu⟩ := (hmo.same (w' := vr.drew) rfl).store (hok.small hX) (by unfold maxLen; have := Nat.mul_le_mul_right K hn3; omega) (v := besTo L a b (valX L a b none) X L.length) (WalkArith.wf_i64 (by omega)) (fun Y hY e => by rw [hX.ext hn3 hY e]; exact hv0)
        unfold atV at hrun
        have hgr5 := hgr.trans (show vr.grownBy w5 (some gm) from ⟨htu.grown.os, htu.grown.tape, htu.grown.output, htu.grown.size, htu.grown.block⟩)
        have HV0 := Lib.hid hv0
        have HM5 := Lib.hid hmo5
        clear hv0 hvb hmo hmo5 htu hgr
        go_upto_region 15 with fail
        have hd2 : Below vr.heap.size vr vr.drew := Below.drew (Below.refl _ _)
        have SK2 : Hid (∀ w', Below vr.heap.size vr w' → w'.cell? ⟨p, 6, none⟩ = some (.map (some gm)) ∧ w'.cell? ⟨w.heap.size, 0, none⟩ = some (.int .i64 (X 0 : Nat)) ∧ w'.cell? ⟨w.heap.size, 1, none⟩ = some (.int .i64 (X 1 : Nat)) ∧ w'.cell? ⟨w.heap.size, 2, none⟩ = some (.int .i64 (X 2 : Nat))) := Lib.hid fun w' HV => ⟨(HV.cell (cell_lt vm)).trans vm, (HV.cell (cell_lt x0)).trans x0, (HV.cell (cell_lt x1)).trans x1, (HV.cell (cell_lt x2)).trans x2⟩
        clear vm x0 x1 x2
        have hS2_0 := SK2.out _ hd2
        refine tamed_region (S := fun w' => w'.cell? ⟨p, 6, none⟩ = some (.map (some gm)) ∧ w'.cell? ⟨w.heap.size, 0, none⟩ = some (.int .i64 (X 0 : Nat)) ∧ w'.cell? ⟨w.heap.size, 1, none⟩ = some (.int .i64 (X 1 : Nat)) ∧ w'.cell? ⟨w.heap.size, 2, none⟩ = some (.int .i64 (X 2 : Nat))) (fun k => k == 6) (by kernel_rfl) ?_
        refine tame0 (k := 0) ?_ rfl (by kernel_rfl) (by kernel_rfl) (by kernel_rfl) (fun _ _ _ h => h) (by kernel_rfl) (fun v => ?_) ?_
        rotate_left
        · (go_simp; all_goals rfl)
        simp only [Act.put, List.setIfInBounds_toArray]
        refine tame0 (k := 1) ?_ rfl (by kernel_rfl) (by kernel_rfl) (by kernel_rfl) (fun _ _ _ h => h) (by kernel_rfl) (fun v => ?_) ?_
        rotate_left
        · (go_simp; all_goals rfl)
        simp only [Act.put]
        refine tame0 (k := 2) ?_ rfl (by kernel_rfl) (by kernel_rfl) (by kernel_rfl) (fun _ _ _ h => h) (by kernel_rfl) (fun v => ?_) ?_
        rotate_left
        · (go_simp; all_goals rfl)
        simp only [Act.put]
        refine tameT (k := 3) ?_ rfl (by kernel_rfl) (by kernel_rfl) (by kernel_rfl) (by kernel_rfl) (by kernel_rfl) (fun _ _ _ h => h) (by kernel_rfl) hS2_0 (fun v hv => ?_) ?_
        rotate_left
        · (obtain ⟨k1, k2, k3, k4⟩ := hv; go_simp; all_goals rfl)
        simp only [Act.put]
        refine tameT (k := 4) ?_ rfl (by kernel_rfl) (by kernel_rfl) (by kernel_rfl) (by kernel_rfl) (by kernel_rfl) (fun _ _ _ h => h) (by kernel_rfl) hS2_0 (fun v hv => ?_) ?_
        rotate_left
        · (obtain ⟨k1, k2, k3, k4⟩ := hv; go_simp; all_goals rfl)
        simp only [Act.put]
        refine tame0 (k := 5) ?_ rfl (by kernel_rfl) (by kernel_rfl) (by kernel_rfl) (fun _ _ _ h => h) (by kernel_rfl) (fun v => ?_) ?_
        rotate_left
        · (go_simp; all_goals rfl)
        simp only [Act.put]
        refine tame_one (k := 6) (by kernel_rfl) rfl (by kernel_rfl) ?_
        go_simp
        try (refine ⟨fun h => absurd h (by decide), ?_⟩)
        refine tame_end (by kernel_rfl) ?_
        clear hrun
        go_wp2_with fail
        go_ret
        exact ⟨by rw [HV0.out]; rfl, HM5.out.mono (by have := Nat.mul_le_mul_right K hn3; omega), hgr5⟩
  · have hcv := hcv rfl
    subst hcv
    go_wp2_with fail
    go_ret
    exact ⟨rfl, HM2.out.mono (by omega), grown_of_below HB2 _⟩
theorem plNone (L : List Mkd) : PlOk L none := fun ch h => by cases h
theorem ArmsOk.rem_can {L : List Mkd} {a b : Int} (h : ArmsOk L a b) {X : Nat → Nat} (hX : AtOk L X) {i : Nat} (hi : i < L.length) (hc : canX L X i = true) : 1 ≤ remX L X := by
  have he : endB (mAt L i).P (X i) = false := by simpa [canX] using hc
  have hne : kids (mAt L i).P (X i : Nat) ≠ [] := fun h' => by rw [(kids_nil _).1 h'] at he; cases he
  obtain ⟨h1, h2⟩ := kid_of (h.arm hi).tree.par (List.length_pos_iff.2 hne)
  have := h.rem_kid hX hi h1 h2
  omega
theorem pow28 (m : Nat) : 3 * (9 * 28 ^ (m + 1)) + 1 ≤ 28 ^ (m + 1 + 1) := by
  have h1 : 1 ≤ 28 ^ (m + 1) := Nat.pow_pos (by decide)
  have h2 : 28 ^ (m + 1 + 1) = 28 ^ (m + 1) * 28 := Nat.pow_succ _ _
  omega
theorem valC_none {L : List Mkd} {a b : Int} (hok : ArmsOk L a b) (p gm : Nat) : ∀ m, ValC L a b none noPl p gm m := by
  intro m
  induction m with
  | zero =>
    intro X w N hX hm h hM hN
    unfold Lim at hN
    have HP : PlyC L a b none noPl p gm 0 X := fun i _ _ hi hc _ _ _ => by
      have := hok.rem_can hX.1 hi hc
      omega
    refine (valueN_c hok (plNone L) X HP w N hX h hM (by omega)).mono ?_
    rintro e w' ⟨rfl, h1, h2⟩
    exact ⟨rfl, h1.mono (by omega), h2⟩
  | succ m ih =>
    intro X w N hX hm h hM hN
    unfold Lim at hN
    show Calls _ _ _ _ _
    have h28 := pow28 m
    generalize 28 ^ (m + 1 + 1) = q2 at *
    have HP : PlyC L a b none noPl p gm (9 * 28 ^ (m + 1)) X := fun i w N hi _ h hM hN => play_c hok (plNone L) ih X w N i hX hm hi h hM hN
    refine (valueN_c hok (plNone L) X HP w N hX h hM (by omega)).mono ?_
    rintro e w' ⟨rfl, h1, h2⟩
    exact ⟨rfl, h1.mono (by omega), h2⟩


end Go.Proofs.Ytfobjkdkjlbkfaa
