/- Rows of heads, what lies behind them: the part that needs no struct. (Parts of RowsA, GmB, PyO.) -/
import Derived.Test.YtnhclpajfejnoaaPairs
import Derived.Test.YtnhclpajfejnoaaLaws
import Derived.Test.YtnhclpajfejnoaaButA
import Derived.Maps.AppendAt
namespace Go.Proofs.Ytnhclpajfejnoaa
open Go.RowKit

/-- A row of the call's own of values of one cell. -/
def OwnV (t : TypeId) (w : World) (B : Nat) (A : Option Addr) (c : Nat) (H : List Value) : Prop := w.ownsRow B t 1 (.slice A H.length c) H.length H
section
variable {t : TypeId} {w w' : World} {B : Nat} {A : Option Addr} {c : Nat} {H : List Value}
theorem OwnV.below (h : OwnV t w B A c H) (hb : Below w.heap.size w w') : OwnV t w' B A c H := by
  cases hA : (Value.slice A H.length c).ownBlock with
  | none => exact World.ownsRow.kept h (grown_of_below hb none) (.inl hA)
  | some g => exact World.ownsRow.kept h (grown_of_below hb none) (.inr (by rw [hA]; simp))
theorem OwnV.alloc (h : OwnV t w B A c H) (o : Obj) : OwnV t (w.alloc o) B A c H := World.ownsRow.alloc h o
theorem OwnV.mono {B' : Nat} (h : OwnV t w B A c H) (hB : B' ≤ B) : OwnV t w B' A c H := World.ownsRow.mono h hB
theorem OwnV.ltk (h : OwnV t w B A c H) : ∀ k, blk A = some k → B ≤ k ∧ k < w.heap.size := fun k e => World.ownsRow.lt h k (by rw [ownBlock_slice]; exact e)
theorem OwnV.ge (h : OwnV t w B A c H) : ∀ k, blk A = some k → B ≤ k := fun k e => (h.ltk k e).1
theorem OwnV.grown {row : Option Nat} (h : OwnV t w B A c H) (hg : w.grownBy w' row) (hr : A = none ∨ blk A ≠ row) : OwnV t w' B A c H :=
  World.ownsRow.kept h hg (by rcases hr with h | h; · left; rw [ownBlock_slice, h]; rfl
                              · right; rw [ownBlock_slice]; exact h)
theorem OwnV.form (h : OwnV t w B A c H) (hn : 0 < H.length) : ∃ g, A = some ⟨g, 0, none⟩ ∧ B ≤ g ∧ g < w.heap.size := by
  obtain ⟨g, cap, hv, hb, hlt⟩ := World.ownsRow.form h hn
  injection hv with hA
  exact ⟨g, hA, hb, hlt⟩
theorem OwnV.cell {g k : Nat} {u : Value} (h : OwnV t w B (some ⟨g, 0, none⟩) c H) (hk : H[k]? = some u) : w.cell? ⟨g, k, none⟩ = some u := by
  have hl : k < H.length := (List.getElem?_eq_some_iff.1 hk).1
  have := World.ownsRow.cellAt h k (by omega)
  rw [this, hk]
theorem OwnV.nil (t : TypeId) (w : World) (B : Nat) : OwnV t w B none 0 [] := ⟨rfl, .inl ⟨rfl, rfl⟩⟩
theorem OwnV.lit (t : TypeId) (w : World) (H : List Value) (hx : H.length ≤ 16777216) : OwnV t (w.alloc (.cells H.toArray t)) w.heap.size (some ⟨w.heap.size, 0, none⟩) H.length H := by
  have := World.ownsRow_lit (base := w.heap.size) (e := t) (size := 1) w H.toArray H.length (Nat.le_refl _) (by unfold maxLen; omega) (by simp)
  simpa [OwnV] using this
end
section
variable {ops : Array Oper} {o : Oper} {a : Act} {Q : Exit → Act → World → Prop}
set_option maxRecDepth 10000 in
/-- 'append(xs, v)' on a row of heads of the call's own; v stands in a box of one cell. -/
theorem op_append_one {K : Act → World → Prop} (ts t : TypeId) (hu : Try.prog.underlying ts = some (.slice t)) (hinf : (Try.prog.info? t).map (fun i => (i.zero, i.size, i.bytes)) = some (some (.slice none 0 0), 1, 24))
    (w : World) (s x : Operand) (ho : o.op = .call { callee := .builtin .append, args := #[s, x], argTypes := #[ts, ts] })
    (B : Nat) (A : Option Addr) (n c : Nat) (H : List Value) (hs : a.eval s = .slice A n c) (hn : n = H.length) (hown : OwnV t w B A c H)
    (g c' : Nat) (v : Value) (hx : a.eval x = .slice (some ⟨g, 0, none⟩) 1 c') (hr : w.cell? ⟨g, 0, none⟩ = some v) (hone : v.oneCell' = true)
    (h63 : H.length + 1 ≤ 65536) (hB : B ≤ w.heap.size)
    (h : ∀ g c2 w', OwnV t w' B (some ⟨g, 0, none⟩) c2 (H ++ [v]) → w.grownBy w' (blk A) → (some g = blk A ∨ g = w.heap.size) → K (a.put o.dst (.slice (some ⟨g, 0, none⟩) (n + 1) c2)) w') :
    o.wp Try.prog a w K Q := by
  subst hn
  obtain ⟨i0, hi, hz0, hz1, hz2⟩ := info_parts hinf
  have hb : ((H.length + 1) * 24) ≤ 140737488355328 := by omega
  obtain ⟨v', w', hrun, h2, h3, _, h5⟩ := run_append_own_at (P := Try.prog) w B ts o.type t i0 _ 1 24 hu hi hz0 hz1 hz2 rfl (by omega)
    _ H.length H hown ⟨g, 0, none⟩ 1 c' [v] (by simp) (fun j u hj => by
      have : j = 0 := by
        have := (List.getElem?_eq_some_iff.1 hj).1
        simp at this
        omega
      subst this
      simp at hj
      subst hj
      simpa [Addr.add] using hr) (fun u hu => by rw [List.mem_singleton.1 hu]; exact hone) (by unfold maxLen; omega) hb hB
  obtain ⟨g, cap, rfl, _, _⟩ := World.ownsRow.form h2 (by omega)
  rw [ownBlock_slice] at h3
  unfold Oper.wp execOp
  simp only [ho, resolve, invoke, builtin, Sem.run_bind, Sem.run_pure, Result.andThen_ok, List.map_toArray, List.map_cons, List.map_nil, hs, hx, hrun]
  refine h g cap w' ?_ h3 ?_
  · unfold OwnV
    rw [List.length_append]
    exact h2
  · simp only [ownBlock_slice] at h5
    rcases h5 with h5 | h5
    · exact .inl h5
    · right
      have h5 : some g = some w.heap.size := h5
      injection h5
end

/-- What is not in a block of D is as it was. -/
structure Kept (w v : World) (D : Nat → Prop) : Prop where
  size : w.heap.size ≤ v.heap.size
  block : ∀ k, k < w.heap.size → ¬ D k → v.heap[k]? = w.heap[k]?
section
variable {w v x : World} {D D' : Nat → Prop}
theorem Kept.cell (h : Kept w v D) {p : Addr} (hp : p.block < w.heap.size) (hd : ¬ D p.block) : v.cell? p = w.cell? p := World.cell?_of_block (h.block _ hp hd)
theorem Kept.of_grown {row : Option Nat} (hg : w.grownBy v row) (hr : ∀ b, row = some b → D b) : Kept w v D :=
  ⟨hg.size, fun k hk hd => hg.block k hk fun e => hd (hr k e.symm)⟩
theorem Kept.of_below (hb : Below w.heap.size w v) : Kept w v D := ⟨hb.size, fun k hk _ => hb.block k hk⟩
theorem Kept.trans (h : Kept w v D) (h' : Kept v x D) : Kept w x D :=
  ⟨Nat.le_trans h.size h'.size, fun k hk hd => (h'.block k (Nat.lt_of_lt_of_le hk h.size) hd).trans (h.block k hk hd)⟩
theorem Kept.to (h : Kept w v D') (hd : ∀ b, b < w.heap.size → D' b → D b) : Kept w v D := ⟨h.size, fun k hk hn => h.block k hk fun e => hn (hd k hk e)⟩
theorem Kept.set (a : Addr) (u : Value) (hd : D a.block) : Kept w (w.setCell a u) D :=
  ⟨by rw [World.size_setCell]; exact Nat.le_refl _, fun k _ hn => by
    have hne : a.block ≠ k := fun e => hn (e ▸ hd)
    simp [World.setCell, Array.getElem?_modify, hne]⟩
end
/-- What lies behind a value stays as long as the blocks of D alone are written. -/
structure Stays {α : Type} (Lie : World → (Nat → Prop) → Value → α → Prop) : Prop where
  keep : ∀ {w v : World} {D : Nat → Prop} {u : Value} {x : α}, Lie w D u x → Kept w v D → Lie v D u x
  wide : ∀ {w : World} {D D' : Nat → Prop} {u : Value} {x : α}, Lie w D u x → (∀ b, b < w.heap.size → D' b → D b) → Lie w D' u x
  one : ∀ {w : World} {D : Nat → Prop} {u : Value} {x : α}, Lie w D u x → u.oneCell' = true
/-- A list of numbers. -/
def Lies0 (w : World) (D : Nat → Prop) (u : Value) (xs : List Int) : Prop :=
  ∃ a c, u = .slice a xs.length c ∧ Rd w a (ints xs) ∧ ∀ ad, a = some ad → ad.block < w.heap.size ∧ ¬ D ad.block
theorem stays0 : Stays Lies0 where
  keep := fun {w v D u x} h hk => by
    obtain ⟨a, c, rfl, hr, hd⟩ := h
    refine ⟨a, c, rfl, hr.keep fun p hp hA => ?_, fun ad e => ⟨Nat.lt_of_lt_of_le (hd ad e).1 hk.size, (hd ad e).2⟩⟩
    rcases a with _ | ad
    · simp at hA
    · simp at hA
      exact hk.cell hp (by rw [← hA]; exact (hd ad rfl).2)
  wide := fun {w D D' u x} h hd' => by
    obtain ⟨a, c, rfl, hr, hd⟩ := h
    exact ⟨a, c, rfl, hr, fun ad e => ⟨(hd ad e).1, fun h => (hd ad e).2 (hd' _ (hd ad e).1 h)⟩⟩
  one := fun {w D u x} h => by
    obtain ⟨a, c, rfl, _⟩ := h
    rfl
/-- A row of n heads: behind number k lies f k. -/
def LiesR {α : Type} (Lie : World → (Nat → Prop) → Value → α → Prop) (w : World) (D : Nat → Prop) (u : Value) (x : Nat × (Nat → α)) : Prop :=
  ∃ a c, u = .slice a x.1 c ∧ (∀ k, k < x.1 → ∃ ad v, a = some ad ∧ w.cell? (ad.add k) = some v ∧ Lie w D v (x.2 k)) ∧ ∀ ad, a = some ad → ad.block < w.heap.size ∧ ¬ D ad.block
theorem Stays.row {α : Type} {Lie : World → (Nat → Prop) → Value → α → Prop} (S : Stays Lie) : Stays (LiesR Lie) where
  keep := fun {w v D u x} h hk => by
    obtain ⟨a, c, rfl, hr, hd⟩ := h
    refine ⟨a, c, rfl, fun k hk' => ?_, fun ad e => ⟨Nat.lt_of_lt_of_le (hd ad e).1 hk.size, (hd ad e).2⟩⟩
    obtain ⟨ad, v, rfl, hc, hl⟩ := hr k hk'
    exact ⟨ad, v, rfl, (hk.cell (cell_lt hc) (by rw [block_of_add]; exact (hd ad rfl).2)).trans hc, S.keep hl hk⟩
  wide := fun {w D D' u x} h hd' => by
    obtain ⟨a, c, rfl, hr, hd⟩ := h
    refine ⟨a, c, rfl, fun k hk' => ?_, fun ad e => ⟨(hd ad e).1, fun h => (hd ad e).2 (hd' _ (hd ad e).1 h)⟩⟩
    obtain ⟨ad, v, rfl, hc, hl⟩ := hr k hk'
    exact ⟨ad, v, rfl, hc, S.wide hl hd'⟩
  one := fun {w D u x} h => by
    obtain ⟨a, c, rfl, _⟩ := h
    rfl
/-- The heads themselves. -/
structure HeadsT {α : Type} (Lie : World → (Nat → Prop) → Value → α → Prop) (w : World) (D : Nat → Prop) (H : List Value) (n : Nat) (f : Nat → α) : Prop where
  len : H.length = n
  at_ : ∀ j, j < n → ∃ v, H[j]? = some v ∧ Lie w D v (f j)
section
variable {α : Type} {Lie : World → (Nat → Prop) → Value → α → Prop} {w w' : World} {D D' : Nat → Prop} {H : List Value} {n : Nat} {f : Nat → α}
theorem HeadsT.keep (S : Stays Lie) (h : HeadsT Lie w D H n f) (hk : Kept w w' D) : HeadsT Lie w' D H n f := ⟨h.len, fun j hj => by
  obtain ⟨v, h1, h2⟩ := h.at_ j hj
  exact ⟨v, h1, S.keep h2 hk⟩⟩
theorem HeadsT.to (S : Stays Lie) (h : HeadsT Lie w D H n f) (hd : ∀ b, b < w.heap.size → D' b → D b) : HeadsT Lie w D' H n f := ⟨h.len, fun j hj => by
  obtain ⟨v, h1, h2⟩ := h.at_ j hj
  exact ⟨v, h1, S.wide h2 hd⟩⟩
theorem HeadsT.nil (w : World) (D : Nat → Prop) (f : Nat → α) : HeadsT Lie w D [] 0 f := ⟨rfl, fun j hj => by omega⟩
theorem HeadsT.snoc {v : Value} (h : HeadsT Lie w D H n f) (hl : Lie w D v (f n)) : HeadsT Lie w D (H ++ [v]) (n + 1) f := ⟨by rw [List.length_append, h.len]; rfl, fun j hj => by
  rcases Nat.lt_or_ge j n with h' | h'
  · obtain ⟨v', h1, h2⟩ := h.at_ j h'
    exact ⟨v', by rw [List.getElem?_append_left (by rw [h.len]; exact h')]; exact h1, h2⟩
  · obtain rfl : j = n := by omega
    exact ⟨v, by rw [← h.len]; simp, hl⟩⟩
theorem HeadsT.lies {t : TypeId} {B c : Nat} {A : Option Addr} (h : HeadsT Lie w D H n f) (ho : OwnV t w B A c H) (hd : ∀ k, blk A = some k → ¬ D k) : LiesR Lie w D (.slice A n c) (n, f) :=
  ⟨A, c, rfl, fun k hk => by
    obtain ⟨g, rfl, _, _⟩ := ho.form (by rw [h.len]; exact Nat.lt_of_le_of_lt (Nat.zero_le _) hk)
    obtain ⟨v, h1, h2⟩ := h.at_ k hk
    exact ⟨_, v, rfl, by rw [Addr.add_lit, Nat.zero_add]; exact ho.cell h1, h2⟩, fun ad e => by
    subst e
    exact ⟨(ho.ltk _ rfl).2, hd _ rfl⟩⟩
end
theorem Own.lies {w : World} {B c : Nat} {A : Option Addr} {xs : List Int} {D : Nat → Prop} (h : Own w B A c xs) (hd : ∀ k, blk A = some k → ¬ D k) : Lies0 w D (.slice A xs.length c) xs :=
  ⟨A, c, rfl, h.rd, fun ad e => ⟨(h.lt ad e).2, hd _ (by rw [e]; rfl)⟩⟩

/-- A row of pairs. -/
def LiesP (w : World) (D : Nat → Prop) (u : Value) (ps : List (Int × Int)) : Prop :=
  ∃ a c, u = .slice a ps.length c ∧ Rd w a (pcells ps) ∧ ∀ ad, a = some ad → ad.block < w.heap.size ∧ ¬ D ad.block
theorem staysP : Stays LiesP := by
  refine ⟨fun {w v D u x} h hk => ?_, fun {w D D' u x} h hd' => ?_, fun {w D u x} h => ?_⟩
  · obtain ⟨a, c, rfl, hr, hd⟩ := h
    refine ⟨a, c, rfl, hr.keep fun p hp hA => ?_, fun ad e => ⟨Nat.lt_of_lt_of_le (hd ad e).1 hk.size, (hd ad e).2⟩⟩
    rcases a with _ | ad
    · simp at hA
    · simp at hA
      exact hk.cell hp (by rw [← hA]; exact (hd ad rfl).2)
  · obtain ⟨a, c, rfl, hr, hd⟩ := h
    exact ⟨a, c, rfl, hr, fun ad e => ⟨(hd ad e).1, fun h => (hd ad e).2 (hd' _ (hd ad e).1 h)⟩⟩
  · obtain ⟨a, c, rfl, _⟩ := h
    rfl
/-- Rows of pairs that are read. -/
def RdN (w : World) (A : Option Addr) (n : Nat) (f : Nat → List (Int × Int)) : Prop := ∀ k, k < n → ∃ ad A' c, A = some ad ∧ w.cell? (ad.add k) = some (.slice A' (f k).length c) ∧ Rd w A' (pcells (f k))
theorem RdN.keep {w w' : World} {A : Option Addr} {n : Nat} {f : Nat → List (Int × Int)} (h : RdN w A n f) (hk : ∀ p : Addr, p.block < w.heap.size → w'.cell? p = w.cell? p) : RdN w' A n f := fun k hk' => by
  obtain ⟨ad, A', c, rfl, h1, h2⟩ := h k hk'
  exact ⟨ad, A', c, rfl, (hk _ (cell_lt h1)).trans h1, h2.keep fun p hp _ => hk p hp⟩
theorem RdN.below {w w' : World} {A : Option Addr} {n : Nat} {f : Nat → List (Int × Int)} (h : RdN w A n f) (hb : Below w.heap.size w w') : RdN w' A n f := h.keep fun _ hp => hb.cell hp
theorem heads_n {w : World} {t : TypeId} {B c n : Nat} {A : Option Addr} {D : Nat → Prop} {H : List Value} {f : Nat → List (Int × Int)} (ho : OwnV t w B A c H) (hh : HeadsT LiesP w D H n f) : RdN w A n f := by
  intro k hk
  obtain ⟨g, rfl, _, _⟩ := ho.form (by rw [hh.len]; omega)
  obtain ⟨v, h1, a, c', rfl, h3, _⟩ := hh.at_ k hk
  exact ⟨_, a, c', rfl, by rw [Addr.add_lit, Nat.zero_add]; exact ho.cell h1, h3⟩
theorem OwnP.lies {w : World} {B c : Nat} {A : Option Addr} {ps : List (Int × Int)} {D : Nat → Prop} (h : OwnP w B A c ps) (hd : ∀ k, blk A = some k → ¬ D k) : LiesP w D (.slice A ps.length c) ps :=
  ⟨A, c, rfl, Rd.of_own h, fun ad e => ⟨h.ltk _ (by rw [e]; rfl), hd _ (by rw [e]; rfl)⟩⟩
section
variable {ops : Array Oper} {rest : List Oper} {o : Oper} {a : Act} {Q : Exit → Act → World → Prop}
theorem wp_append_oneV (ts t : TypeId) (hu : Try.prog.underlying ts = some (.slice t)) (hinf : (Try.prog.info? t).map (fun i => (i.zero, i.size, i.bytes)) = some (some (.slice none 0 0), 1, 24))
    (w : World) (hgd : o.guard = none) (s x : Operand) (ho : o.op = .call { callee := .builtin .append, args := #[s, x], argTypes := #[ts, ts] })
    (B : Nat) (A : Option Addr) (n c : Nat) (H : List Value) (hs : a.eval s = .slice A n c) (hn : n = H.length) (hown : OwnV t w B A c H)
    (g c' : Nat) (v : Value) (hx : a.eval x = .slice (some ⟨g, 0, none⟩) 1 c') (hr : w.cell? ⟨g, 0, none⟩ = some v) (hone : v.oneCell' = true)
    (h63 : H.length + 1 ≤ 65536) (hB : B ≤ w.heap.size)
    (h : ∀ g c2 w', OwnV t w' B (some ⟨g, 0, none⟩) c2 (H ++ [v]) → w.grownBy w' (blk A) → (some g = blk A ∨ g = w.heap.size) → wpList Try.prog ops Q rest (a.put o.dst (.slice (some ⟨g, 0, none⟩) (n + 1) c2)) w') :
    wpList Try.prog ops Q (o :: rest) a w :=
  wpList_plain hgd fun _ hK => op_append_one ts t hu hinf w s x ho B A n c H hs hn hown g c' v hx hr hone h63 hB fun g c2 w' h2 h3 h4 => hK _ _ (h g c2 w' h2 h3 h4)
theorem phead_info : (Try.prog.info? 36).map (fun i => (i.zero, i.size, i.bytes)) = some (some (.slice none 0 0), 1, 24) := by kernel_rfl
end
section
variable {w w' : World}
/-- A row has grown: what lay behind others' heads lies there still. -/
theorem push_keep {α : Type} {Lie : World → (Nat → Prop) → Value → α → Prop} (S : Stays Lie) {D D2 : Nat → Prop} {A A2 : Option Addr} {u : Value} {z : α} (h : Lie w D u z) (g : w.grownBy w' (blk A)) (hA : ∀ b, blk A = some b → D b) (t : blk A2 = blk A ∨ ∃ g, blk A2 = some g ∧ w.heap.size ≤ g)
    (hD : ∀ b, D2 b → D b ∨ blk A2 = some b) : Lie w' D2 u z := by
  have h1 : Lie w (fun b => D b ∨ blk A2 = some b) u z := S.wide h fun b hb hd => by
    rcases hd with hd | hd
    · exact hd
    · rcases t with t | ⟨g, t, hg⟩
      · exact hA b (by rw [← t]; exact hd)
      · rw [t] at hd
        injection hd with hd
        omega
  exact S.wide (S.keep h1 (.of_grown g fun b hb => .inl (hA b hb))) fun b _ hd => hD b hd
theorem HeadsT.push {α : Type} {Lie : World → (Nat → Prop) → Value → α → Prop} (S : Stays Lie) {D D2 : Nat → Prop} {A A2 : Option Addr} {G : List Value} {n : Nat} {f : Nat → α} (h : HeadsT Lie w D G n f) (g : w.grownBy w' (blk A)) (hA : ∀ b, blk A = some b → D b) (t : blk A2 = blk A ∨ ∃ g, blk A2 = some g ∧ w.heap.size ≤ g)
    (hD : ∀ b, D2 b → D b ∨ blk A2 = some b) : HeadsT Lie w' D2 G n f := ⟨h.len, fun j hj => by
  obtain ⟨v, h1, h2⟩ := h.at_ j hj
  exact ⟨v, h1, push_keep S h2 g hA t hD⟩⟩
end
end Go.Proofs.Ytnhclpajfejnoaa
