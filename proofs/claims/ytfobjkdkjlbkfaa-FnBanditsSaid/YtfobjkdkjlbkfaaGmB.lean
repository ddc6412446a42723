/- The reference's game: its start; the best value on both sides. -/
import Derived.Test.YtfobjkdkjlbkfaaGmA
import Derived.Test.YtfobjkdkjlbkfaaRowsA
import Derived.Test.YtfobjkdkjlbkfaaPairs
import Derived.Test.YtfobjkdkjlbkfaaPyA
import Derived.Test.YtfobjkdkjlbkfaaLvB
import Derived.Test.YtfobjkdkjlbkfaaIxA
import Derived.Test.YtfobjkdkjlbkfaaPyB
namespace Go.Proofs.Ytfobjkdkjlbkfaa
open Go.RowKit

/-- A row of pairs. -/
def LiesP (w : World) (D : Nat → Prop) (u : Value) (ps : List (Int × Int)) : Prop :=
  ∃ a c, u = .slice a ps.length c ∧ Rd w a (pcells ps) ∧ ∀ ad, a = some ad → ad.block < w.heap.size ∧ ¬ D ad.block
theorem staysP : Stays LiesP := by
  refine ⟨fun {w v D u x} h hk => ?_, fun {w D D' u x} h hd' => ?_, fun {w D u x} h => ?_⟩
  · obtain ⟨a, c, rfl, hr, hd⟩ := h
    refine ⟨a, c, rfl, hr.keep fun p hp hA => ?_, fun ad e => ⟨Nat.lt_of_lt_of_le (hd ad e).1 hk.size, (hd ad e).2⟩⟩
    rcases a with _ | ad
    · simp at hA
    · simp at hA
      exact hk.cell hp (by rw [← hA]; exact (hd ad rfl).2)
  · obtain ⟨a, c, rfl, hr, hd⟩ := h
    exact ⟨a, c, rfl, hr, fun ad e => ⟨(hd ad e).1, fun h => (hd ad e).2 (hd' _ (hd ad e).1 h)⟩⟩
  · obtain ⟨a, c, rfl, _⟩ := h
    rfl
/-- Rows of pairs that are read. -/
def RdN (w : World) (A : Option Addr) (n : Nat) (f : Nat → List (Int × Int)) : Prop := ∀ k, k < n → ∃ ad A' c, A = some ad ∧ w.cell? (ad.add k) = some (.slice A' (f k).length c) ∧ Rd w A' (pcells (f k))
theorem RdN.keep {w w' : World} {A : Option Addr} {n : Nat} {f : Nat → List (Int × Int)} (h : RdN w A n f) (hk : ∀ p : Addr, p.block < w.heap.size → w'.cell? p = w.cell? p) : RdN w' A n f := fun k hk' => by
  obtain ⟨ad, A', c, rfl, h1, h2⟩ := h k hk'
  exact ⟨ad, A', c, rfl, (hk _ (cell_lt h1)).trans h1, h2.keep fun p hp _ => hk p hp⟩
theorem RdN.below {w w' : World} {A : Option Addr} {n : Nat} {f : Nat → List (Int × Int)} (h : RdN w A n f) (hb : Below w.heap.size w w') : RdN w' A n f := h.keep fun _ hp => hb.cell hp
theorem heads_n {w : World} {t : TypeId} {B c n : Nat} {A : Option Addr} {D : Nat → Prop} {H : List Value} {f : Nat → List (Int × Int)} (ho : OwnV t w B A c H) (hh : HeadsT LiesP w D H n f) : RdN w A n f := by
  intro k hk
  obtain ⟨g, rfl, _, _⟩ := ho.form (by rw [hh.len]; omega)
  obtain ⟨v, h1, a, c', rfl, h3, _⟩ := hh.at_ k hk
  exact ⟨_, a, c', rfl, by rw [Addr.add_lit, Nat.zero_add]; exact ho.cell h1, h3⟩
theorem heads_u {w : World} {t : TypeId} {B c n : Nat} {A : Option Addr} {D : Nat → Prop} {H : List Value} {xss : List (List Int)} {f : Nat → List Int} (ho : OwnV t w B A c H) (hh : HeadsT Lies0 w D H n f) (hl : xss.length = n) (hf : ∀ k, k < n → rowAt xss k = f k) : RdSS w A xss := by
  intro k hk
  have hk' : k < n := by omega
  obtain ⟨g, rfl, _, _⟩ := ho.form (by rw [hh.len]; omega)
  obtain ⟨v, h1, a, c', rfl, h3, _⟩ := hh.at_ k hk'
  exact ⟨_, a, c', rfl, by rw [Addr.add_lit, Nat.zero_add, hf k hk']; exact ho.cell h1, by rw [hf k hk']; exact h3⟩
/-- The two rows: units and numbers of the first ku, kn arms. -/
structure StR (w : World) (B g : Nat) (fu : Nat → List Int) (fn : Nat → List (Int × Int)) (ku kn : Nat) (AU : Option Addr) (cU : Nat) (HU : List Value) (AN : Option Addr) (cN : Nat) (HN : List Value) : Prop where
  ou : OwnV 24 w B AU cU HU
  on : OwnV 34 w B AN cN HN
  ne : AU = none ∨ blk AU ≠ blk AN
  gu : blk AU ≠ some g
  gn : blk AN ≠ some g
  hu : HeadsT Lies0 w (fun b => b < B ∨ b = g ∨ blk AU = some b ∨ blk AN = some b) HU ku fu
  hn : HeadsT LiesP w (fun b => b < B ∨ b = g ∨ blk AU = some b ∨ blk AN = some b) HN kn fn
section
variable {w w' : World} {B g ku kn : Nat} {fu : Nat → List Int} {fn : Nat → List (Int × Int)} {AU : Option Addr} {cU : Nat} {HU : List Value} {AN : Option Addr} {cN : Nat} {HN : List Value}
theorem StR.below (h : StR w B g fu fn ku kn AU cU HU AN cN HN) (hb : Below w.heap.size w w') : StR w' B g fu fn ku kn AU cU HU AN cN HN :=
  ⟨h.ou.below hb, h.on.below hb, h.ne, h.gu, h.gn, h.hu.keep stays0 (.of_below hb), h.hn.keep staysP (.of_below hb)⟩
theorem StR.set (h : StR w B g fu fn ku kn AU cU HU AN cN HN) (j : Nat) (x : Value) : StR (w.setCell ⟨g, j, none⟩ x) B g fu fn ku kn AU cU HU AN cN HN := by
  have hg := grown_setCell w ⟨g, j, none⟩ x
  have hk : Kept w (w.setCell ⟨g, j, none⟩ x) fun b => b < B ∨ b = g ∨ blk AU = some b ∨ blk AN = some b := Kept.set _ _ (.inr (.inl rfl))
  exact ⟨h.ou.grown hg (.inr h.gu), h.on.grown hg (.inr h.gn), h.ne, h.gu, h.gn, h.hu.keep stays0 hk, h.hn.keep staysP hk⟩
/-- A store below the rows' base. -/
theorem StR.low (h : StR w B g fu fn ku kn AU cU HU AN cN HN) {r : Nat} (hr : r < B) (j : Nat) (x : Value) : StR (w.setCell ⟨r, j, none⟩ x) B g fu fn ku kn AU cU HU AN cN HN := by
  have hg := grown_setCell w ⟨r, j, none⟩ x
  have hk : Kept w (w.setCell ⟨r, j, none⟩ x) fun b => b < B ∨ b = g ∨ blk AU = some b ∨ blk AN = some b := Kept.set _ _ (.inl hr)
  have n1 : blk AU ≠ some r := fun e => by have := h.ou.ge r e; omega
  have n2 : blk AN ≠ some r := fun e => by have := h.on.ge r e; omega
  exact ⟨h.ou.grown hg (.inr n1), h.on.grown hg (.inr n2), h.ne, h.gu, h.gn, h.hu.keep stays0 hk, h.hn.keep staysP hk⟩
theorem t_ne {A2 : Option Addr} {A : Option Addr} {g : Nat} (h : blk A ≠ some g) (t : blk A2 = blk A ∨ ∃ r, blk A2 = some r ∧ w.heap.size ≤ r) (hg : g < w.heap.size) : blk A2 ≠ some g := by
  rcases t with t | ⟨r, t, hr⟩
  · rw [t]; exact h
  · rw [t]; intro e; injection e with e; omega
theorem StR.pushU (h : StR w B g fu fn ku kn AU cU HU AN cN HN) (hgw : g < w.heap.size) {v : Value} {A2 : Option Addr} {c2 : Nat} (o : OwnV 24 w' B A2 c2 (HU ++ [v])) (gr : w.grownBy w' (blk AU)) (t : blk A2 = blk AU ∨ ∃ r, blk A2 = some r ∧ w.heap.size ≤ r)
    (l : Lies0 w (fun b => b < B ∨ b = g ∨ blk AU = some b ∨ blk AN = some b) v (fu ku)) : StR w' B g fu fn (ku + 1) kn A2 c2 (HU ++ [v]) AN cN HN := by
  have hD : ∀ b, (b < B ∨ b = g ∨ blk A2 = some b ∨ blk AN = some b) → (b < B ∨ b = g ∨ blk AU = some b ∨ blk AN = some b) ∨ blk A2 = some b := fun b h => by
    rcases h with h | h | h | h
    · exact .inl (.inl h)
    · exact .inl (.inr (.inl h))
    · exact .inr h
    · exact .inl (.inr (.inr (.inr h)))
  exact ⟨o, h.on.grown gr (ne_symm h.ne), push_ne h.ne t fun b hb => (h.on.ltk b hb).2, t_ne h.gu t hgw, h.gn, (h.hu.push stays0 gr (fun b hb => .inr (.inr (.inl hb))) t hD).snoc (push_keep stays0 l gr (fun b hb => .inr (.inr (.inl hb))) t hD), h.hn.push staysP gr (fun b hb => .inr (.inr (.inl hb))) t hD⟩
theorem StR.pushN (h : StR w B g fu fn ku kn AU cU HU AN cN HN) (hgw : g < w.heap.size) {v : Value} {A2 : Option Addr} {c2 : Nat} (o : OwnV 34 w' B A2 c2 (HN ++ [v])) (gr : w.grownBy w' (blk AN)) (t : blk A2 = blk AN ∨ ∃ r, blk A2 = some r ∧ w.heap.size ≤ r)
    (l : LiesP w (fun b => b < B ∨ b = g ∨ blk AU = some b ∨ blk AN = some b) v (fn kn)) : StR w' B g fu fn ku (kn + 1) AU cU HU A2 c2 (HN ++ [v]) := by
  have hD : ∀ b, (b < B ∨ b = g ∨ blk AU = some b ∨ blk A2 = some b) → (b < B ∨ b = g ∨ blk AU = some b ∨ blk AN = some b) ∨ blk A2 = some b := fun b h => by
    rcases h with h | h | h | h
    · exact .inl (.inl h)
    · exact .inl (.inr (.inl h))
    · exact .inl (.inr (.inr (.inl h)))
    · exact .inr h
  exact ⟨h.ou.grown gr h.ne, o, ne_symm (push_ne (ne_symm h.ne) t fun b hb => (h.ou.ltk b hb).2), h.gu, t_ne h.gn t hgw, h.hu.push stays0 gr (fun b hb => .inr (.inr (.inr hb))) t hD, (h.hn.push staysP gr (fun b hb => .inr (.inr (.inr hb))) t hD).snoc (push_keep staysP l gr (fun b hb => .inr (.inr (.inr hb))) t hD)⟩
end
theorem OwnP.lies {w : World} {B c : Nat} {A : Option Addr} {ps : List (Int × Int)} {D : Nat → Prop} (h : OwnP w B A c ps) (hd : ∀ k, blk A = some k → ¬ D k) : LiesP w D (.slice A ps.length c) ps :=
  ⟨A, c, rfl, Rd.of_own h, fun ad e => ⟨h.ltk _ (by rw [e]; rfl), hd _ (by rw [e]; rfl)⟩⟩
/-- A box of five cells, two of them free to be written. -/
structure BxF (w : World) (g : Nat) (x0 x1 x2 x3 x4 : Value) : Prop where
  bx : Bx5 w g x0 x1 x2 x3 x4
  z : ∀ j, w.frozen? ⟨g, j, none⟩ = false
  lt : g < w.heap.size
theorem BxF.new (w : World) (x0 x1 x2 x3 x4 : Value) (t : TypeId) : BxF (w.alloc (.cells #[x0, x1, x2, x3, x4] t)) w.heap.size x0 x1 x2 x3 x4 :=
  ⟨Bx5.new w x0 x1 x2 x3 x4 t, fun j => frozen_of_row _ _ j _ _ (heap_alloc_new w _), by simp⟩
section
variable {w w' : World} {g : Nat} {x0 x1 x2 x3 x4 : Value}
theorem BxF.same (h : BxF w g x0 x1 x2 x3 x4) (hg : w'.heap[g]? = w.heap[g]?) (hs : w.heap.size ≤ w'.heap.size) : BxF w' g x0 x1 x2 x3 x4 := by
  have hc : ∀ j, w'.cell? ⟨g, j, none⟩ = w.cell? ⟨g, j, none⟩ := fun j => World.cell?_of_block (a := ⟨g, j, none⟩) hg
  exact ⟨⟨(hc _).trans h.bx.c0, (hc _).trans h.bx.c1, (hc _).trans h.bx.c2, (hc _).trans h.bx.c3, (hc _).trans h.bx.c4⟩, fun j => (World.frozen?_of_block (a := ⟨g, j, none⟩) hg).trans (h.z j), Nat.lt_of_lt_of_le h.lt hs⟩
theorem BxF.below (h : BxF w g x0 x1 x2 x3 x4) (hb : Below w.heap.size w w') : BxF w' g x0 x1 x2 x3 x4 := h.same (hb.block g h.lt) hb.size
theorem BxF.grown {row : Option Nat} (h : BxF w g x0 x1 x2 x3 x4) (hg : w.grownBy w' row) (hr : row ≠ some g) : BxF w' g x0 x1 x2 x3 x4 := h.same (hg.block g h.lt fun e => hr e.symm) hg.size
theorem BxF.set1 (h : BxF w g x0 x1 x2 x3 x4) (y : Value) : BxF (w.setCell ⟨g, 1, none⟩ y) g x0 y x2 x3 x4 := by
  obtain ⟨⟨h0, h1, h2, h3, h4⟩, hz, hl⟩ := h
  exact ⟨⟨by simp [go_sem, h0], by simp [go_sem, h1], by simp [go_sem, h2], by simp [go_sem, h3], by simp [go_sem, h4]⟩, fun j => by simp [go_sem, hz], by simpa [World.size_setCell] using hl⟩
theorem BxF.set2 (h : BxF w g x0 x1 x2 x3 x4) (y : Value) : BxF (w.setCell ⟨g, 2, none⟩ y) g x0 x1 y x3 x4 := by
  obtain ⟨⟨h0, h1, h2, h3, h4⟩, hz, hl⟩ := h
  exact ⟨⟨by simp [go_sem, h0], by simp [go_sem, h1], by simp [go_sem, h2], by simp [go_sem, h3], by simp [go_sem, h4]⟩, fun j => by simp [go_sem, hz], by simpa [World.size_setCell] using hl⟩
end
section
variable {ops : Array Oper} {rest : List Oper} {o : Oper} {a : Act} {Q : Exit → Act → World → Prop}
theorem wp_append_oneV (ts t : TypeId) (hu : Try.prog.underlying ts = some (.slice t)) (hinf : (Try.prog.info? t).map (fun i => (i.zero, i.size, i.bytes)) = some (some (.slice none 0 0), 1, 24))
    (w : World) (hgd : o.guard = none) (s x : Operand) (ho : o.op = .call { callee := .builtin .append, args := #[s, x], argTypes := #[ts, ts] })
    (B : Nat) (A : Option Addr) (n c : Nat) (H : List Value) (hs : a.eval s = .slice A n c) (hn : n = H.length) (hown : OwnV t w B A c H)
    (g c' : Nat) (v : Value) (hx : a.eval x = .slice (some ⟨g, 0, none⟩) 1 c') (hr : w.cell? ⟨g, 0, none⟩ = some v) (hone : v.oneCell' = true)
    (h63 : H.length + 1 ≤ 65536) (hB : B ≤ w.heap.size)
    (h : ∀ g c2 w', OwnV t w' B (some ⟨g, 0, none⟩) c2 (H ++ [v]) → w.grownBy w' (blk A) → (some g = blk A ∨ g = w.heap.size) → wpList Try.prog ops Q rest (a.put o.dst (.slice (some ⟨g, 0, none⟩) (n + 1) c2)) w') :
    wpList Try.prog ops Q (o :: rest) a w :=
  wpList_plain hgd fun _ hK => op_append_one ts t hu hinf w s x ho B A n c H hs hn hown g c' v hx hr hone h63 hB fun g c2 w' h2 h3 h4 => hK _ _ (h g c2 w' h2 h3 h4)
theorem phead_info : (Try.prog.info? 34).map (fun i => (i.zero, i.size, i.bytes)) = some (some (.slice none 0 0), 1, 24) := by kernel_rfl
end
theorem lit_src5 (w : World) (p q : Int) : ∀ j u, (pcells [(p, q)])[j]? = some u → (w.alloc (.cells #[.int .i64 p, .int .i64 q] 31)).cell? ((⟨w.heap.size, 0, none⟩ : Addr).add j) = some u := by
  have := (OwnP.lit w [(p, q)] (by simp)).src
  simpa [pcells] using this
theorem OwnP.lit0' (w : World) : OwnP (w.alloc (.cells #[] 31)) w.heap.size (some ⟨w.heap.size, 0, none⟩) 0 [] := by
  have := OwnP.lit w [] (by simp)
  simpa [pcells] using this

def feeP (m : Mkd) : List (Int × Int) := m.F.map fun x => (x, 1)
theorem feeP_len (m : Mkd) : (feeP m).length = m.F.length := by simp [feeP]
theorem feeP_next {m : Mkd} {x : Nat} (h : x < m.F.length) : (feeP m).take x ++ [(nth m.F x, 1)] = (feeP m).take (x + 1) := by
  have h' : x < (feeP m).length := by rw [feeP_len]; exact h
  rw [List.take_succ_eq_append_getElem h', nth_eq h]
  simp [feeP]
theorem feeP_tk {m : Mkd} {x : Nat} (h : x ≤ m.F.length) : ((feeP m).take x).length = x := by rw [List.length_take, feeP_len]; omega
set_option maxRecDepth 20000 in
set_option maxHeartbeats 4000000 in
theorem l8StartF_c {L : List Mkd} {a b way : Int} (hw : way = 2) (hok : ArmsOk L a b) (A : Option Addr) (c : Nat) (w : World) (h : RdMs w A L) (hsz : SzMs L) :
    Calls Try.prog 84 #[.slice A L.length c, .int .i64 a, .int .i64 b, .int .i64 way] w fun e w' => ∃ AU cU AN cN, e = .returned (gmV A c AU cU AN cN L.length a b) ∧ RdSS w' AU (unR L b) ∧ RdN w' AN L.length (fun j => feeP (mAt L j)) ∧ Below w.heap.size w w' := by
  have hn3 := hok.n3
  have ha1 := hok.a1
  have hab := hok.ab
  have hb4 := hok.b4
  go_enter Try.func84, Try.ntmps84
  subst hw
  go_wp2_with fail
  have r0 := ((BxF.new w (.slice none 0 0) (.slice none 0 0) (.slice none 0 0) (.int .i64 0) (.int .i64 0) 101).below ((Below.refl _ _).alloc (Nat.le_refl _) (.cells #[] 24))).below ((Below.refl _ _).alloc (Nat.le_refl _) (.cells #[] 34))
  have r1 := r0.below ((Below.refl _ _).alloc (Nat.le_refl _) (.cells #[.slice A L.length c, .slice (some ⟨w.heap.size + 1, 0, none⟩) 0 0, .slice (some ⟨w.heap.size + 2, 0, none⟩) 0 0, .int .i64 a, .int .i64 b] 101))
  have g1 := BxF.new (((w.alloc (.cells #[.slice none 0 0, .slice none 0 0, .slice none 0 0, .int .i64 0, .int .i64 0] 101)).alloc (.cells #[] 24)).alloc (.cells #[] 34)) (.slice A L.length c) (.slice (some ⟨w.heap.size + 1, 0, none⟩) 0 0) (.slice (some ⟨w.heap.size + 2, 0, none⟩) 0 0) (.int .i64 a) (.int .i64 b) 101
  have o1 := ((OwnV.lit 24 (w.alloc (.cells #[.slice none 0 0, .slice none 0 0, .slice none 0 0, .int .i64 0, .int .i64 0] 101)) [] (by simp)).alloc (.cells #[] 34)).alloc (.cells #[.slice A L.length c, .slice (some ⟨w.heap.size + 1, 0, none⟩) 0 0, .slice (some ⟨w.heap.size + 2, 0, none⟩) 0 0, .int .i64 a, .int .i64 b] 101)
  have o2 := (OwnV.lit 34 ((w.alloc (.cells #[.slice none 0 0, .slice none 0 0, .slice none 0 0, .int .i64 0, .int .i64 0] 101)).alloc (.cells #[] 24)) [] (by simp)).alloc (.cells #[.slice A L.length c, .slice (some ⟨w.heap.size + 1, 0, none⟩) 0 0, .slice (some ⟨w.heap.size + 2, 0, none⟩) 0 0, .int .i64 a, .int .i64 b] 101)
  have hz3 : (((w.alloc (.cells #[.slice none 0 0, .slice none 0 0, .slice none 0 0, .int .i64 0, .int .i64 0] 101)).alloc (.cells #[] 24)).alloc (.cells #[] 34)).heap.size = w.heap.size + 3 := by simp
  rw [hz3] at g1
  simp only [World.size_alloc, List.length_nil] at o1 o2
  have st : StR ((((w.alloc (.cells #[.slice none 0 0, .slice none 0 0, .slice none 0 0, .int .i64 0, .int .i64 0] 101)).alloc (.cells #[] 24)).alloc (.cells #[] 34)).alloc (.cells #[.slice A L.length c, .slice (some ⟨w.heap.size + 1, 0, none⟩) 0 0, .slice (some ⟨w.heap.size + 2, 0, none⟩) 0 0, .int .i64 a, .int .i64 b] 101)) (w.heap.size + 1) (w.heap.size + 3) (fun j => unitL (mAt L j).P (mAt L j).W b) (fun j => feeP (mAt L j)) 0 0 (some ⟨w.heap.size + 1, 0, none⟩) 0 [] (some ⟨w.heap.size + 2, 0, none⟩) 0 [] :=
    ⟨o1, o2.mono (by omega), .inr (by simp [blk]), by simp [blk], by simp [blk], HeadsT.nil _ _ _, HeadsT.nil _ _ _⟩
  have HB4 : Below w.heap.size w ((((w.alloc (.cells #[.slice none 0 0, .slice none 0 0, .slice none 0 0, .int .i64 0, .int .i64 0] 101)).alloc (.cells #[] 24)).alloc (.cells #[] 34)).alloc (.cells #[.slice A L.length c, .slice (some ⟨w.heap.size + 1, 0, none⟩) 0 0, .slice (some ⟨w.heap.size + 2, 0, none⟩) 0 0, .int .i64 a, .int .i64 b] 101)) := ((((Below.refl _ _).alloc (Nat.le_refl _) _).alloc (by simp) _).alloc (by simp <;> omega) _).alloc (by simp <;> omega) _
  clear r0 o1 o2 hz3
  generalize ((((w.alloc (.cells #[.slice none 0 0, .slice none 0 0, .slice none 0 0, .int .i64 0, .int .i64 0] 101)).alloc (.cells #[] 24)).alloc (.cells #[] 34)).alloc (.cells #[.slice A L.length c, .slice (some ⟨w.heap.size + 1, 0, none⟩) 0 0, .slice (some ⟨w.heap.size + 2, 0, none⟩) 0 0, .int .i64 a, .int .i64 b] 101)) = w4 at *
  go_loopw [10] (fun i wr => ∃ (k : Nat) (AU : Option Addr) (cU : Nat) (HU : List Value) (AN : Option Addr) (cN : Nat) (HN : List Value), k ≤ L.length ∧ i = .int .i64 (k : Int) ∧ BxF wr w.heap.size (.slice none 0 0) (.slice none 0 0) (.slice none 0 0) (.int .i64 0) (.int .i64 0) ∧
    BxF wr (w.heap.size + 3) (.slice A L.length c) (.slice AU k cU) (.slice AN k cN) (.int .i64 a) (.int .i64 b) ∧ StR wr (w.heap.size + 1) (w.heap.size + 3) (fun j => unitL (mAt L j).P (mAt L j).W b) (fun j => feeP (mAt L j)) k k AU cU HU AN cN HN ∧ Below w.heap.size w wr) (fun i _ => L.length - (intOf i).toNat)
  case atStart => exact ⟨0, _, 0, [], _, 0, [], by omega, rfl, r1, g1, st, HB4⟩
  case round =>
    clear r1 g1 st HB4
    obtain ⟨v, rfl⟩ : ∃ v : World, v = wr := ⟨_, rfl⟩
    obtain ⟨k, AU, cU, HU, AN, cN, HN, hk, rfl, r0, g0, st, HB⟩ := hrel
    by_cases hlt : k < L.length
    · obtain ⟨ad, A1, c1, A2, c2, A3, c3, rfl, q1, q2, q3, t1, t2, t3⟩ := h k hlt
      have harm := hok.arm hlt
      have hmk := hsz.2 k hlt
      have rm0 := RdMs.rdM hmk t1 t2 t3
      replace q1 := (HB.cell (cell_lt q1)).trans q1
      have q2' := cellOff 1 (by omega) ((HB.cell (cell_lt q2)).trans q2)
      have q3' := cellOff 2 (by omega) ((HB.cell (cell_lt q3)).trans q3)
      have qb1 : (ad.add (k * 3)).block < w.heap.size := by
        have := cell_lt q2
        rw [block_of_add] at this ⊢
        exact this
      clear q2 q3
      have u1 := g0.bx.c1
      have hau : ∀ b, blk AU = some b → w.heap.size + 1 ≤ b ∧ b < v.heap.size := fun b hb => st.ou.ltk b hb
      have hzv : w.heap.size + 3 < v.heap.size := g0.lt
      have L2 := Lib.hid st.hu.len
      have G0 := Lib.hid g0
      have R0 := Lib.hid r0
      have ST := Lib.hid st
      have HFL := Lib.hid harm.len
      clear g0 r0 st
      go_upto_region 5 with fail
      have SK : Hid (∀ w', Kept v w' (fun b => blk AU = some b) → w'.cell? ⟨w.heap.size + 3, 1, none⟩ = some (.slice AU k cU) ∧ w'.cell? (ad.add (k * 3)) = some (.slice A1 (mAt L k).P.length c1) ∧ w'.cell? ⟨(ad.add (k * 3)).block, (ad.add (k * 3)).off + 1, none⟩ = some (.slice A2 (mAt L k).W.length c2) ∧ w'.cell? ⟨(ad.add (k * 3)).block, (ad.add (k * 3)).off + 2, none⟩ = some (.slice A3 (mAt L k).F.length c3)) := Lib.hid fun w' hK => ⟨(hK.cell (p := ⟨w.heap.size + 3, 1, none⟩) (cell_lt u1) (fun h => ST.out.gu h)).trans u1, (hK.cell (p := (ad.add (k * 3))) (cell_lt q1) (fun h => by have := (hau _ h).1; first | (rw [block_of_add] at this qb1; omega) | (simp at this; omega))).trans q1, (hK.cell (p := ⟨(ad.add (k * 3)).block, (ad.add (k * 3)).off + 1, none⟩) (cell_lt q2') (fun h => by have := (hau _ h).1; first | (rw [block_of_add] at this qb1; omega) | (simp at this; omega))).trans q2', (hK.cell (p := ⟨(ad.add (k * 3)).block, (ad.add (k * 3)).off + 2, none⟩) (cell_lt q3') (fun h => by have := (hau _ h).1; first | (rw [block_of_add] at this qb1; omega) | (simp at this; omega))).trans q3'⟩
      clear u1 q1 q2' q3'
      have hS := SK.out v.drew ⟨Nat.le_refl _, fun _ _ _ => rfl⟩
      refine tamed_region (S := fun w' => w'.cell? ⟨w.heap.size + 3, 1, none⟩ = some (.slice AU k cU) ∧ w'.cell? (ad.add (k * 3)) = some (.slice A1 (mAt L k).P.length c1) ∧ w'.cell? ⟨(ad.add (k * 3)).block, (ad.add (k * 3)).off + 1, none⟩ = some (.slice A2 (mAt L k).W.length c2) ∧ w'.cell? ⟨(ad.add (k * 3)).block, (ad.add (k * 3)).off + 2, none⟩ = some (.slice A3 (mAt L k).F.length c3)) (fun k => k == 11) (by kernel_rfl) ?_
      refine tame0 (k := 0) ?_ rfl (by kernel_rfl) (by kernel_rfl) (by kernel_rfl) (fun _ _ _ h => h) (by kernel_rfl) (fun v => ?_) ?_
      rotate_left
      · (go_simp; all_goals rfl)
      simp only [Act.put, List.setIfInBounds_toArray]
      refine tameT (k := 1) ?_ rfl (by kernel_rfl) (by kernel_rfl) (by kernel_rfl) (by kernel_rfl) (by kernel_rfl) (fun _ _ _ h => h) (by kernel_rfl) hS (fun v hv => ?_) ?_
      rotate_left
      · (obtain ⟨k1, k2, k3, k4⟩ := hv; go_simp; all_goals rfl)
      simp only [Act.put]
      refine tame0 (k := 2) ?_ rfl (by kernel_rfl) (by kernel_rfl) (by kernel_rfl) (fun _ _ _ h => h) (by kernel_rfl) (fun v => ?_) ?_
      rotate_left
      · (go_simp; all_goals rfl)
      simp only [Act.put]
      refine tame0 (k := 3) ?_ rfl (by kernel_rfl) (by kernel_rfl) (by kernel_rfl) (fun _ _ _ h => h) (by kernel_rfl) (fun v => ?_) ?_
      rotate_left
      · (go_simp; all_goals rfl)
      simp only [Act.put]
      refine tame0 (k := 4) ?_ rfl (by kernel_rfl) (by kernel_rfl) (by kernel_rfl) (fun _ _ _ h => h) (by kernel_rfl) (fun v => ?_) ?_
      rotate_left
      · (go_simp; all_goals rfl)
      simp only [Act.put]
      refine tameT (k := 5) ?_ rfl (by kernel_rfl) (by kernel_rfl) (by kernel_rfl) (by kernel_rfl) (by kernel_rfl) (fun _ _ _ h => h) (by kernel_rfl) hS (fun v hv => ?_) ?_
      rotate_left
      · (obtain ⟨k1, k2, k3, k4⟩ := hv; go_simp; all_goals rfl)
      simp only [Act.put]
      refine tame0 (k := 6) ?_ rfl (by kernel_rfl) (by kernel_rfl) (by kernel_rfl) (fun _ _ _ h => h) (by kernel_rfl) (fun v => ?_) ?_
      rotate_left
      · (go_simp; all_goals rfl)
      simp only [Act.put]
      clear hS
      refine tame_one (k := 7) (by kernel_rfl) rfl (by kernel_rfl) ?_
      go_simp
      have HBd : Below w.heap.size w v.drew := Below.drew HB
      refine (l8Units_c A1 (mAt L k).P c1 A2 (mAt L k).W c2 A3 (mAt L k).F c3 b _ (rm0.r1.below HBd (Nat.le_refl _)) (rm0.r2.below HBd (Nat.le_refl _)) harm (by omega) hb4 _).mono ?_
      rintro e v5 ⟨A5, c5, rfl, o5, b5⟩
      have B5 : Below v.heap.size v v5 := ⟨b5.os, b5.tape, b5.output, b5.size, b5.block⟩
      have s5 := ST.out.below B5
      have g5 := G0.out.below B5
      have r5 := R0.out.below B5
      have HB5 := bUp HB B5 HB.size
      clear b5
      refine ⟨SK.out v5 (.of_below B5), ?_⟩
      refine tame_one (k := 8) (by kernel_rfl) rfl (by kernel_rfl) ?_
      refine op_litS 24 Try.underlying68 head_info rfl rfl ?_
      have bl5 : Below v5.heap.size v5 (v5.alloc (.cells #[.slice A5 (mAt L k).P.length c5] 24)) := (Below.refl _ _).alloc (Nat.le_refl _) _
      have B6 := bUp B5 bl5 B5.size
      have hul := unitL_length (mAt L k).P (mAt L k).W b
      have l6 : Lies0 (v5.alloc (.cells #[.slice A5 (mAt L k).P.length c5] 24)) (fun b => b < w.heap.size + 1 ∨ b = w.heap.size + 3 ∨ blk AU = some b ∨ blk AN = some b) (.slice A5 (mAt L k).P.length c5) (unitL (mAt L k).P (mAt L k).W b) := by
        rw [← hul]
        refine (o5.alloc _).lies fun g hg hd => ?_
        have h1 := o5.ge g hg
        have h2 : v.heap.size ≤ g := h1
        rcases hd with hd | hd | hd | hd
        · omega
        · omega
        · have := (hau g hd).2
          omega
        · have := (ST.out.on.ltk g hd).2
          omega
      have s6 := s5.below bl5
      have g6 := g5.below bl5
      have r6 := r5.below bl5
      have HB6 := bUp HB5 bl5 HB5.size
      have hz6 : v.heap.size < (v5.alloc (.cells #[.slice A5 (mAt L k).P.length c5] 24)).heap.size := by
        have := B5.size
        simp
        omega
      clear s5 g5 r5 hul o5 HBd
      refine ⟨fun _ => SK.out _ (.of_below B6), ?_⟩
      simp only [Act.put]
      refine tame_one (k := 9) (by kernel_rfl) rfl (by kernel_rfl) ?_
      refine op_append_one 68 24 Try.underlying68 head_info _ (.tmp 26) (.tmp 33) rfl (w.heap.size + 1) AU k cU HU rfl L2.out.symm s6.ou v5.heap.size 1 (.slice A5 (mAt L k).P.length c5) rfl (by simp) rfl (by rw [L2.out]; omega) (by omega) ?_
      intro g9 c9 v9 o9 G9 t9
      have s9 := s6.pushU (by omega) o9 G9 (by rcases t9 with t | t
                                               · exact .inl t
                                               · exact .inr ⟨_, by rw [t]; rfl, Nat.le_refl _⟩) l6
      have gb9 := g6.grown G9 s6.gu
      have r9 := r6.grown G9 (fun e => by have := (hau _ e).1; omega)
      have HB9 := HB6.grown G9 (by omega) (fun b hb => by have := (hau b hb).1; omega)
      have K9 : Kept v v9 (fun b => blk AU = some b) := (Kept.of_below B6).trans (.of_grown G9 fun b hb => hb)
      have hz9 := G9.size
      refine ⟨fun _ => SK.out _ K9, ?_⟩
      simp only [Act.put]
      clear s6 g6 r6 o9 G9 t9 l6 HB6 B6 bl5
      have y1 := gb9.bx.c1
      have yz := gb9.z 1
      refine tame0 (k := 10) ?_ rfl (by kernel_rfl) (by kernel_rfl) (by kernel_rfl) (fun _ _ _ h => h) (by kernel_rfl) (fun v => ?_) ?_
      rotate_left
      · (go_simp; all_goals rfl)
      simp only [Act.put]
      refine tame_one (k := 11) (by kernel_rfl) rfl (by kernel_rfl) ?_
      go_simp
      try (refine ⟨fun h => absurd h (by decide), ?_⟩)
      refine tame_end (by kernel_rfl) ?_
      have s10 := Lib.hid (s9.set 1 (.slice (some ⟨g9, 0, none⟩) (k + 1) c9))
      have g10 := Lib.hid (gb9.set1 (.slice (some ⟨g9, 0, none⟩) (k + 1) c9))
      have r10 := Lib.hid (r9.grown (grown_setCell v9 ⟨w.heap.size + 3, 1, none⟩ (.slice (some ⟨g9, 0, none⟩) (k + 1) c9)) (by simp))
      have HB10 := HB9.setCell (p := ⟨w.heap.size + 3, 1, none⟩) (Nat.le_add_right _ _) (.slice (some ⟨g9, 0, none⟩) (k + 1) c9)
      have hz10 : w.heap.size + 3 < (v9.setCell ⟨w.heap.size + 3, 1, none⟩ (.slice (some ⟨g9, 0, none⟩) (k + 1) c9)).heap.size := by rw [World.size_setCell]; omega
      clear y1 yz s9 gb9 r9 HB9 K9 SK HB5 B5 hz9 hz6
      go_upto_region 6 with fail
      generalize v9.setCell ⟨w.heap.size + 3, 1, none⟩ (.slice (some ⟨g9, 0, none⟩) (k + 1) c9) = vs at *
      have on0 := OwnP.lit0' vs
      have bn0 : Below vs.heap.size vs (vs.alloc (.cells #[] 31)) := (Below.refl _ _).alloc (Nat.le_refl _) _
      go_wp2_with fail
      generalize vs.alloc (.cells #[] 31) = vn at *
      go_loopw [11, 12] (fun nu i wr => ∃ (x : Nat) (An : Option Addr) (cn : Nat), x ≤ (mAt L k).F.length ∧ i = .int .i64 (x : Int) ∧ nu = .slice An x cn ∧ OwnP wr vs.heap.size An cn ((feeP (mAt L k)).take x) ∧ Below vs.heap.size vs wr) (fun _ i _ => (mAt L k).F.length - (intOf i).toNat)
      case atStart => exact ⟨0, _, 0, by omega, rfl, rfl, by rw [List.take_zero]; exact on0, bn0⟩
      case round =>
        clear on0 bn0
        obtain ⟨vr, rfl⟩ : ∃ vr : World, vr = wr := ⟨_, rfl⟩
        obtain ⟨x, An, cn, hx, rfl, rfl, oo, HN5⟩ := hrel
        have HBr := bUp HB10 HN5 HB10.size
        obtain ⟨ad2, B1, d1, B2, d2, B3, d3, eAd, p1, p2, q3, t1, t2, t3⟩ := h k hlt
        injection eAd with eAd
        subst eAd
        have q3' := cellOff 2 (by omega) ((HBr.cell (cell_lt q3)).trans q3)
        have P1 := Lib.hid ((HBr.cell (cell_lt p1)).trans p1)
        have P2 := Lib.hid (cellOff 1 (by omega) ((HBr.cell (cell_lt p2)).trans p2))
        have RM := Lib.hid ((RdMs.rdM hmk t1 t2 t3).below HBr (Nat.le_refl _))
        clear q3 p1 p2 t1 t2
        by_cases hxl : x < (mAt L k).F.length
        · obtain ⟨af, rfl, qf⟩ := (t3.below HBr (Nat.le_refl _)).intN (k := x) hxl
          have SRC := Lib.hid (lit_src5 vr (nth (mAt L k).F x) 1)
          have HTK := Lib.hid (feeP_tk (Nat.le_of_lt hxl))
          have hF9 : (mAt L k).F.length ≤ 1048576 := hmk.2.2
          have HNX := Lib.hid (feeP_next hxl)
          have o1 := oo.alloc (.cells #[.int .i64 (nth (mAt L k).F x), .int .i64 1] 31)
          go_wp2_with (at_builtin; refine wp_append_pairs _ rfl _ _ rfl vs.heap.size An x cn ((feeP (mAt L k)).take x) rfl HTK.out.symm o1 ⟨vr.heap.size, 0, none⟩ 1 1 [(nth (mAt L k).F x, 1)] rfl rfl SRC.out (by have := HTK.out; simp; omega) (by have := HN5.size; simp; omega) (by simp) ?_; intro g2 c2 w10 o10 hg10 hb10)
          rw [HNX.out] at o10
          have HN6 := HN5.grown (grown_of_alloc hg10) HN5.size (fun b hb => oo.ge b hb)
          clear o1 hg10 hb10 oo
          go_roundw
          case rel => exact ⟨x + 1, _, c2, by omega, by go_num, rfl, o10, HN6⟩
          case measure => simp [intOf] <;> omega
        · obtain rfl : x = (mAt L k).F.length := by omega
          have g11 := g10.out.below HN5
          have s11 := s10.out.below HN5
          have r11 := r10.out.below HN5
      
          rw [List.take_of_length_le (by rw [feeP_len]; exact Nat.le_refl _)] at oo
          have e12 := Lib.hid (feeP_len (mAt L k))
          have ly : LiesP (vr.alloc (.cells #[.slice An (mAt L k).F.length cn] 34)) (fun b => b < w.heap.size + 1 ∨ b = w.heap.size + 3 ∨ blk (some (⟨g9, 0, none⟩ : Addr)) = some b ∨ blk AN = some b) (.slice An (mAt L k).F.length cn) (feeP (mAt L k)) := by
            rw [← e12.out]
            refine (oo.alloc _).lies fun g hg hd => ?_
            have h1 := oo.ge g hg
            rcases hd with hd | hd | hd | hd
            · omega
            · omega
            · have := (s10.out.ou.ltk g hd).2
              omega
            · have := (s10.out.on.ltk g hd).2
              omega
          have bl : Below vr.heap.size vr (vr.alloc (.cells #[.slice An (mAt L k).F.length cn] 34)) := (Below.refl _ _).alloc (Nat.le_refl _) _
          have HNL := Lib.hid s11.hn.len
          have S12 := Lib.hid (s11.below bl)
          have G12 := Lib.hid (g11.below bl)
          have R12 := Lib.hid (r11.below bl)
          have HB12 := bUp HBr bl HBr.size
          have n2 := g11.bx.c2
          have hz12 : w.heap.size + 3 < (vr.alloc (.cells #[.slice An (mAt L k).F.length cn] 34)).heap.size := by
            have := HN5.size
            simp
            omega
          have LY := Lib.hid ly
          clear g11 s11 r11 ly oo HN5 bl
          go_wp2_with (at_builtin; refine wp_append_oneV 99 34 Try.underlying99 phead_info _ rfl _ _ rfl (w.heap.size + 1) AN k cN HN rfl HNL.out.symm S12.out.on vr.heap.size 1 (.slice An (mAt L k).F.length cn) rfl (by simp) rfl (by rw [HNL.out]; omega) (by omega) ?_; intro g13 c13 v13 o13 G13 t13; have gb13 := G12.out.grown G13 S12.out.gn; have y2 := gb13.bx.c2; have yz := gb13.z 2)
          have s13 := S12.out.pushN (by omega) o13 G13 (by rcases t13 with t | t
                                                           · exact .inl t
                                                           · exact .inr ⟨_, by rw [t]; rfl, Nat.le_refl _⟩) LY.out
          have s14 := s13.set 2 (.slice (some ⟨g13, 0, none⟩) (k + 1) c13)
          have g14 := gb13.set2 (.slice (some ⟨g13, 0, none⟩) (k + 1) c13)
          have r13 := R12.out.grown G13 (fun e => by have := S12.out.on.ge _ e; omega)
          have r14 := r13.grown (grown_setCell v13 ⟨w.heap.size + 3, 2, none⟩ (.slice (some ⟨g13, 0, none⟩) (k + 1) c13)) (by simp)
          have HB13 := HB12.grown G13 (by omega) (fun b hb => by have := S12.out.on.ge b hb; omega)
          have HB14 := HB13.setCell (p := ⟨w.heap.size + 3, 2, none⟩) (Nat.le_add_right _ _) (.slice (some ⟨g13, 0, none⟩) (k + 1) c13)
          clear s13 gb13 r13 HB13 o13 G13 t13 y2 yz
          go_roundw
          case rel => exact ⟨k + 1, _, c9, _, _, c13, _, by omega, by go_num, r14, g14, s14, HB14⟩
          case measure => simp [intOf] <;> omega
    · obtain rfl : k = L.length := by omega
      obtain ⟨f0, f1, f2, f3, f4⟩ := g0.bx
      obtain ⟨h0, h1, h2, h3, h4⟩ := r0.bx
      have z0 := r0.z 0
      have z1 := r0.z 1
      have z2 := r0.z 2
      have z3 := r0.z 3
      have z4 := r0.z 4
      have ST2 := Lib.hid (((((st.low (Nat.lt_succ_self _) 0 (.slice A L.length c)).low (Nat.lt_succ_self _) 1 (.slice AU L.length cU)).low (Nat.lt_succ_self _) 2 (.slice AN L.length cN)).low (Nat.lt_succ_self _) 3 (.int .i64 a)).low (Nat.lt_succ_self _) 4 (.int .i64 b))
      have HBE := ((((HB.setCell (p := ⟨w.heap.size, 0, none⟩) (Nat.le_refl _) (.slice A L.length c)).setCell (p := ⟨w.heap.size, 1, none⟩) (Nat.le_refl _) (.slice AU L.length cU)).setCell (p := ⟨w.heap.size, 2, none⟩) (Nat.le_refl _) (.slice AN L.length cN)).setCell (p := ⟨w.heap.size, 3, none⟩) (Nat.le_refl _) (.int .i64 a)).setCell (p := ⟨w.heap.size, 4, none⟩) (Nat.le_refl _) (.int .i64 b)
      clear st r0 g0
      go_wp2_with fail
      refine bodyPost_ret (v := gmV A c AU cU AN cN L.length a b) (by simp [results, Try.results84, go_sem, h0, h1, h2, h3, h4, gmV]) rfl ?_
      exact ⟨AU, cU, AN, cN, rfl, heads_u ST2.out.ou ST2.out.hu (unR_len L b) fun k hk => unR_at hk, heads_n ST2.out.on ST2.out.hn, HBE⟩

set_option maxRecDepth 20000 in
set_option maxHeartbeats 4000000 in
theorem l8StartI_c {L : List Mkd} {a b way : Int} (hw : way ≠ 2) (hok : ArmsOk L a b) (A : Option Addr) (c : Nat) (w : World) (h : RdMs w A L) (hsz : SzMs L) :
    Calls Try.prog 84 #[.slice A L.length c, .int .i64 a, .int .i64 b, .int .i64 way] w fun e w' => ∃ AU cU AN cN, e = .returned (gmV A c AU cU AN cN L.length a b) ∧ RdSS w' AU (unR L b) ∧ RdN w' AN L.length (fun j => ixL (mAt L j).P (mAt L j).W (mAt L j).F a b) ∧ Below w.heap.size w w' := by
  have hn3 := hok.n3
  have ha1 := hok.a1
  have hab := hok.ab
  have hb4 := hok.b4
  go_enter Try.func84, Try.ntmps84
  go_wp2_with fail
  have r0 := ((BxF.new w (.slice none 0 0) (.slice none 0 0) (.slice none 0 0) (.int .i64 0) (.int .i64 0) 101).below ((Below.refl _ _).alloc (Nat.le_refl _) (.cells #[] 24))).below ((Below.refl _ _).alloc (Nat.le_refl _) (.cells #[] 34))
  have r1 := r0.below ((Below.refl _ _).alloc (Nat.le_refl _) (.cells #[.slice A L.length c, .slice (some ⟨w.heap.size + 1, 0, none⟩) 0 0, .slice (some ⟨w.heap.size + 2, 0, none⟩) 0 0, .int .i64 a, .int .i64 b] 101))
  have g1 := BxF.new (((w.alloc (.cells #[.slice none 0 0, .slice none 0 0, .slice none 0 0, .int .i64 0, .int .i64 0] 101)).alloc (.cells #[] 24)).alloc (.cells #[] 34)) (.slice A L.length c) (.slice (some ⟨w.heap.size + 1, 0, none⟩) 0 0) (.slice (some ⟨w.heap.size + 2, 0, none⟩) 0 0) (.int .i64 a) (.int .i64 b) 101
  have o1 := ((OwnV.lit 24 (w.alloc (.cells #[.slice none 0 0, .slice none 0 0, .slice none 0 0, .int .i64 0, .int .i64 0] 101)) [] (by simp)).alloc (.cells #[] 34)).alloc (.cells #[.slice A L.length c, .slice (some ⟨w.heap.size + 1, 0, none⟩) 0 0, .slice (some ⟨w.heap.size + 2, 0, none⟩) 0 0, .int .i64 a, .int .i64 b] 101)
  have o2 := (OwnV.lit 34 ((w.alloc (.cells #[.slice none 0 0, .slice none 0 0, .slice none 0 0, .int .i64 0, .int .i64 0] 101)).alloc (.cells #[] 24)) [] (by simp)).alloc (.cells #[.slice A L.length c, .slice (some ⟨w.heap.size + 1, 0, none⟩) 0 0, .slice (some ⟨w.heap.size + 2, 0, none⟩) 0 0, .int .i64 a, .int .i64 b] 101)
  have hz3 : (((w.alloc (.cells #[.slice none 0 0, .slice none 0 0, .slice none 0 0, .int .i64 0, .int .i64 0] 101)).alloc (.cells #[] 24)).alloc (.cells #[] 34)).heap.size = w.heap.size + 3 := by simp
  rw [hz3] at g1
  simp only [World.size_alloc, List.length_nil] at o1 o2
  have st : StR ((((w.alloc (.cells #[.slice none 0 0, .slice none 0 0, .slice none 0 0, .int .i64 0, .int .i64 0] 101)).alloc (.cells #[] 24)).alloc (.cells #[] 34)).alloc (.cells #[.slice A L.length c, .slice (some ⟨w.heap.size + 1, 0, none⟩) 0 0, .slice (some ⟨w.heap.size + 2, 0, none⟩) 0 0, .int .i64 a, .int .i64 b] 101)) (w.heap.size + 1) (w.heap.size + 3) (fun j => unitL (mAt L j).P (mAt L j).W b) (fun j => ixL (mAt L j).P (mAt L j).W (mAt L j).F a b) 0 0 (some ⟨w.heap.size + 1, 0, none⟩) 0 [] (some ⟨w.heap.size + 2, 0, none⟩) 0 [] :=
    ⟨o1, o2.mono (by omega), .inr (by simp [blk]), by simp [blk], by simp [blk], HeadsT.nil _ _ _, HeadsT.nil _ _ _⟩
  have HB4 : Below w.heap.size w ((((w.alloc (.cells #[.slice none 0 0, .slice none 0 0, .slice none 0 0, .int .i64 0, .int .i64 0] 101)).alloc (.cells #[] 24)).alloc (.cells #[] 34)).alloc (.cells #[.slice A L.length c, .slice (some ⟨w.heap.size + 1, 0, none⟩) 0 0, .slice (some ⟨w.heap.size + 2, 0, none⟩) 0 0, .int .i64 a, .int .i64 b] 101)) := ((((Below.refl _ _).alloc (Nat.le_refl _) _).alloc (by simp) _).alloc (by simp <;> omega) _).alloc (by simp <;> omega) _
  clear r0 o1 o2 hz3
  generalize ((((w.alloc (.cells #[.slice none 0 0, .slice none 0 0, .slice none 0 0, .int .i64 0, .int .i64 0] 101)).alloc (.cells #[] 24)).alloc (.cells #[] 34)).alloc (.cells #[.slice A L.length c, .slice (some ⟨w.heap.size + 1, 0, none⟩) 0 0, .slice (some ⟨w.heap.size + 2, 0, none⟩) 0 0, .int .i64 a, .int .i64 b] 101)) = w4 at *
  go_loopw [10] (fun i wr => ∃ (k : Nat) (AU : Option Addr) (cU : Nat) (HU : List Value) (AN : Option Addr) (cN : Nat) (HN : List Value), k ≤ L.length ∧ i = .int .i64 (k : Int) ∧ BxF wr w.heap.size (.slice none 0 0) (.slice none 0 0) (.slice none 0 0) (.int .i64 0) (.int .i64 0) ∧
    BxF wr (w.heap.size + 3) (.slice A L.length c) (.slice AU k cU) (.slice AN k cN) (.int .i64 a) (.int .i64 b) ∧ StR wr (w.heap.size + 1) (w.heap.size + 3) (fun j => unitL (mAt L j).P (mAt L j).W b) (fun j => ixL (mAt L j).P (mAt L j).W (mAt L j).F a b) k k AU cU HU AN cN HN ∧ Below w.heap.size w wr) (fun i _ => L.length - (intOf i).toNat)
  case atStart => exact ⟨0, _, 0, [], _, 0, [], by omega, rfl, r1, g1, st, HB4⟩
  case round =>
    clear r1 g1 st HB4
    obtain ⟨v, rfl⟩ : ∃ v : World, v = wr := ⟨_, rfl⟩
    obtain ⟨k, AU, cU, HU, AN, cN, HN, hk, rfl, r0, g0, st, HB⟩ := hrel
    by_cases hlt : k < L.length
    · obtain ⟨ad, A1, c1, A2, c2, A3, c3, rfl, q1, q2, q3, t1, t2, t3⟩ := h k hlt
      have harm := hok.arm hlt
      have hmk := hsz.2 k hlt
      have rm0 := RdMs.rdM hmk t1 t2 t3
      replace q1 := (HB.cell (cell_lt q1)).trans q1
      have q2' := cellOff 1 (by omega) ((HB.cell (cell_lt q2)).trans q2)
      have q3' := cellOff 2 (by omega) ((HB.cell (cell_lt q3)).trans q3)
      have qb1 : (ad.add (k * 3)).block < w.heap.size := by
        have := cell_lt q2
        rw [block_of_add] at this ⊢
        exact this
      clear q2 q3
      have u1 := g0.bx.c1
      have hau : ∀ b, blk AU = some b → w.heap.size + 1 ≤ b ∧ b < v.heap.size := fun b hb => st.ou.ltk b hb
      have hzv : w.heap.size + 3 < v.heap.size := g0.lt
      have L2 := Lib.hid st.hu.len
      have G0 := Lib.hid g0
      have R0 := Lib.hid r0
      have ST := Lib.hid st
      have HFL := Lib.hid harm.len
      clear g0 r0 st
      go_upto_region 5 with fail
      have SK : Hid (∀ w', Kept v w' (fun b => blk AU = some b) → w'.cell? ⟨w.heap.size + 3, 1, none⟩ = some (.slice AU k cU) ∧ w'.cell? (ad.add (k * 3)) = some (.slice A1 (mAt L k).P.length c1) ∧ w'.cell? ⟨(ad.add (k * 3)).block, (ad.add (k * 3)).off + 1, none⟩ = some (.slice A2 (mAt L k).W.length c2) ∧ w'.cell? ⟨(ad.add (k * 3)).block, (ad.add (k * 3)).off + 2, none⟩ = some (.slice A3 (mAt L k).F.length c3)) := Lib.hid fun w' hK => ⟨(hK.cell (p := ⟨w.heap.size + 3, 1, none⟩) (cell_lt u1) (fun h => ST.out.gu h)).trans u1, (hK.cell (p := (ad.add (k * 3))) (cell_lt q1) (fun h => by have := (hau _ h).1; first | (rw [block_of_add] at this qb1; omega) | (simp at this; omega))).trans q1, (hK.cell (p := ⟨(ad.add (k * 3)).block, (ad.add (k * 3)).off + 1, none⟩) (cell_lt q2') (fun h => by have := (hau _ h).1; first | (rw [block_of_add] at this qb1; omega) | (simp at this; omega))).trans q2', (hK.cell (p := ⟨(ad.add (k * 3)).block, (ad.add (k * 3)).off + 2, none⟩) (cell_lt q3') (fun h => by have := (hau _ h).1; first | (rw [block_of_add] at this qb1; omega) | (simp at this; omega))).trans q3'⟩
      clear u1 q1 q2' q3'
      have hS := SK.out v.drew ⟨Nat.le_refl _, fun _ _ _ => rfl⟩
      refine tamed_region (S := fun w' => w'.cell? ⟨w.heap.size + 3, 1, none⟩ = some (.slice AU k cU) ∧ w'.cell? (ad.add (k * 3)) = some (.slice A1 (mAt L k).P.length c1) ∧ w'.cell? ⟨(ad.add (k * 3)).block, (ad.add (k * 3)).off + 1, none⟩ = some (.slice A2 (mAt L k).W.length c2) ∧ w'.cell? ⟨(ad.add (k * 3)).block, (ad.add (k * 3)).off + 2, none⟩ = some (.slice A3 (mAt L k).F.length c3)) (fun k => k == 11) (by kernel_rfl) ?_
      refine tame0 (k := 0) ?_ rfl (by kernel_rfl) (by kernel_rfl) (by kernel_rfl) (fun _ _ _ h => h) (by kernel_rfl) (fun v => ?_) ?_
      rotate_left
      · (go_simp; all_goals rfl)
      simp only [Act.put, List.setIfInBounds_toArray]
      refine tameT (k := 1) ?_ rfl (by kernel_rfl) (by kernel_rfl) (by kernel_rfl) (by kernel_rfl) (by kernel_rfl) (fun _ _ _ h => h) (by kernel_rfl) hS (fun v hv => ?_) ?_
      rotate_left
      · (obtain ⟨k1, k2, k3, k4⟩ := hv; go_simp; all_goals rfl)
      simp only [Act.put]
      refine tame0 (k := 2) ?_ rfl (by kernel_rfl) (by kernel_rfl) (by kernel_rfl) (fun _ _ _ h => h) (by kernel_rfl) (fun v => ?_) ?_
      rotate_left
      · (go_simp; all_goals rfl)
      simp only [Act.put]
      refine tame0 (k := 3) ?_ rfl (by kernel_rfl) (by kernel_rfl) (by kernel_rfl) (fun _ _ _ h => h) (by kernel_rfl) (fun v => ?_) ?_
      rotate_left
      · (go_simp; all_goals rfl)
      simp only [Act.put]
      refine tame0 (k := 4) ?_ rfl (by kernel_rfl) (by kernel_rfl) (by kernel_rfl) (fun _ _ _ h => h) (by kernel_rfl) (fun v => ?_) ?_
      rotate_left
      · (go_simp; all_goals rfl)
      simp only [Act.put]
      refine tameT (k := 5) ?_ rfl (by kernel_rfl) (by kernel_rfl) (by kernel_rfl) (by kernel_rfl) (by kernel_rfl) (fun _ _ _ h => h) (by kernel_rfl) hS (fun v hv => ?_) ?_
      rotate_left
      · (obtain ⟨k1, k2, k3, k4⟩ := hv; go_simp; all_goals rfl)
      simp only [Act.put]
      refine tame0 (k := 6) ?_ rfl (by kernel_rfl) (by kernel_rfl) (by kernel_rfl) (fun _ _ _ h => h) (by kernel_rfl) (fun v => ?_) ?_
      rotate_left
      · (go_simp; all_goals rfl)
      simp only [Act.put]
      clear hS
      refine tame_one (k := 7) (by kernel_rfl) rfl (by kernel_rfl) ?_
      go_simp
      have HBd : Below w.heap.size w v.drew := Below.drew HB
      refine (l8Units_c A1 (mAt L k).P c1 A2 (mAt L k).W c2 A3 (mAt L k).F c3 b _ (rm0.r1.below HBd (Nat.le_refl _)) (rm0.r2.below HBd (Nat.le_refl _)) harm (by omega) hb4 _).mono ?_
      rintro e v5 ⟨A5, c5, rfl, o5, b5⟩
      have B5 : Below v.heap.size v v5 := ⟨b5.os, b5.tape, b5.output, b5.size, b5.block⟩
      have s5 := ST.out.below B5
      have g5 := G0.out.below B5
      have r5 := R0.out.below B5
      have HB5 := bUp HB B5 HB.size
      clear b5
      refine ⟨SK.out v5 (.of_below B5), ?_⟩
      refine tame_one (k := 8) (by kernel_rfl) rfl (by kernel_rfl) ?_
      refine op_litS 24 Try.underlying68 head_info rfl rfl ?_
      have bl5 : Below v5.heap.size v5 (v5.alloc (.cells #[.slice A5 (mAt L k).P.length c5] 24)) := (Below.refl _ _).alloc (Nat.le_refl _) _
      have B6 := bUp B5 bl5 B5.size
      have hul := unitL_length (mAt L k).P (mAt L k).W b
      have l6 : Lies0 (v5.alloc (.cells #[.slice A5 (mAt L k).P.length c5] 24)) (fun b => b < w.heap.size + 1 ∨ b = w.heap.size + 3 ∨ blk AU = some b ∨ blk AN = some b) (.slice A5 (mAt L k).P.length c5) (unitL (mAt L k).P (mAt L k).W b) := by
        rw [← hul]
        refine (o5.alloc _).lies fun g hg hd => ?_
        have h1 := o5.ge g hg
        have h2 : v.heap.size ≤ g := h1
        rcases hd with hd | hd | hd | hd
        · omega
        · omega
        · have := (hau g hd).2
          omega
        · have := (ST.out.on.ltk g hd).2
          omega
      have s6 := s5.below bl5
      have g6 := g5.below bl5
      have r6 := r5.below bl5
      have HB6 := bUp HB5 bl5 HB5.size
      have hz6 : v.heap.size < (v5.alloc (.cells #[.slice A5 (mAt L k).P.length c5] 24)).heap.size := by
        have := B5.size
        simp
        omega
      clear s5 g5 r5 hul o5 HBd
      refine ⟨fun _ => SK.out _ (.of_below B6), ?_⟩
      simp only [Act.put]
      refine tame_one (k := 9) (by kernel_rfl) rfl (by kernel_rfl) ?_
      refine op_append_one 68 24 Try.underlying68 head_info _ (.tmp 26) (.tmp 33) rfl (w.heap.size + 1) AU k cU HU rfl L2.out.symm s6.ou v5.heap.size 1 (.slice A5 (mAt L k).P.length c5) rfl (by simp) rfl (by rw [L2.out]; omega) (by omega) ?_
      intro g9 c9 v9 o9 G9 t9
      have s9 := s6.pushU (by omega) o9 G9 (by rcases t9 with t | t
                                               · exact .inl t
                                               · exact .inr ⟨_, by rw [t]; rfl, Nat.le_refl _⟩) l6
      have gb9 := g6.grown G9 s6.gu
      have r9 := r6.grown G9 (fun e => by have := (hau _ e).1; omega)
      have HB9 := HB6.grown G9 (by omega) (fun b hb => by have := (hau b hb).1; omega)
      have K9 : Kept v v9 (fun b => blk AU = some b) := (Kept.of_below B6).trans (.of_grown G9 fun b hb => hb)
      have hz9 := G9.size
      refine ⟨fun _ => SK.out _ K9, ?_⟩
      simp only [Act.put]
      clear s6 g6 r6 o9 G9 t9 l6 HB6 B6 bl5
      have y1 := gb9.bx.c1
      have yz := gb9.z 1
      refine tame0 (k := 10) ?_ rfl (by kernel_rfl) (by kernel_rfl) (by kernel_rfl) (fun _ _ _ h => h) (by kernel_rfl) (fun v => ?_) ?_
      rotate_left
      · (go_simp; all_goals rfl)
      simp only [Act.put]
      refine tame_one (k := 11) (by kernel_rfl) rfl (by kernel_rfl) ?_
      go_simp
      try (refine ⟨fun h => absurd h (by decide), ?_⟩)
      refine tame_end (by kernel_rfl) ?_
      have s10 := Lib.hid (s9.set 1 (.slice (some ⟨g9, 0, none⟩) (k + 1) c9))
      have g10 := Lib.hid (gb9.set1 (.slice (some ⟨g9, 0, none⟩) (k + 1) c9))
      have r10 := Lib.hid (r9.grown (grown_setCell v9 ⟨w.heap.size + 3, 1, none⟩ (.slice (some ⟨g9, 0, none⟩) (k + 1) c9)) (by simp))
      have HB10 := HB9.setCell (p := ⟨w.heap.size + 3, 1, none⟩) (Nat.le_add_right _ _) (.slice (some ⟨g9, 0, none⟩) (k + 1) c9)
      have hz10 : w.heap.size + 3 < (v9.setCell ⟨w.heap.size + 3, 1, none⟩ (.slice (some ⟨g9, 0, none⟩) (k + 1) c9)).heap.size := by rw [World.size_setCell]; omega
      clear y1 yz s9 gb9 r9 HB9 K9 SK HB5 B5 hz9 hz6
      go_upto_region 6 with fail
      generalize v9.setCell ⟨w.heap.size + 3, 1, none⟩ (.slice (some ⟨g9, 0, none⟩) (k + 1) c9) = vs at *
      have on0 := OwnP.lit0' vs
      have bn0 : Below vs.heap.size vs (vs.alloc (.cells #[] 31)) := (Below.refl _ _).alloc (Nat.le_refl _) _
      go_wp2_with fail
      generalize vs.alloc (.cells #[] 31) = vn at *
      go_loopw [11, 12] (fun nu i wr => ∃ (x : Nat) (An : Option Addr) (cn : Nat), x ≤ (mAt L k).F.length ∧ i = .int .i64 (x : Int) ∧ nu = .slice An x cn ∧ OwnP wr vs.heap.size An cn ((feeP (mAt L k)).take x) ∧ Below vs.heap.size vs wr) (fun _ i _ => (mAt L k).F.length - (intOf i).toNat)
      case atStart => exact ⟨0, _, 0, by omega, rfl, rfl, by rw [List.take_zero]; exact on0, bn0⟩
      case round =>
        clear on0 bn0
        obtain ⟨vr, rfl⟩ : ∃ vr : World, vr = wr := ⟨_, rfl⟩
        obtain ⟨x, An, cn, hx, rfl, rfl, oo, HN5⟩ := hrel
        have HBr := bUp HB10 HN5 HB10.size
        obtain ⟨ad2, B1, d1, B2, d2, B3, d3, eAd, p1, p2, q3, t1, t2, t3⟩ := h k hlt
        injection eAd with eAd
        subst eAd
        have q3' := cellOff 2 (by omega) ((HBr.cell (cell_lt q3)).trans q3)
        have P1 := Lib.hid ((HBr.cell (cell_lt p1)).trans p1)
        have P2 := Lib.hid (cellOff 1 (by omega) ((HBr.cell (cell_lt p2)).trans p2))
        have RM := Lib.hid ((RdMs.rdM hmk t1 t2 t3).below HBr (Nat.le_refl _))
        clear q3 p1 p2 t1 t2
        by_cases hxl : x < (mAt L k).F.length
        · obtain ⟨af, rfl, qf⟩ := (t3.below HBr (Nat.le_refl _)).intN (k := x) hxl
          have SRC := Lib.hid (lit_src5 vr (nth (mAt L k).F x) 1)
          have HTK := Lib.hid (feeP_tk (Nat.le_of_lt hxl))
          have hF9 : (mAt L k).F.length ≤ 1048576 := hmk.2.2
          have HNX := Lib.hid (feeP_next hxl)
          have o1 := oo.alloc (.cells #[.int .i64 (nth (mAt L k).F x), .int .i64 1] 31)
          go_wp2_with (at_builtin; refine wp_append_pairs _ rfl _ _ rfl vs.heap.size An x cn ((feeP (mAt L k)).take x) rfl HTK.out.symm o1 ⟨vr.heap.size, 0, none⟩ 1 1 [(nth (mAt L k).F x, 1)] rfl rfl SRC.out (by have := HTK.out; simp; omega) (by have := HN5.size; simp; omega) (by simp) ?_; intro g2 c2 w10 o10 hg10 hb10)
          rw [HNX.out] at o10
          have HN6 := HN5.grown (grown_of_alloc hg10) HN5.size (fun b hb => oo.ge b hb)
          clear o1 hg10 hb10 oo
          go_roundw
          case rel => exact ⟨x + 1, _, c2, by omega, by go_num, rfl, o10, HN6⟩
          case measure => simp [intOf] <;> omega
        · obtain rfl : x = (mAt L k).F.length := by omega
          have g11 := g10.out.below HN5
          have s11 := s10.out.below HN5
          have r11 := r10.out.below HN5
      
          clear oo
          have p1 := P1.out
          have p2 := P2.out
          have hAB := armAB_iff.1 (show (armB (mAt L k).P (mAt L k).W (mAt L k).F && discB a b) = true by rw [armB_iff.2 harm]; simp [discB]; omega)
          go_wp2_with fail
          refine (l8Index_c B1 (mAt L k).P d1 B2 (mAt L k).W d2 B3 (mAt L k).F d3 a b hAB _ RM.out).mono ?_
          rintro e v12 ⟨gi, ci, rfl, oi, bi⟩
          have HNi := bUp HN5 bi HN5.size
          have HBi := bUp HBr bi HBr.size
          replace g11 := g11.below bi
          replace s11 := s11.below bi
          replace r11 := r11.below bi
          have hvi := bi.size
          have hvn := HN5.size
          clear p1 p2 bi HN5
          have e12 := Lib.hid (ixL_len (P := (mAt L k).P) (W := (mAt L k).W) (F := (mAt L k).F) (a := a) (b := b))
          have ly : LiesP (v12.alloc (.cells #[.slice (some ⟨gi, 0, none⟩) (mAt L k).P.length ci] 34)) (fun b => b < w.heap.size + 1 ∨ b = w.heap.size + 3 ∨ blk (some (⟨g9, 0, none⟩ : Addr)) = some b ∨ blk AN = some b) (.slice (some ⟨gi, 0, none⟩) (mAt L k).P.length ci) (ixL (mAt L k).P (mAt L k).W (mAt L k).F a b) := by
            rw [← e12.out]
            refine (oi.alloc _).lies fun g hg hd => ?_
            have h1 := oi.ge g hg
            rcases hd with hd | hd | hd | hd
            · omega
            · omega
            · have := (s10.out.ou.ltk g hd).2
              omega
            · have := (s10.out.on.ltk g hd).2
              omega
          have bl : Below v12.heap.size v12 (v12.alloc (.cells #[.slice (some ⟨gi, 0, none⟩) (mAt L k).P.length ci] 34)) := (Below.refl _ _).alloc (Nat.le_refl _) _
          have HNL := Lib.hid s11.hn.len
          have S12 := Lib.hid (s11.below bl)
          have G12 := Lib.hid (g11.below bl)
          have R12 := Lib.hid (r11.below bl)
          have HB12 := bUp HBi bl HBi.size
          have n2 := g11.bx.c2
          have hz12 : w.heap.size + 3 < (v12.alloc (.cells #[.slice (some ⟨gi, 0, none⟩) (mAt L k).P.length ci] 34)).heap.size := by
            have := HNi.size
            simp
            omega
          have LY := Lib.hid ly
          clear g11 s11 r11 ly oi HNi bl
          go_wp2_with (at_builtin; refine wp_append_oneV 99 34 Try.underlying99 phead_info _ rfl _ _ rfl (w.heap.size + 1) AN k cN HN rfl HNL.out.symm S12.out.on v12.heap.size 1 (.slice (some ⟨gi, 0, none⟩) (mAt L k).P.length ci) rfl (by simp) rfl (by rw [HNL.out]; omega) (by omega) ?_; intro g13 c13 v13 o13 G13 t13; have gb13 := G12.out.grown G13 S12.out.gn; have y2 := gb13.bx.c2; have yz := gb13.z 2)
          have s13 := S12.out.pushN (by omega) o13 G13 (by rcases t13 with t | t
                                                           · exact .inl t
                                                           · exact .inr ⟨_, by rw [t]; rfl, Nat.le_refl _⟩) LY.out
          have s14 := s13.set 2 (.slice (some ⟨g13, 0, none⟩) (k + 1) c13)
          have g14 := gb13.set2 (.slice (some ⟨g13, 0, none⟩) (k + 1) c13)
          have r13 := R12.out.grown G13 (fun e => by have := S12.out.on.ge _ e; omega)
          have r14 := r13.grown (grown_setCell v13 ⟨w.heap.size + 3, 2, none⟩ (.slice (some ⟨g13, 0, none⟩) (k + 1) c13)) (by simp)
          have HB13 := HB12.grown G13 (by omega) (fun b hb => by have := S12.out.on.ge b hb; omega)
          have HB14 := HB13.setCell (p := ⟨w.heap.size + 3, 2, none⟩) (Nat.le_add_right _ _) (.slice (some ⟨g13, 0, none⟩) (k + 1) c13)
          clear s13 gb13 r13 HB13 o13 G13 t13 y2 yz
          go_roundw
          case rel => exact ⟨k + 1, _, c9, _, _, c13, _, by omega, by go_num, r14, g14, s14, HB14⟩
          case measure => simp [intOf] <;> omega
    · obtain rfl : k = L.length := by omega
      obtain ⟨f0, f1, f2, f3, f4⟩ := g0.bx
      obtain ⟨h0, h1, h2, h3, h4⟩ := r0.bx
      have z0 := r0.z 0
      have z1 := r0.z 1
      have z2 := r0.z 2
      have z3 := r0.z 3
      have z4 := r0.z 4
      have ST2 := Lib.hid (((((st.low (Nat.lt_succ_self _) 0 (.slice A L.length c)).low (Nat.lt_succ_self _) 1 (.slice AU L.length cU)).low (Nat.lt_succ_self _) 2 (.slice AN L.length cN)).low (Nat.lt_succ_self _) 3 (.int .i64 a)).low (Nat.lt_succ_self _) 4 (.int .i64 b))
      have HBE := ((((HB.setCell (p := ⟨w.heap.size, 0, none⟩) (Nat.le_refl _) (.slice A L.length c)).setCell (p := ⟨w.heap.size, 1, none⟩) (Nat.le_refl _) (.slice AU L.length cU)).setCell (p := ⟨w.heap.size, 2, none⟩) (Nat.le_refl _) (.slice AN L.length cN)).setCell (p := ⟨w.heap.size, 3, none⟩) (Nat.le_refl _) (.int .i64 a)).setCell (p := ⟨w.heap.size, 4, none⟩) (Nat.le_refl _) (.int .i64 b)
      clear st r0 g0
      go_wp2_with fail
      refine bodyPost_ret (v := gmV A c AU cU AN cN L.length a b) (by simp [results, Try.results84, go_sem, h0, h1, h2, h3, h4, gmV]) rfl ?_
      exact ⟨AU, cU, AN, cN, rfl, heads_u ST2.out.ou ST2.out.hu (unR_len L b) fun k hk => unR_at hk, heads_n ST2.out.on ST2.out.hn, HBE⟩

open Go.RowKit Go.Maps

def bvV (L : List Mkd) (a b : Int) : Int := if armsB L a b then valX L a b none (fun _ => 0) else 0
theorem bvV_no {L : List Mkd} {a b : Int} (h : armsB L a b = false) : bvV L a b = 0 := by simp [bvV, h]
theorem bvV_yes {L : List Mkd} {a b : Int} (h : armsB L a b = true) : bvV L a b = valX L a b none (fun _ => 0) := by simp [bvV, h]
theorem valuC_best {L : List Mkd} {a b : Int} (hok : ArmsOk L a b) (A : Option Addr) (c : Nat) (AU : Option Addr) (cU : Nat) (AN : Option Addr) (cN : Nat) (w0 : World) (h : RdMs w0 A L) (hU : RdSS w0 AU (unR L b)) : ValuC L a b 0 none A c AU cU AN cN w0 :=
  fun _ VB cv vals B cb w hX hb hV hvl hB hvs => l8ValueB_c hok (plNone L) hX A c AU cU AN cN VB cv vals B cb w (h.below hb (Nat.le_refl _)) (hU.below hb (Nat.le_refl _)) hV hvl hB hvs
theorem encN_zero (L : List Mkd) : ∀ k, encN L (fun _ => 0) k = 0
  | 0 => rfl
  | k + 1 => by rw [encN, encN_zero L k]; simp
set_option maxRecDepth 20000 in
set_option maxHeartbeats 2000000 in
/-- l8From, out of its parts' contracts. -/
theorem l8From_c (A : Option Addr) (L : List Mkd) (c : Nat) (a b way : Int) (pl : Option ((Nat → Nat) → Int)) (f : Nat → List (Int × Int)) (w : World) (h : RdMs w A L) (hs : SzMs L) (hok : ArmsOk L a b)
    (HS : ∀ w : World, RdMs w A L → Calls Try.prog 84 #[.slice A L.length c, .int .i64 a, .int .i64 b, .int .i64 way] w fun e w' => ∃ AU cU AN cN, e = .returned (gmV A c AU cU AN cN L.length a b) ∧ RdSS w' AU (unR L b) ∧ RdN w' AN L.length f ∧ Below w.heap.size w w')
    (HV : ∀ (AU : Option Addr) (cU : Nat) (AN : Option Addr) (cN : Nat) (w0 : World), RdMs w0 A L → RdSS w0 AU (unR L b) → RdN w0 AN L.length f → ValuC L a b way pl A c AU cU AN cN w0) :
    Calls Try.prog 80 #[.slice A L.length c, .int .i64 a, .int .i64 b, .int .i64 way] w (Quietly w (.tuple #[.int .i64 (valX L a b pl (fun _ => 0)), .bool true])) := by
  have hq := armsB_iff.2 hok
  go_enter Try.func80, Try.ntmps80
  go_wp2_with fail
  refine (l8Arms_is A L c a b _ hq _ h hs).mono ?_
  rintro e w2 ⟨rfl, b2⟩
  go_wp2_with fail
  refine (HS _ (h.below b2 (Nat.le_refl _))).mono ?_
  rintro e w3 ⟨AU, cU, AN, cN, rfl, hU, hN, b3⟩
  have HB3 := bUp b2 b3 b2.size
  have C := l8Values_c hok A c AU cU AN cN w3 (h.below HB3 (Nat.le_refl _)) (HV AU cU AN cN w3 (h.below HB3 (Nat.le_refl _)) hU hN)
  unfold gmV at C ⊢
  go_wp2_with fail
  refine C.mono ?_
  rintro e w4 ⟨vals, AV, cv, rfl, hvl, ov, b4, hvs⟩
  have HB4 := bUp HB3 b4 HB3.size
  have hsz := hok.sz729 (Nat.le_refl L.length)
  obtain ⟨gv, rfl, _, _⟩ := ov.form (by rw [hvl]; omega)
  have hc := ov.cellN (k := 0) (by rw [hvl]; omega)
  have h0 := hvs (fun _ => 0) hok.at0 fun _ _ => rfl
  rw [encN_zero] at h0
  rw [h0] at hc
  clear C hvl hvs h0
  go_wp2_with fail
  go_ret2
  exact ⟨rfl, HB4⟩
set_option maxRecDepth 20000 in
set_option maxHeartbeats 2000000 in
theorem l8From_no (A : Option Addr) (L : List Mkd) (c : Nat) (a b way : Int) (w : World) (h : RdMs w A L) (hs : SzMs L) (hq : armsB L a b = false) :
    Calls Try.prog 80 #[.slice A L.length c, .int .i64 a, .int .i64 b, .int .i64 way] w (Quietly w (.tuple #[.int .i64 0, .bool false])) := by
  go_enter Try.func80, Try.ntmps80
  go_wp2_with fail
  refine (l8Arms_is A L c a b _ hq _ h hs).mono ?_
  rintro e w2 ⟨rfl, b2⟩
  go_wp2_with fail
  go_ret2
  exact ⟨rfl, b2⟩
theorem l8FromB_c (A : Option Addr) (L : List Mkd) (c : Nat) (a b : Int) (w : World) (h : RdMs w A L) (hs : SzMs L) :
    Calls Try.prog 80 #[.slice A L.length c, .int .i64 a, .int .i64 b, .int .i64 0] w (Quietly w (.tuple #[.int .i64 (bvV L a b), .bool (armsB L a b)])) := by
  cases hq : armsB L a b
  · rw [bvV_no hq]
    exact l8From_no A L c a b 0 w h hs hq
  · rw [bvV_yes hq]
    have hok := armsB_iff.1 hq
    exact l8From_c A L c a b 0 none _ w h hs hok (fun w h => l8StartI_c (by decide) hok A c w h hs) fun AU cU AN cN w0 h hU _ => valuC_best hok A c AU cU AN cN w0 h hU
set_option maxRecDepth 20000 in
set_option maxHeartbeats 2000000 in
theorem specBv_c (A : Option Addr) (L : List Mkd) (c : Nat) (a b : Int) (w : World) (h : RdMs w A L) (hs : SzMs L) :
    Calls Try.prog 24 #[.slice A L.length c, .int .i64 a, .int .i64 b] w (Quietly w (.tuple #[.int .i64 (bvV L a b), .bool (armsB L a b)])) := by
  go_enter Try.func24, Try.ntmps24
  go_wp2_with fail
  refine (l8FromB_c A L c a b _ h hs).mono ?_
  rintro e w2 ⟨rfl, b2⟩
  go_wp2_with fail
  go_ret2
  exact ⟨rfl, b2⟩
theorem value0_c {L : List Mkd} {a b : Int} (hok : ArmsOk L a b) {pl : Option ((Nat → Nat) → Int)} {plv : Plv} {p gm : Nat} (HV : ValC L a b pl plv p gm 8) (w : World) (hp : PyS w p gm L a b plv) (hm : MemoOk w gm 0 (At3 L) (valX L a b pl)) :
    Calls Try.prog 79 #[.pointer (some ⟨p, 0, none⟩), .agg #[.int .i64 0, .int .i64 0, .int .i64 0]] w fun e w' => e = .returned (.int .i64 (valX L a b pl (fun _ => 0))) ∧ MemoOk w' gm (28 ^ 9) (At3 L) (valX L a b pl) ∧ w.grownBy w' (some gm) := by
  have C := HV (fun _ => 0) w 0 hok.at3 (hok.rem8 hok.at0) hp hm (by unfold Lim; decide)
  refine (show Calls Try.prog 79 #[.pointer (some ⟨p, 0, none⟩), .agg #[.int .i64 0, .int .i64 0, .int .i64 0]] w _ from C).mono ?_
  rintro e w' ⟨rfl, h1, h2⟩
  exact ⟨rfl, h1.mono (by decide), h2⟩
set_option maxRecDepth 20000 in
set_option maxHeartbeats 2000000 in
theorem implBv_c (A : Option Addr) (L : List Mkd) (c : Nat) (a b : Int) (w : World) (h : RdMs w A L) (hs : SzMs L) :
    Calls Try.prog 23 #[.slice A L.length c, .int .i64 a, .int .i64 b] w (Quietly w (.tuple #[.int .i64 (bvV L a b), .bool (armsB L a b)])) := by
  cases hq : armsB L a b
  · rw [bvV_no hq]
    go_enter Try.func23, Try.ntmps23
    go_wp2_with fail
    refine (areArms_is A L c a b _ hq _ h hs).mono ?_
    rintro e w2 ⟨rfl, b2⟩
    go_wp2
    go_ret2
    exact ⟨rfl, b2⟩
  · rw [bvV_yes hq]
    have hok := armsB_iff.1 hq
    go_enter Try.func23, Try.ntmps23
    go_wp2_with fail
    refine (areArms_is A L c a b _ hq _ h hs).mono ?_
    rintro e w2 ⟨rfl, b2⟩
    go_wp2_with fail
    refine (newPyS (pl := noPl) (.inl rfl) hok (valX L a b none) A c _ (h.below b2 (Nat.le_refl _)) hs trivial).mono ?_
    rintro e w3 ⟨rfl, hp, hm, b3⟩
    have HB3 := bUp b2 b3 b2.size
    have hw2 := b2.size
    go_wp2_with fail
    refine (value0_c hok (valC_none hok _ _ 8) w3 hp hm).mono ?_
    rintro e w4 ⟨rfl, _, hg⟩
    go_wp2_with fail
    go_ret2
    exact ⟨rfl, HB3.grown hg HB3.size fun k hk => by injection hk with hk; omega⟩

end Go.Proofs.Ytfobjkdkjlbkfaa
