/- Slices whose elements are rows of cells. -/
import Derived.Test.YthgebhndhilhkaaDoorKey5
import Derived.Laws.AppendOwnNone
namespace Go.Proofs.YthgebhndhilhkaaDoor
open Go.RowKit Go.MuLone Go.Maps

/-- A slice whose elements' cells are these. -/
def FlatIn (w : World) (u : Value) (size : Nat) (fl : List Value) : Prop :=
  (u = .slice none 0 0 ∧ fl = []) ∨ ∃ gb ob m c, u = .slice (some ⟨gb, ob, none⟩) m c ∧ fl.length = m * size ∧ w.rangeAt gb ob fl ∧ m ≤ c ∧ c ≤ 9223372036854775807
theorem FlatIn.below {w w1 : World} {u : Value} {size : Nat} {fl : List Value} (h : FlatIn w u size fl) (hb : Below w.heap.size w w1) : FlatIn w1 u size fl := by
  rcases h with h | ⟨gb, ob, m, c, h1, h2, h3, h4⟩
  · exact .inl h
  · exact .inr ⟨gb, ob, m, c, h1, h2, fun j v hj => by rw [hb.cell (p := ⟨gb, ob + j, none⟩) (World.block_lt_of_cell? _ _ (h3 j v hj))]; exact h3 j v hj, h4⟩
theorem FlatIn.kept {w w1 : World} {S : Nat → Prop} {u : Value} {size : Nat} {fl : List Value} (h : FlatIn w u size fl) (hb : Kept w w1 S) (hs : ∀ b, u.ownBlock = some b → ¬ S b) : FlatIn w1 u size fl := by
  rcases h with h | ⟨gb, ob, m, c, h1, h2, h3, h4⟩
  · exact .inl h
  · exact .inr ⟨gb, ob, m, c, h1, h2, fun j v hj => keptCell hb (hs gb (by rw [h1]; rfl)) (h3 j v hj), h4⟩
theorem FlatIn.len {w : World} {u : Value} {size : Nat} {fl : List Value} (h : FlatIn w u size fl) : ∃ A c, u = .slice A (fl.length / size) c ∨ size = 0 := by
  rcases h with ⟨h1, h2⟩ | ⟨gb, ob, m, c, h1, h2, h3, h4⟩
  · exact ⟨none, 0, .inl (by rw [h1, h2]; simp)⟩
  · by_cases hs : size = 0
    · exact ⟨none, 0, .inr hs⟩
    · exact ⟨_, c, .inl (by rw [h1, h2, Nat.mul_div_cancel _ (Nat.pos_of_ne_zero hs)])⟩
/-- A row that the call owns. -/
theorem FlatIn.own {w : World} {base e size n : Nat} {v : Value} {xs : List Value} (h : w.ownsRow base e size v n xs) : FlatIn w v size xs := by
  have hl := h.1
  rcases h.2 with ⟨hv, h0⟩ | ⟨gp, cp, cur, h1, h2, h6, h3, h4, h5, h7⟩
  · exact .inl ⟨hv, List.eq_nil_of_length_eq_zero (by rw [hl, h0, Nat.zero_mul])⟩
  · refine .inr ⟨gp, 0, n, cp, h1, hl, fun j u hj => ?_, h3, by simpa [maxLen] using h4⟩
    have := h.cells (g := gp) (by rw [h1]; rfl) j u hj
    rw [add_off] at this
    exact this
theorem BytesIn.flat {w : World} {v : Value} {bs : List Int} (h : BytesIn w v bs) (hnil : ∀ n c, v = .slice none n c → c = 0) (hl : ∀ A n c, v = .slice (some A) n c → ∃ gb ob, A = ⟨gb, ob, none⟩) : FlatIn w v 1 (bs.map (Value.int .u8)) := by
  obtain ⟨A, cap, rfl, h1, h2, h3⟩ := h
  cases A with
  | none =>
    have hz : bs.length = 0 := by
      by_cases hp : 0 < bs.length
      · obtain ⟨gb, ob, e, _⟩ := h3 hp
        cases e
      · omega
    have hc := hnil _ _ rfl
    exact .inl ⟨by rw [hz, hc], by rw [List.eq_nil_of_length_eq_zero hz]; rfl⟩
  | some A =>
    obtain ⟨gb, ob, rfl⟩ := hl _ _ _ rfl
    refine .inr ⟨gb, ob, bs.length, cap, rfl, by simp, fun j u hj => ?_, h1, h2⟩
    have hjl : j < bs.length := by simpa using (List.getElem?_eq_some_iff.1 hj).1
    obtain ⟨gb', ob', e, hc⟩ := h3 (by omega)
    injection e with e
    injection e with e1 e2
    subst e1; subst e2
    rw [hc j hjl, ← hj, List.getElem?_map, List.getElem?_eq_getElem hjl]
    rfl
theorem wpList_append_flat {P : Program} {w : World} {ops : Array Oper} {rest : List Oper} {o : Oper} {a : Act} {Q : Exit → Act → World → Prop} (hgd : o.guard = none) (s x : Operand) (t : TypeId)
    (ho : o.op = .call { callee := .builtin .append, args := #[s, x], argTypes := #[t, t] })
    (base : Nat) (e : TypeId) (i : TypeInfo) (z : Value) (size bytes : Nat) (ht : P.underlying t = some (.slice e)) (hi : P.info? e = some i) (hz : i.zero = some z)
    (hsize : i.size = size) (hby : i.bytes = bytes) (hzs : z.cells.size = size) (hsz : 0 < size)
    (v : Value) (n : Nat) (xs : List Value) (hs : a.eval s = v) (hown : w.ownsRow base e size v n xs)
    (u : Value) (m : Nat) (fl : List Value) (hx : a.eval x = u) (hin : FlatIn w u size fl) (hl : fl.length = m * size) (h1 : ∀ u ∈ fl, u.oneCell' = true)
    (h63 : n + m ≤ maxLen) (hbytes : (n + m) * bytes ≤ 140737488355328) (hbase : base ≤ w.heap.size)
    (h : ∀ v' w', w'.ownsRow base e size v' (n + m) (xs ++ fl) → w.grownBy w' v.ownBlock → wpList P ops Q rest (a.put o.dst v') w') : wpList P ops Q (o :: rest) a w := by
  rcases hin with ⟨rfl, rfl⟩ | ⟨gb, ob, m', c, rfl, h2, h3, _⟩
  · have hm : m = 0 := by
      have : m * size = 0 := by rw [← hl]; rfl
      rcases Nat.mul_eq_zero.1 this with h | h
      · exact h
      · omega
    subst hm
    exact wpList_append_own_none hgd s x t ho base e i size ht hi v n xs hs hown hx (h v w (by simpa using hown) (World.grownBy.refl _ _))
  · have hm : m' = m := Nat.eq_of_mul_eq_mul_right hsz (h2.symm.trans hl)
    subst hm
    exact wpList_append_own w hgd s x t ho base e i z size bytes ht hi hz hsize hby hzs hsz v n xs hs hown ⟨gb, ob, none⟩ m' c fl hx hl (fun j u hj => by rw [add_off]; exact h3 j u hj) h1 h63 hbytes hbase (fun v' w' r1 r2 _ => h v' w' r1 r2)
end Go.Proofs.YthgebhndhilhkaaDoor
