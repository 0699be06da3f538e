/- The arguments of the laws, opened: slices of bytes, of pairs. -/
import Derived.Test.YthgebhndhilhkaaDoorIdeal0
import Derived.ProofKit
import Derived.OpenShut
import Derived.Deep.Slices
import Derived.SizedLaws
import Derived.Lib.LaidTab
namespace Go.Proofs.YthgebhndhilhkaaDoor
open Go.RowKit Go.MuLone Go.Maps Go.WideShapes

theorem slice_okWide {P : Program} {W : World} {base : Nat} {t e : TypeId} {a : Addr} {n c : Nat} (hu : P.underlying t = some (.slice e)) (h : Value.okWide P W .any base t (.slice (some a) n c)) : a.spot = none ∧ n ≤ c ∧ c ≤ 9223372036854775807 := by
  simp only [Value.okWide, hu, Cell.okWide, Cell.ok, World.has] at h
  obtain ⟨h1, h2, _, h3, _⟩ := h
  refine ⟨h3, h1, ?_⟩
  have e : IntKind.i64.max = 9223372036854775807 := rfl
  rw [e] at h2
  omega
theorem flat_idx {α : Type} (f : α → List Value) (n : Nat) (hn : 0 < n) (l : List α) (hl : ∀ x ∈ l, (f x).length = n) {j : Nat} {v : Value} (h : (l.flatMap f)[j]? = some v) : ∃ x, l[j / n]? = some x ∧ (f x)[j % n]? = some v := by
  have hj : j < l.length * n := by
    have := (List.getElem?_eq_some_iff.1 h).1
    rwa [flat_length f n l hl] at this
  have hk : j / n < l.length := (Nat.div_lt_iff_lt_mul hn).2 hj
  refine ⟨l[j / n], List.getElem?_eq_getElem hk, ?_⟩
  rw [← flat_get f n l hl (j / n) _ (List.getElem?_eq_getElem hk) (j % n) (Nat.mod_lt _ hn), Nat.div_add_mod]
  exact h
section
variable {H : Type} {enc : TypeId × Value → H} {P : Program} {W : World} {base base' : Nat} {sp : Nat → Bool} {held : Bool}
/-- A slice that came in, its elements by their cells. -/
theorem open_flat {α : Type} [Inhabited α] (f : α → List Value) (ok : α → Prop) (size : Nat) (hsz : 0 < size) (hlen : ∀ x, ok x → (f x).length = size) {t e : TypeId} (hu : P.underlying t = some (.slice e)) (hc : P.cellsOf e = size)
    (hel : ∀ (fuel : Nat) (cs : List Value) (d : DataW H) (p : List MemPlace), DataW.trod enc P W base sp held fuel e cs = some (d, p) → ∃ x, cs = f x ∧ ok x)
    {v : Value} {d : DataW H} {ps : List MemPlace} (hval : Value.okWide P W .any base' t v) (h : DataW.Trod enc P W base sp held t v d ps) :
    ∃ xs : List α, FlatIn W v size (xs.flatMap f) ∧ (∀ x ∈ xs, ok x) ∧ (xs = [] ∨ ∃ elems spare, d = .slice elems spare ∧ elems.length = xs.length) := by
  obtain ⟨A, n, c, rfl⟩ := okWide_slice hu hval
  obtain ⟨fuel, hf⟩ := h
  rcases Deep.open_slice hu hf with ⟨hcs, hx⟩ | ⟨a, len, cap, m, n', D, Pl, hcs, hb, hl, hm, hmm, hx, he⟩
  · have hcs : Value.slice A n c = .slice none 0 0 := by simpa [Value.cells] using hcs
    injection hcs with h1 h2 h3
    subst h1 h2 h3
    exact ⟨[], .inl ⟨rfl, rfl⟩, (fun x hx => by cases hx), .inl rfl⟩
  · have hcs : Value.slice A n c = .slice (some a) len cap := by simpa [Value.cells] using hcs
    injection hcs with h1 h2 h3
    subst h1 h2 h3
    obtain ⟨hs1, _, hs3⟩ := slice_okWide hu hval
    obtain ⟨gb, ob, spot⟩ := a
    have hs1 : spot = none := hs1
    subst hs1
    have hlm : n ≤ m := by rw [hmm]; split <;> omega
    have hex : ∀ i, i < n → ∃ x, W.cells? base ((⟨gb, ob, none⟩ : Addr).add (i * size)) size = some (f x) ∧ ok x := fun i hi => by
      obtain ⟨cs', h1, h2⟩ := he i (by omega)
      obtain ⟨x, rfl, hx⟩ := hel _ _ _ _ h2
      exact ⟨x, by rw [← hc] at *; exact h1, hx⟩
    obtain ⟨X, hX⟩ := Deep.choose_lt hex
    have hall : ∀ x ∈ (List.range n).map X, ok x := fun x hx => by
      obtain ⟨i, hi, rfl⟩ := List.mem_map.1 hx
      exact (hX i (List.mem_range.1 hi)).2
    refine ⟨(List.range n).map X, .inr ⟨gb, ob, n, c, rfl, ?_, fun j v hj => ?_, hl, hs3⟩, hall, .inr ⟨_, _, by rw [(Prod.mk.inj hx).1], by simp⟩⟩
    · rw [flat_length f size _ (fun x hx => hlen x (hall x hx))]; simp
    · obtain ⟨x, h1, h2⟩ := flat_idx f size hsz _ (fun x hx => hlen x (hall x hx)) hj
      rw [List.getElem?_map] at h1
      obtain ⟨i, hi, rfl⟩ := Option.map_eq_some_iff.1 h1
      have hi2 : i = j / size ∧ i < n := by
        obtain ⟨h3, h4⟩ := List.getElem?_eq_some_iff.1 hi
        simp at h4 h3
        exact ⟨h4.symm, by omega⟩
      have hcell := (hX i hi2.2).1
      unfold World.cells? at hcell
      split at hcell
      · have := Lib.mapM_at hcell (j % size) (j % size) (by rw [List.getElem?_range (Nat.mod_lt _ hsz)])
        obtain ⟨u, hu1, hu2⟩ := this
        rw [h2] at hu1
        injection hu1 with hu1
        subst hu1
        rw [Deep.add_add, add_off] at hu2
        have e : ob + (i * size + j % size) = ob + j := by rw [hi2.1, Nat.mul_comm, Nat.div_add_mod]
        rw [e] at hu2
        exact hu2
      · cases hcell
theorem open_u8 {e : TypeId} (he : P.underlying e = some (.int .u8)) (fuel : Nat) (cs : List Value) (d : DataW H) (p : List MemPlace) (h : DataW.trod enc P W base sp held fuel e cs = some (d, p)) : ∃ x : Int, cs = [Value.int .u8 x] ∧ (0 ≤ x ∧ x ≤ 255) := by
  obtain ⟨n, h1, _, h3⟩ := DataW.trod_int he h
  exact ⟨n, h1, bounds_u8 h3⟩
theorem flat_map (k : IntKind) (xs : List Int) : (xs.flatMap fun x => [Value.int k x]) = xs.map (Value.int k) := by
  induction xs with
  | nil => rfl
  | cons x xs ih => rw [List.flatMap_cons, ih]; rfl
end
/-- A digest among the cells. -/
theorem open_dig {H : Type} {enc : TypeId × Value → H} {W : World} {base : Nat} {sp : Nat → Bool} {held : Bool} (fuel : Nat) (cs : List Value) (d : DataW H) (p : List MemPlace) (h : DataW.trod enc Tryd.prog W base sp held fuel 27 cs = some (d, p)) :
    ∃ ds : List Int, cs = ds.map (Value.int .u8) ∧ ds.length = 32 ∧ Byt ds := by
  obtain ⟨xs, m, _, _, hl, hn, hel⟩ := DataW.trod_array Tryd.underlying27 h
  have c8 : Tryd.prog.cellsOf 5 = 1 := by kernel_rfl
  have c32 : Tryd.prog.cellsOf 27 = 32 := by kernel_rfl
  rw [c32] at hl
  have hex : ∀ i, i < 32 → ∃ x : Int, cs[i]? = some (Value.int .u8 x) ∧ (0 ≤ x ∧ x ≤ 255) := fun i hi => by
    have h1 := hel i hi
    rw [c8, List.getElem?_eq_getElem (by omega)] at h1
    obtain ⟨x, h2, h3⟩ := open_u8 Tryd.underlying5 _ _ _ _ h1
    refine ⟨x, ?_, h3⟩
    rw [Nat.mul_one] at h2
    have h4 := congrArg (·[0]?) h2
    simpa [List.getElem?_take, List.getElem?_drop] using h4
  obtain ⟨X, hX⟩ := Deep.choose_lt hex
  refine ⟨(List.range 32).map X, ?_, by simp, fun x hx => ?_⟩
  · apply List.ext_getElem?
    intro i
    by_cases hi : i < 32
    · rw [(hX i hi).1]; simp [hi]
    · rw [List.getElem?_eq_none (by omega), List.getElem?_eq_none (by simp; omega)]
  · obtain ⟨i, hi, rfl⟩ := List.mem_map.1 hx
    exact (hX i (List.mem_range.1 hi)).2
set_option maxRecDepth 100000 in
theorem open_pair {H : Type} {enc : TypeId × Value → H} {W : World} {base : Nat} {sp : Nat → Bool} {held : Bool} (fuel : Nat) (cs : List Value) (d : DataW H) (p : List MemPlace) (h : DataW.trod enc Tryd.prog W base sp held fuel 35 cs = some (d, p)) :
    ∃ q : Pr, cs = pc q ∧ PrOk q := by
  obtain ⟨xs, m, _, _, hl, hn, hel⟩ := DataW.trod_struct Tryd.underlying35 h
  have c33 : Tryd.prog.cellsOf 35 = 33 := by kernel_rfl
  have c1 : Tryd.prog.cellsOf 3 = 1 := by kernel_rfl
  have c32 : Tryd.prog.cellsOf 27 = 32 := by kernel_rfl
  rw [c33] at hl
  have hx2 : xs.length = 2 := by simpa using hn
  match xs, hx2 with
  | [x0, x1], _ =>
    have h0 : DataW.trod enc Tryd.prog W base sp held m 3 ((cs.drop 0).take (Tryd.prog.cellsOf 3)) = some x0 := hel 0 _ rfl
    have h1 : DataW.trod enc Tryd.prog W base sp held m 27 ((cs.drop 1).take (Tryd.prog.cellsOf 27)) = some x1 := hel 1 _ rfl
    rw [c1] at h0
    rw [c32] at h1
    obtain ⟨n, e0, _, _⟩ := DataW.trod_int Tryd.underlying3 h0
    obtain ⟨ds, e1, hd1, hd2⟩ := open_dig _ _ _ _ h1
    refine ⟨(n, ds), ?_, hd1, hd2⟩
    match cs, hl with
    | c :: cs, hl =>
      have hl : cs.length = 32 := by simpa using hl
      have e0 : [c] = [Value.int .i64 n] := by simpa using e0
      have e1 : cs.take 32 = ds.map (Value.int .u8) := by simpa using e1
      rw [List.take_of_length_le (by omega)] at e1
      injection e0 with e0
      rw [e0, e1]
      rfl
end Go.Proofs.YthgebhndhilhkaaDoor
