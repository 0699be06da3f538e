/- Pairs and digests in slices. -/
import Derived.Test.YthgebhndhilhkaaDoorLaw1
namespace Go.Proofs.YthgebhndhilhkaaDoor
open Go.RowKit Go.MuLone Go.Maps

abbrev Pr := Int × List Int
def pc (p : Pr) : List Value := .int .i64 p.1 :: p.2.map (Value.int .u8)
def dc (d : List Int) : List Value := d.map (Value.int .u8)
theorem flat_length {α : Type} (f : α → List Value) (n : Nat) : ∀ l : List α, (∀ x ∈ l, (f x).length = n) → (l.flatMap f).length = l.length * n
  | [], _ => by simp
  | x :: l, h => by
    rw [List.flatMap_cons, List.length_append, h x (by simp), flat_length f n l (fun y hy => h y (by simp [hy])), List.length_cons, Nat.succ_mul, Nat.add_comm]
theorem flat_get {α : Type} (f : α → List Value) (n : Nat) : ∀ (l : List α), (∀ x ∈ l, (f x).length = n) → ∀ (k : Nat) (x : α), l[k]? = some x → ∀ j, j < n → (l.flatMap f)[n * k + j]? = (f x)[j]?
  | [], _, k, x, hx, _, _ => by simp at hx
  | y :: l, h, 0, x, hx, j, hj => by
    have hx : y = x := by simpa using hx
    subst hx
    rw [List.flatMap_cons, Nat.mul_zero, Nat.zero_add, List.getElem?_append_left (by rw [h y (by simp)]; exact hj)]
  | y :: l, h, k + 1, x, hx, j, hj => by
    have hy := h y (by simp)
    have e : n * (k + 1) + j = n + (n * k + j) := by rw [Nat.mul_succ]; omega
    rw [List.flatMap_cons, e, List.getElem?_append_right (by rw [hy]; exact Nat.le_add_right _ _), hy, Nat.add_sub_cancel_left]
    exact flat_get f n l (fun z hz => h z (by simp [hz])) k x (by simpa using hx) j hj
theorem pc_length {p : Pr} (h : p.2.length = 32) : (pc p).length = 33 := by simp [pc, h]
theorem FlatIn.shape {w : World} {u : Value} {size m : Nat} {fl : List Value} (h : FlatIn w u size fl) (hl : fl.length = m * size) (hs : 0 < size) :
    ∃ A c, u = .slice A m c ∧ (0 < m → ∃ gb ob, A = some ⟨gb, ob, none⟩ ∧ w.rangeAt gb ob fl) := by
  rcases h with ⟨h1, h2⟩ | ⟨gb, ob, m', c, h1, h2, h3, h4⟩
  · have : m = 0 := by
      have hz : m * size = 0 := by rw [← hl, h2]; rfl
      rcases Nat.mul_eq_zero.1 hz with h | h <;> omega
    subst this
    exact ⟨none, 0, h1, fun hp => by omega⟩
  · have hm : m' = m := Nat.eq_of_mul_eq_mul_right hs (h2.symm.trans hl)
    subst hm
    exact ⟨_, c, h1, fun _ => ⟨gb, ob, rfl, h3⟩⟩
/-- What an element of such a slice holds. -/
theorem pair_cell {w : World} {gb ob : Nat} {ps : List Pr} (hp : ∀ p ∈ ps, p.2.length = 32) (h : w.rangeAt gb ob (ps.flatMap pc)) {k : Nat} {p : Pr} (hk : ps[k]? = some p) :
    w.cell? ⟨gb, ob + k * 33, none⟩ = some (.int .i64 p.1) ∧ w.rangeAt gb (ob + k * 33 + 1) (dc p.2) := by
  rw [Nat.mul_comm k 33]
  have hg := flat_get pc 33 ps (fun x hx => pc_length (hp x hx)) k p hk
  constructor
  · have := h (33 * k + 0) (.int .i64 p.1) (by rw [hg 0 (by decide)]; rfl)
    exact this
  · intro j v hv
    have hj : j < 32 := by
      have := (List.getElem?_eq_some_iff.1 hv).1
      have hm := hp p (List.mem_of_getElem? hk)
      simpa [dc, hm] using this
    have := h (33 * k + (j + 1)) v (by rw [hg (j + 1) (by omega)]; simpa [pc, dc] using hv)
    rw [← this]
    congr 2
    omega
theorem dig_cell {w : World} {gb ob : Nat} {ds : List (List Int)} (hp : ∀ d ∈ ds, d.length = 32) (h : w.rangeAt gb ob (ds.flatMap dc)) {k : Nat} {d : List Int} (hk : ds[k]? = some d) : w.rangeAt gb (ob + k * 32) (dc d) := by
  rw [Nat.mul_comm k 32]
  have hg := flat_get dc 32 ds (fun x hx => by simp [dc, hp x hx]) k d hk
  intro j v hv
  have hj : j < 32 := by
    have := (List.getElem?_eq_some_iff.1 hv).1
    have hm := hp d (List.mem_of_getElem? hk)
    simpa [dc, hm] using this
  have := h (32 * k + j) v (by rw [hg j hj]; exact hv)
  rw [← this]
  congr 2
  omega
theorem rangeAt_kept {w w' : World} {S : Nat → Prop} (h : Kept w w' S) {gb ob : Nat} {cs : List Value} (hn : ¬ S gb) (hr : w.rangeAt gb ob cs) : w'.rangeAt gb ob cs := fun j v hv => keptCell h hn (hr j v hv)
end Go.Proofs.YthgebhndhilhkaaDoor
