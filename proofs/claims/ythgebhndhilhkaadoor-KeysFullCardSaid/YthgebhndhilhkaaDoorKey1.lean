/- keys: a ring, and what a call may turn. -/
import Derived.Test.YthgebhndhilhkaaDoorKey0
import Derived.Test.YthgebhndhilhkaaDoorReg0
namespace Go.Proofs.YthgebhndhilhkaaDoor
open Go.RowKit Go.MuLone Go.Maps

/-- What a call has turned: no block but those that S holds, and new ones. -/
structure Kept (w w' : World) (S : Nat → Prop) : Prop where
  os : w'.os = w.os
  tape : w'.tape = w.tape
  output : w'.output = w.output
  size : w.heap.size ≤ w'.heap.size
  block : ∀ k, k < w.heap.size → ¬ S k → w'.heap[k]? = w.heap[k]?
theorem Kept.refl (w : World) (S : Nat → Prop) : Kept w w S := ⟨rfl, rfl, rfl, Nat.le_refl _, fun _ _ _ => rfl⟩
theorem Kept.trans {a b c : World} {S : Nat → Prop} (h : Kept a b S) (k : Kept b c S) : Kept a c S :=
  ⟨k.os.trans h.os, k.tape.trans h.tape, k.output.trans h.output, Nat.le_trans h.size k.size, fun i hi hs => (k.block i (Nat.lt_of_lt_of_le hi h.size) hs).trans (h.block i hi hs)⟩
theorem Kept.mono {a b : World} {S T : Nat → Prop} (h : Kept a b S) (hst : ∀ k, S k → T k) : Kept a b T :=
  ⟨h.os, h.tape, h.output, h.size, fun i hi hs => h.block i hi (fun x => hs (hst i x))⟩
theorem Kept.ofBelow {a b : World} (h : Below a.heap.size a b) (S : Nat → Prop) : Kept a b S := ⟨h.os, h.tape, h.output, h.size, fun i hi _ => h.block i hi⟩
theorem Kept.ofGrown {a b : World} {g : Nat} {S : Nat → Prop} (h : a.grownBy b (some g)) (hg : S g) : Kept a b S :=
  ⟨h.os, h.tape, h.output, h.size, fun i hi hs => h.block i hi (fun e => by injection e with e; exact hs (e ▸ hg))⟩
theorem Kept.drew {a b : World} {S : Nat → Prop} (h : Kept a b S) : Kept a b.drew S := ⟨h.os, h.tape, h.output, h.size, h.block⟩
theorem Kept.alloc {a b : World} {S : Nat → Prop} (h : Kept a b S) (o : Obj) : Kept a (b.alloc o) S :=
  h.trans (Kept.ofBelow ((Below.refl _ _).alloc (Nat.le_refl _) _) S)
theorem Kept.set {a b : World} {S : Nat → Prop} {g i : Nat} {v : Value} (h : Kept a b S) (hg : S g) : Kept a (b.setCell ⟨g, i, none⟩ v) S :=
  h.trans (Kept.ofGrown (grown_set (World.grownBy.refl _ _) i v) hg)
theorem Kept.setRow {a b : World} {S : Nat → Prop} {g : Nat} {cs : Array Value} (h : Kept a b S) (hg : S g ∨ a.heap.size ≤ g) : Kept a (b.setRow g cs) S := by
  have k := grown_setRow (World.grownBy.refl b (some g)) cs
  exact ⟨k.os.trans h.os, k.tape.trans h.tape, k.output.trans h.output, Nat.le_trans h.size k.size, fun i hi hs => (k.block i (Nat.lt_of_lt_of_le hi h.size) (fun e => by injection e with e; subst e; rcases hg with hg | hg; exact hs hg; omega)).trans (h.block i hi hs)⟩
theorem Kept.toGrown {a b : World} {g : Nat} (h : Kept a b (· = g)) : a.grownBy b (some g) := ⟨h.os, h.tape, h.output, h.size, fun k hk hs => h.block k hk (fun e => hs (by rw [e]))⟩
theorem Kept.toBelow {a b : World} (h : Kept a b fun _ => False) : Below a.heap.size a b := ⟨h.os, h.tape, h.output, h.size, fun k hk => h.block k hk (fun e => e)⟩
/-- A block that stands in the end as it stood. -/
theorem Kept.same {a b : World} {S T : Nat → Prop} {g : Nat} (h : Kept a b S) (hst : ∀ k, S k → T k ∨ k = g) (he : b.heap[g]? = a.heap[g]?) : Kept a b T :=
  ⟨h.os, h.tape, h.output, h.size, fun i hi hs => by
    by_cases e : i = g
    · rw [e]; exact he
    · exact h.block i hi (fun x => by rcases hst i x with y | y; exact hs y; exact e y)⟩

/-- A ring: its cells, its secret, its two maps. -/
structure RingAt (w : World) (x : Int) (r b1 b2 : Nat) (sv : Value) (sec : List Int) (n1 n2 : Nat) (D1 D2 : DataW Unit) : Prop where
  row : w.heap[r]? = some (.cells #[.int .i32 x, .int .u32 0, sv, .map (some b1), .map (some b2)] 87 (0, 0))
  secIn : BytesIn w sv sec
  secl : sec.length ≤ 281474976710656
  keys : w.ownsMap Tryd.prog 9 digR b1 n1 D1
  signed : w.ownsMap Tryd.prog 90 digR b2 n2 D2
  ne : b1 ≠ b2
section
variable {w w' : World} {x : Int} {r b1 b2 n1 n2 : Nat} {sv : Value} {sec : List Int} {D1 D2 : DataW Unit}
theorem RingAt.lt (R : RingAt w x r b1 b2 sv sec n1 n2 D1 D2) : r < w.heap.size := (Array.getElem?_eq_some_iff.1 R.row).1
theorem RingAt.r1 (R : RingAt w x r b1 b2 sv sec n1 n2 D1 D2) : r ≠ b1 := by
  intro e; obtain ⟨es, clock, hb, _⟩ := R.keys; rw [← e, R.row] at hb; injection hb with hb; cases hb
theorem RingAt.r2 (R : RingAt w x r b1 b2 sv sec n1 n2 D1 D2) : r ≠ b2 := by
  intro e; obtain ⟨es, clock, hb, _⟩ := R.signed; rw [← e, R.row] at hb; injection hb with hb; cases hb
theorem RingAt.kept {S : Nat → Prop} (R : RingAt w x r b1 b2 sv sec n1 n2 D1 D2) (h : Kept w w' S) (hr : ¬ S r) (h1 : ¬ S b1) (h2 : ¬ S b2) (hs : ∀ gb ob, 0 < sec.length → w.cell? ⟨gb, ob, none⟩ = some (.int .u8 (sec[0]?.getD 0)) → ¬ S gb) :
    RingAt w' x r b1 b2 sv sec n1 n2 D1 D2 := by
  refine ⟨?_, ?_, R.secl, ?_, ?_, R.ne⟩
  · rw [h.block _ R.lt hr]; exact R.row
  · obtain ⟨A, cap, rfl, k1, k2, k3⟩ := R.secIn
    refine ⟨A, cap, rfl, k1, k2, fun hp => ?_⟩
    obtain ⟨gb, ob, rfl, hc⟩ := k3 hp
    exact ⟨gb, ob, rfl, fun i hi => by rw [World.cell?_of_block (w := w) (w' := w') (a := ⟨gb, ob + i, none⟩) (h.block _ (World.block_lt_of_cell? _ _ (hc i hi)) (hs gb ob hp (hc 0 hp)))]; exact hc i hi⟩
  · obtain ⟨es, clock, hb, F⟩ := R.keys
    exact ⟨es, clock, by rw [h.block _ (Array.getElem?_eq_some_iff.1 hb).1 h1]; exact hb, F⟩
  · obtain ⟨es, clock, hb, F⟩ := R.signed
    exact ⟨es, clock, by rw [h.block _ (Array.getElem?_eq_some_iff.1 hb).1 h2]; exact hb, F⟩
theorem RingAt.below (R : RingAt w x r b1 b2 sv sec n1 n2 D1 D2) (h : Below w.heap.size w w') : RingAt w' x r b1 b2 sv sec n1 n2 D1 D2 :=
  R.kept (Kept.ofBelow h fun _ => False) (fun e => e) (fun e => e) (fun e => e) (fun _ _ _ _ e => e)
/-- No byte of the secret lies in the ring's own cells. -/
theorem cells5 (x : Int) (sv : Value) (b1 b2 : Nat) (sv' : Value) (i : Nat) (z : Int) (hsv : ∀ z, sv ≠ .int .u8 z) : (#[Value.int .i32 x, .int .u32 0, sv, .map (some b1), .map (some b2)] : Array Value)[i]? ≠ some (.int .u8 z) := by
  intro h
  match i with
  | 0 => simp at h
  | 1 => simp at h
  | 2 => simp at h; exact hsv z h
  | 3 => simp at h
  | 4 => simp at h
  | i + 5 => simp at h
theorem RingAt.sec_ne_r (R : RingAt w x r b1 b2 sv sec n1 n2 D1 D2) {gb ob : Nat} {z : Int} (h : w.cell? ⟨gb, ob, none⟩ = some (.int .u8 z)) : gb ≠ r := by
  intro e
  subst e
  rw [cell_of_row _ _ _ _ _ _ R.row] at h
  refine cells5 x sv b1 b2 sv ob z ?_ h
  obtain ⟨A, cap, rfl, _⟩ := R.secIn
  intro z e; cases e
theorem cell_no_map {w : World} {b : Nat} {es : Array MapEntry} {clock : Nat} (hb : w.heap[b]? = some (.map es clock)) {o : Nat} {v : Value} (h : w.cell? ⟨b, o, none⟩ = some v) : False := by
  simp [World.cell?, hb] at h
theorem RingAt.sec_ne_1 (R : RingAt w x r b1 b2 sv sec n1 n2 D1 D2) {gb ob : Nat} {v : Value} (h : w.cell? ⟨gb, ob, none⟩ = some v) : gb ≠ b1 := by
  intro e; subst e; obtain ⟨es, clock, hb, _⟩ := R.keys; exact cell_no_map hb h
theorem RingAt.sec_ne_2 (R : RingAt w x r b1 b2 sv sec n1 n2 D1 D2) {gb ob : Nat} {v : Value} (h : w.cell? ⟨gb, ob, none⟩ = some v) : gb ≠ b2 := by
  intro e; subst e; obtain ⟨es, clock, hb, _⟩ := R.signed; exact cell_no_map hb h
/-- The lock's word is turned. -/
theorem RingAt.lock (R : RingAt w x r b1 b2 sv sec n1 n2 D1 D2) (y : Int) : RingAt (w.setCell ⟨r, 0, none⟩ (.int .i32 y)) y r b1 b2 sv sec n1 n2 D1 D2 := by
  have hk : Kept w (w.setCell ⟨r, 0, none⟩ (.int .i32 y)) (· = r) := (Kept.refl w _).set rfl
  refine ⟨?_, ?_, R.secl, ?_, ?_, R.ne⟩
  · rw [heap_setCell_same _ _ _ _ _ _ R.row]; rfl
  · obtain ⟨A, cap, rfl, k1, k2, k3⟩ := R.secIn
    refine ⟨A, cap, rfl, k1, k2, fun hp => ?_⟩
    obtain ⟨gb, ob, rfl, hc⟩ := k3 hp
    exact ⟨gb, ob, rfl, fun i hi => by rw [World.cell?_of_block (w := w) (a := ⟨gb, ob + i, none⟩) (hk.block _ (World.block_lt_of_cell? _ _ (hc i hi)) (R.sec_ne_r (hc i hi)))]; exact hc i hi⟩
  · have := R.r1
    obtain ⟨es, clock, hb, F⟩ := R.keys
    exact ⟨es, clock, by rw [hk.block _ (Array.getElem?_eq_some_iff.1 hb).1 (Ne.symm this)]; exact hb, F⟩
  · have := R.r2
    obtain ⟨es, clock, hb, F⟩ := R.signed
    exact ⟨es, clock, by rw [hk.block _ (Array.getElem?_eq_some_iff.1 hb).1 (Ne.symm this)]; exact hb, F⟩
theorem RingAt.cell0 (R : RingAt w x r b1 b2 sv sec n1 n2 D1 D2) : w.cell? ⟨r, 0, none⟩ = some (.int .i32 x) := by rw [cell_of_row _ _ _ _ _ _ R.row]; rfl
theorem RingAt.cell2 (R : RingAt w x r b1 b2 sv sec n1 n2 D1 D2) : w.cell? ⟨r, 2, none⟩ = some sv := by rw [cell_of_row _ _ _ _ _ _ R.row]; rfl
theorem RingAt.cell3 (R : RingAt w x r b1 b2 sv sec n1 n2 D1 D2) : w.cell? ⟨r, 3, none⟩ = some (.map (some b1)) := by rw [cell_of_row _ _ _ _ _ _ R.row]; rfl
theorem RingAt.cell4 (R : RingAt w x r b1 b2 sv sec n1 n2 D1 D2) : w.cell? ⟨r, 4, none⟩ = some (.map (some b2)) := by rw [cell_of_row _ _ _ _ _ _ R.row]; rfl
theorem RingAt.frozen0 (R : RingAt w x r b1 b2 sv sec n1 n2 D1 D2) : w.frozen? ⟨r, 0, none⟩ = false := frozen_of_row _ _ _ _ _ R.row
end

theorem eqItems_u8 (w : World) (d : Nat) (xs ys : List Int) (hl : xs.length = ys.length) : ∀ is : List Nat, (∀ i ∈ is, i < xs.length) →
    (Op.eqItems (d + 1) 5 1 (encA .u8 xs) (encA .u8 ys) is).run Tryd.prog w = .ok (is.all fun i => xs.getD i 0 == ys.getD i 0) w
  | [], _ => by simp [Op.eqItems]
  | i :: is, h => by
    have hi := h i (by simp)
    have p1 := run_part_plain (P := Tryd.prog) (w := w) (e := 5) (by kernel_rfl) (off := i * 1) (by rw [Nat.mul_one]; exact encA_getD .u8 xs i hi)
    have p2 := run_part_plain (P := Tryd.prog) (w := w) (e := 5) (by kernel_rfl) (off := i * 1) (by rw [Nat.mul_one]; exact encA_getD .u8 ys i (by omega))
    have p3 := run_equalIn_int (P := Tryd.prog) w d 5 .u8 .u8 (xs.getD i 0) (ys.getD i 0) Tryd.underlying5
    have ih := eqItems_u8 w d xs ys hl is (fun j hj => h j (by simp [hj]))
    simp only [Op.eqItems, Sem.run_bind, p1, p2, p3, Result.andThen_ok, List.all_cons]
    cases hq : (xs.getD i 0 == ys.getD i 0)
    · simp
    · simpa using ih
theorem all_eq (xs ys : List Int) (hl : xs.length = ys.length) : ((List.range xs.length).all fun i => xs.getD i 0 == ys.getD i 0) = decide (xs = ys) := by
  rw [Bool.eq_iff_iff, List.all_eq_true, decide_eq_true_eq]
  constructor
  · intro h
    refine List.ext_getElem hl (fun i h1 h2 => ?_)
    have := h i (List.mem_range.2 h1)
    simp only [List.getD_eq_getElem?_getD, List.getElem?_eq_getElem h1, List.getElem?_eq_getElem h2, Option.getD_some, beq_iff_eq] at this
    exact this
  · rintro rfl i _
    simp
theorem eq_D (w : World) (xs ys : List Int) (hx : xs.length = 32) (hy : ys.length = 32) : (Op.equalIn 10000 27 (.agg (encA .u8 xs)) (.agg (encA .u8 ys))).run Tryd.prog w = .ok (decide (xs = ys)) w := by
  obtain ⟨i, hi⟩ : ∃ i, Tryd.prog.info? 5 = some i := Option.isSome_iff_exists.1 (by kernel_rfl)
  rw [run_equalIn_array (P := Tryd.prog) w 9999 (encA .u8 xs) (encA .u8 ys) Tryd.underlying27 hi, cells_u8, eqItems_u8 w 9998 xs ys (by omega) _ (fun i hi => by rw [hx]; exact List.mem_range.1 hi), ← all_eq xs ys (by omega), hx]

def zer32 : List Int := List.replicate 32 0
/-- What stands at a key of a map of digests; of every world in which the map's block stands so. -/
theorem look_D {w : World} {k t : TypeId} {b n : Nat} {D : DataW Unit} (h : w.ownsMap Tryd.prog k digR b n D) (K : Keyed Tryd.prog k) (ht : Tryd.prog.underlying t = some (.map k 27)) {key : Value} {kl : Lit} (hkey : keyOf Tryd.prog k key = some kl) :
    ∃ ds : List Int, ds.length = 32 ∧ D.atKey kl (dat zer32) = dat ds ∧ ∀ w' : World, w'.heap[b]? = w.heap[b]? → (Instr.lookup t (.map (some b)) key true).run Tryd.prog w' = .ok (.tuple #[.agg (encA .u8 ds), .bool (Maps.has D kl)]) w' := by
  obtain ⟨v, ps, hrun, hv⟩ := h.look_ok K ht (zeroD w) (digR_mk zer32 (by decide)) hkey
  obtain ⟨ds, hl, rfl, hd⟩ := digR_inv hv
  refine ⟨ds, hl, hd, fun w' hw' => ?_⟩
  obtain ⟨es, clock, hb, F⟩ := h
  have h' : w'.ownsMap Tryd.prog k digR b n D := ⟨es, clock, by rw [hw']; exact hb, F⟩
  obtain ⟨v', ps', hrun', hv'⟩ := h'.look_ok K ht (zeroD w') (digR_mk zer32 (by decide)) hkey
  obtain ⟨ds', hl', rfl, hd'⟩ := digR_inv hv'
  rw [hrun', dat_inj (hd'.symm.trans hd)]
end Go.Proofs.YthgebhndhilhkaaDoor
