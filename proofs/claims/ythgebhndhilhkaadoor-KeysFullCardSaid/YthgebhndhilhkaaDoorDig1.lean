/- digest: eight, masked. -/
import Derived.Test.YthgebhndhilhkaaDoorDig0
import Derived.StillTailTactics
import Derived.BigQuiet
import Derived.Deep.QuietTactic
import Derived.IntWalk
import Derived.Lib.Hide
import Derived.Laws.CopyOwn
import Derived.Laws.Rows
namespace Go.Proofs.YthgebhndhilhkaaDoor
open Go.RowKit

/-- A region that draws its order and ends in a forced tail: the world behind the draw by its name. -/
theorem still_tail {P : Program} {id : Nat} {Q : Exit → Act → World → Prop} {a : Act} {w : World} {l : List Oper} (n : Nat) (hm : P.follows .mixedOrders = true) (hB : Region.lexTailB .any l.toArray n = true)
    (h : wpStill P l.toArray w.drew (fun a' => wpList P l.toArray Q (l.drop n) a' w.drew) (l.take n) a) : (Code.region id l.toArray true).wp P Q a w := wp_region_still_tail n hm hB h

/-- Numbers as an array's cells. -/
def encA (k : IntKind) (xs : List Int) : Array Value := (xs.map (Value.int k)).toArray
theorem encA_get (k : IntKind) (xs : List Int) (i : Nat) : (encA k xs)[i]? = (xs[i]?).map (Value.int k) := by simp [encA]
theorem encA_set (k : IntKind) (xs : List Int) (i : Nat) (v : Int) : (encA k xs).setIfInBounds i (.int k v) = encA k (xs.set i v) := by
  apply Array.ext'
  simp [encA, List.map_set]
theorem encA_size (k : IntKind) (xs : List Int) : (encA k xs).size = xs.length := by simp [encA]

theorem encA_some (k : IntKind) (xs : List Int) (i : Nat) (h : i < xs.length) : ∃ x, (encA k xs)[i]? = some (.int k x) := ⟨xs[i], by rw [encA_get, List.getElem?_eq_getElem h]; rfl⟩

theorem encA_getD (k : IntKind) (xs : List Int) (i : Nat) (h : i < xs.length) : (encA k xs)[i]? = some (.int k (xs.getD i 0)) := by
  rw [encA_get, List.getD_eq_getElem?_getD, List.getElem?_eq_getElem h]; rfl

theorem run_index_enc {P : Program} (t e : TypeId) (n : Nat) (k : IntKind) (d : TypeDesc) (xs : List Int) (i : Nat) (h : P.underlying t = some (.array n e)) (hs : (P.info? e).map (·.size) = some 1) (he : P.underlying e = some d)
    (hd : (match d with | .struct _ | .array _ _ => true | _ => false) = false) (hi : i < n) (hl : xs.length = n) (W : World) :
    (Instr.index t (.agg (encA k xs)) (.int .i64 i)).run P W = .ok (.int k (xs[i]?.getD 0)) W := by
  have hx : i < xs.length := by omega
  cases hq : P.info? e with
  | none => simp [hq] at hs
  | some j =>
    have hj : j.size = 1 := by simpa [hq] using hs
    have hagg : (isAgg e).run P W = .ok false W := by
      unfold isAgg
      rw [Sem.run_bind, run_underlying he W]
      cases d <;> simp_all
    simp [Instr.index, asIntOf, Sem.run_bind, run_underlying h, hi, part, sizeOf, typeInfo, hq, hj, hagg, encA_get, hx]

theorem add_off (b o j : Nat) : (⟨b, o, none⟩ : Addr).add j = ⟨b, o + j, none⟩ := by unfold Addr.add; split <;> simp_all
/-- The cell of a box that was laid just now. -/
theorem cell_box (w : World) (x : Value) (t : TypeId) (j : Nat) (u : Value) (h : [x][j]? = some u) : (w.alloc (.cells #[x] t)).cell? ((⟨w.heap.size, 0, none⟩ : Addr).add j) = some u := by
  rw [add_off, World.cell?_alloc_at _ _ _ _ rfl]
  simpa using h

/-! What a call turns: one block, and new ones. -/
theorem grown_drewN {w w1 : World} {r : Option Nat} (h : w.grownBy w1 r) (n : Nat) : w.grownBy (w1.drewN n) r := ⟨h.os, h.tape, h.output, h.size, h.block⟩
theorem grown_drew {w w1 : World} {r : Option Nat} (h : w.grownBy w1 r) : w.grownBy w1.drew r := ⟨h.os, h.tape, h.output, h.size, h.block⟩
theorem grown_set {w w1 : World} {g : Nat} (h : w.grownBy w1 (some g)) (i : Nat) (v : Value) : w.grownBy (w1.setCell ⟨g, i, none⟩ v) (some g) :=
  ⟨h.os, h.tape, h.output, by simpa [World.setCell] using h.size, fun k hk hne => by
    rw [heap_setCell_other _ _ _ _ (by intro e; exact hne (by rw [e]))]; exact h.block k hk hne⟩
theorem grown_setRow {w w1 : World} {g : Nat} (h : w.grownBy w1 (some g)) (cs : Array Value) : w.grownBy (w1.setRow g cs) (some g) :=
  ⟨h.os, h.tape, h.output, by simpa using h.size, fun k hk hne => by
    rw [setRow_other _ _ _ _ (by intro e; exact hne (by rw [e]))]; exact h.block k hk hne⟩
theorem grown_alloc {w w1 : World} {r : Option Nat} (h : w.grownBy w1 r) (o : Obj) : w.grownBy (w1.alloc o) r :=
  ⟨h.os, h.tape, h.output, by simpa using Nat.le_succ_of_le h.size, fun k hk hne => by
    rw [heap_alloc_old _ _ (Nat.lt_of_lt_of_le hk h.size)]; exact h.block k hk hne⟩
theorem grown_below {w w1 w2 : World} {r : Option Nat} (h : w.grownBy w1 r) (b : Below w1.heap.size w1 w2) : w.grownBy w2 r :=
  ⟨b.os.trans h.os, b.tape.trans h.tape, b.output.trans h.output, Nat.le_trans h.size b.size, fun k hk hne => (b.block k (Nat.lt_of_lt_of_le hk h.size)).trans (h.block k hk hne)⟩
theorem grown_trans {w w1 w2 : World} {r : Option Nat} (h : w.grownBy w1 r) (b : w1.grownBy w2 r) : w.grownBy w2 r :=
  ⟨b.os.trans h.os, b.tape.trans h.tape, b.output.trans h.output, Nat.le_trans h.size b.size, fun k hk hne => (b.block k (Nat.lt_of_lt_of_le hk h.size) hne).trans (h.block k hk hne)⟩
theorem grown_ofBelow {w w1 : World} (h : Below w.heap.size w w1) (r : Option Nat) : w.grownBy w1 r := ⟨h.os, h.tape, h.output, h.size, fun k hk _ => h.block k hk⟩
theorem below_ofGrown {w w1 : World} {B g : Nat} (h : w.grownBy w1 (some g)) (hB : B ≤ w.heap.size) (hg : B ≤ g) : Below B w w1 :=
  ⟨h.os, h.tape, h.output, h.size, fun k hk => h.block k (by omega) (by intro e; injection e with e; omega)⟩

def eightTo (n : Int) : Nat → List Int
  | 0 => List.replicate 8 0
  | k + 1 => (eightTo n k).set k (n / 2 ^ (56 - 8 * k) % 256)
theorem eightTo_length (n : Int) (k : Nat) : (eightTo n k).length = 8 := by
  induction k with
  | zero => rfl
  | succ k ih => rw [eightTo, List.length_set, ih]

set_option maxHeartbeats 400000 in
theorem eight_any (n : Int) (w : World) (h0 : 0 ≤ n) (h1 : n ≤ 18446744073709551615) :
    Calls Tryd.prog 73 #[.int .u64 n] w fun e w' => e = .returned (.slice (some ⟨w.heap.size, 0, none⟩) 8 8) ∧ w' = w.alloc (.cells (encA .u8 (eightTo n 8)) 168) := by
  go_enter Tryd.func73, Tryd.ntmps73
  go_wp2
  go_loopw [4, 5] (fun _ i wr => ∃ k : Nat, k ≤ 8 ∧ i = .int .i64 k ∧ wr = w.alloc (.cells (encA .u8 (eightTo n k)) 168)) (fun _ i _ => 8 - (intOf i).toNat)
  case atStart => exact ⟨0, by omega, rfl, rfl⟩
  case round =>
    obtain ⟨k, hk, rfl, rfl⟩ := hrel
    by_cases hlt : k < 8
    · obtain ⟨x, hx⟩ : ∃ x, (encA .u8 (eightTo n k))[k]? = some (.int .u8 x) := encA_some _ _ _ (by rw [eightTo_length]; exact hlt)
      go_wp2
      go_roundw
      case rel => exact ⟨k + 1, by omega, by go_num, by rw [encA_set]; rfl⟩
      case measure => simp [intOf]; omega
    · obtain rfl : k = 8 := by omega
      go_wp2
      go_ret
      exact ⟨rfl, rfl⟩

/-- A block's 64 bytes, each turned by the mask, up to number k. -/
def maskTo (xs : List Int) (m : Int) : Nat → List Int
  | 0 => xs
  | k + 1 => (maskTo xs m k).set k (bits .xor .u8 ((maskTo xs m k).getD k 0) m)
theorem maskTo_length (xs : List Int) (m : Int) (k : Nat) : (maskTo xs m k).length = xs.length := by
  induction k with
  | zero => rfl
  | succ k ih => rw [maskTo, List.length_set, ih]
set_option maxHeartbeats 400000 in
theorem masked_any (xs : List Int) (m : Int) (w : World) (hl : xs.length = 64) :
    Calls Tryd.prog 37 #[.agg (encA .u8 xs), .int .u8 m] w fun e w' => e = .returned (.slice (some ⟨w.heap.size, 0, none⟩) 64 64) ∧ w' = w.alloc (.cells (encA .u8 (maskTo xs m 64)) 70) := by
  go_enter Tryd.func37, Tryd.ntmps37
  go_wp2
  go_loopw [5, 6] (fun _ i wr => ∃ k : Nat, k ≤ 64 ∧ i = .int .i64 k ∧ wr = w.alloc (.cells (encA .u8 (maskTo xs m k)) 70)) (fun _ i _ => 64 - (intOf i).toNat)
  case atStart => exact ⟨0, by omega, rfl, rfl⟩
  case round =>
    obtain ⟨k, hk, rfl, rfl⟩ := hrel
    by_cases hlt : k < 64
    · have hx : (encA .u8 (maskTo xs m k))[k]? = some (.int .u8 ((maskTo xs m k).getD k 0)) := encA_getD _ _ _ (by rw [maskTo_length]; omega)
      go_wp2
      go_roundw
      case rel => exact ⟨k + 1, by omega, by go_num, by rw [encA_set]; rfl⟩
      case measure => simp [intOf]; omega
    · obtain rfl : k = 64 := by omega
      go_wp2
      go_ret
      exact ⟨rfl, rfl⟩
end Go.Proofs.YthgebhndhilhkaaDoor
