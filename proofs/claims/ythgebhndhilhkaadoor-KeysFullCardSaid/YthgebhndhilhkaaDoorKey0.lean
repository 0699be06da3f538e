/- keys: a ring in memory. -/
import Derived.Test.YthgebhndhilhkaaDoorDig7
import Derived.Test.YthgebhndhilhkaaDoorMu
import Derived.Maps.OwnSet
import Derived.DeepKeys4
import Derived.Defers
namespace Go.Proofs.YthgebhndhilhkaaDoor
open Go.RowKit Go.MuLone Go.Maps

def dat (ds : List Int) : DataW Unit := .agg (ds.map fun x => .lit (.int .u8 x))
theorem dat_inj {a b : List Int} (h : dat a = dat b) : a = b := by
  unfold dat at h
  injection h with h
  induction a generalizing b with
  | nil => cases b with
    | nil => rfl
    | cons y b => simp at h
  | cons x a ih => cases b with
    | nil => simp at h
    | cons y b =>
      simp only [List.map_cons, List.cons.injEq, DataW.lit.injEq, Lit.int.injEq, true_and] at h
      rw [h.1, ih h.2]
theorem map_int_inj (k : IntKind) : ∀ (a b : List Int), a.map (Value.int k) = b.map (Value.int k) → a = b
  | [], [], _ => rfl
  | [], _ :: _, h => by simp at h
  | _ :: _, [], h => by simp at h
  | x :: a, y :: b, h => by
    simp only [List.map_cons, List.cons.injEq, Value.int.injEq, true_and] at h
    rw [h.1, map_int_inj k a b h.2]
theorem encA_inj {k : IntKind} {a b : List Int} (h : encA k a = encA k b) : a = b := by
  have h : a.map (Value.int k) = b.map (Value.int k) := by
    have := congrArg Array.toList h
    simpa only [encA] using this
  exact map_int_inj k a b h
open Classical in
/-- How a digest in a map reads. -/
noncomputable def digR (v : Value) : Option (DataW Unit × List MemPlace) :=
  if h : ∃ ds : List Int, ds.length = 32 ∧ v = .agg (encA .u8 ds) then some (dat h.choose, []) else none
theorem digR_mk (ds : List Int) (h : ds.length = 32) : digR (.agg (encA .u8 ds)) = some (dat ds, []) := by
  have hex : ∃ xs : List Int, xs.length = 32 ∧ Value.agg (encA .u8 ds) = .agg (encA .u8 xs) := ⟨ds, h, rfl⟩
  rw [digR, dif_pos hex]
  have := hex.choose_spec.2
  injection this with this
  rw [encA_inj this.symm]
theorem digR_inv {v : Value} {d : DataW Unit} {ps : List MemPlace} (h : digR v = some (d, ps)) : ∃ ds : List Int, ds.length = 32 ∧ v = .agg (encA .u8 ds) ∧ d = dat ds := by
  unfold digR at h
  split at h
  · rename_i hex
    injection h with h
    injection h with h1 h2
    exact ⟨hex.choose, hex.choose_spec.1, hex.choose_spec.2, h1.symm⟩
  · cases h

theorem lawS : Keyed Tryd.prog 9 := string_keyed Tryd.underlying9
theorem lawP : Keyed Tryd.prog 90 := Keyed.of_law (deep_law_laid (by kernel_rfl) (m := 4) (by omega) (of_decide_eq_true (by kernel_rfl)) (by kernel_rfl) (by kernel_rfl))
theorem zeroD (w : World) : (zeroValue 27).run Tryd.prog w = .ok (.agg (encA .u8 (List.replicate 32 0))) w := by kernel_rfl

def pairC (s : ByteArray) (ds : List Int) : Array Value := (Value.string s :: ds.map (Value.int .u8)).toArray
theorem pairC_inj {s t : ByteArray} {a b : List Int} (h : Value.agg (pairC s a) = .agg (pairC t b)) : s = t ∧ a = b := by
  injection h with h
  have h := congrArg Array.toList h
  simp only [pairC, List.cons.injEq, Value.string.injEq] at h
  exact ⟨h.1, encA_inj (k := .u8) (by rw [encA, h.2, encA])⟩
def Byt (ds : List Int) : Prop := ∀ x ∈ ds, 0 ≤ x ∧ x ≤ 255
theorem mapM_some {α β : Type} {f : α → Option β} : ∀ (l : List α), (∀ x ∈ l, ∃ y, f x = some y) → ∃ ys, l.mapM f = some ys
  | [], _ => ⟨[], rfl⟩
  | x :: l, h => by
    obtain ⟨y, hy⟩ := h x (by simp)
    obtain ⟨ys, hys⟩ := mapM_some l (fun z hz => h z (by simp [hz]))
    exact ⟨y :: ys, by simp [List.mapM_cons, hy, hys]⟩
theorem cells_u8 : Tryd.prog.cellsOf 5 = 1 := by kernel_rfl
theorem cells_D : Tryd.prog.cellsOf 27 = 32 := by kernel_rfl
theorem cells_P : Tryd.prog.cellsOf 90 = 33 := by kernel_rfl
theorem cells_S : Tryd.prog.cellsOf 9 = 1 := by kernel_rfl
theorem keyLits_D (ds : List Int) (h : ds.length = 32) (hb : Byt ds) (d : Nat) : ∃ ls, Tryd.prog.keyLits (d + 2) 27 (ds.map (Value.int .u8)) = some ls := by
  unfold Program.keyLits
  rw [Tryd.underlying27]
  simp only []
  rw [if_pos (by rw [List.length_map, h]; exact cells_D.symm)]
  obtain ⟨ys, hys⟩ := mapM_some (f := fun i => Tryd.prog.keyLits (d + 1) 5 (((ds.map (Value.int .u8)).drop (i * Tryd.prog.cellsOf 5)).take (Tryd.prog.cellsOf 5))) (List.range 32) (fun i hi => by
    have hi := List.mem_range.1 hi
    rw [cells_u8, Nat.mul_one, List.drop_eq_getElem_cons (by rw [List.length_map, h]; exact hi)]
    simp only [List.take_succ_cons, List.take_zero, List.getElem_map]
    unfold Program.keyLits
    rw [Tryd.underlying5]
    simp only []
    have hx := hb (ds[i]'(by rw [h]; exact hi)) (List.getElem_mem _)
    rw [if_pos ⟨trivial, by simp [Lit.wf, IntKind.min, IntKind.max, IntKind.bits, IntKind.signed]; omega⟩]
    exact ⟨_, rfl⟩)
  rw [hys]
  exact ⟨_, rfl⟩
theorem keyLits_P (s : ByteArray) (ds : List Int) (hs : s.size ≤ maxLen) (h : ds.length = 32) (hb : Byt ds) (d : Nat) : ∃ ls, Tryd.prog.keyLits (d + 3) 90 (Value.string s :: ds.map (Value.int .u8)) = some ls := by
  obtain ⟨ls, hls⟩ := keyLits_D ds h hb d
  unfold Program.keyLits
  rw [Tryd.underlying90]
  simp only []
  rw [if_pos ⟨by rw [List.length_cons, List.length_map, h]; exact cells_P.symm, by kernel_rfl⟩]
  have h1 : Tryd.prog.keyLits (d + 2) 9 [Value.string s] = some [.string s.data.toList] := by
    unfold Program.keyLits
    rw [Tryd.underlying9]
    simp only []
    rw [if_pos hs]
  have e1 : ((Value.string s :: ds.map (Value.int .u8)).drop 0).take (Tryd.prog.cellsOf 9) = [Value.string s] := by rw [cells_S]; rfl
  have e2 : ((Value.string s :: ds.map (Value.int .u8)).drop 1).take (Tryd.prog.cellsOf 27) = ds.map (Value.int .u8) := by
    rw [cells_D]
    simp only [List.drop_succ_cons, List.drop_zero]
    exact List.take_of_length_le (by rw [List.length_map, h]; decide)
  simp only [List.mapM_cons, List.mapM_nil, e1, e2, h1, hls]
  exact ⟨_, rfl⟩
theorem pair_key (s : ByteArray) (ds : List Int) (hs : s.size ≤ maxLen) (h : ds.length = 32) (hb : Byt ds) : ∃ l, keyOf Tryd.prog 90 (.agg (pairC s ds)) = some l := by
  unfold keyOf
  rw [Tryd.underlying90]
  simp only []
  obtain ⟨ls, hls⟩ := keyLits_P s ds hs h hb (Tryd.prog.types.size - 2)
  have hsz : Tryd.prog.types.size - 2 + 3 = Tryd.prog.types.size + 1 := by kernel_rfl
  rw [hsz] at hls
  have hk : Tryd.prog.keyType 90 = true := by kernel_rfl
  have hf : (Value.agg (pairC s ds)).formed Tryd.prog 90 = true := by
    unfold Value.formed
    rw [Tryd.underlying90]
    simp only [beq_iff_eq]
    rw [cells_P]
    simp [pairC, h]
  rw [hk, hf]
  simp only [Bool.and_self, if_true]
  have : (Value.agg (pairC s ds)).cells.toList = (Value.string s :: ds.map (Value.int .u8)) := rfl
  rw [this, hls]
  exact ⟨_, rfl⟩
end Go.Proofs.YthgebhndhilhkaaDoor
