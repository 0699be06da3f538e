/- What reads as a key of a map of pairs is a pair. -/
import Derived.Test.YthgebhndhilhkaaDoorIdeal1
import Derived.Deep.Slices
import Derived.Lib.LaidTab
namespace Go.Proofs.YthgebhndhilhkaaDoor
open Go.RowKit Go.MuLone Go.Maps

set_option maxRecDepth 100000 in
theorem keyLits_u8 {d : Nat} {cs : List Value} {ls : List Lit} (h : Tryd.prog.keyLits d 5 cs = some ls) : ∃ n : Int, cs = [.int .u8 n] ∧ (0 ≤ n ∧ n ≤ 255) := by
  cases d with
  | zero => simp [Program.keyLits] at h
  | succ d =>
    unfold Program.keyLits at h
    rw [Tryd.underlying5] at h
    match cs, h with
    | [.int q n], h =>
      simp only [] at h
      split at h
      · rename_i hq
        obtain ⟨rfl, h2⟩ := hq
        refine ⟨n, rfl, ?_⟩
        simp [Lit.wf, IntKind.min, IntKind.max, IntKind.bits, IntKind.signed] at h2
        omega
      · cases h
set_option maxRecDepth 100000 in
theorem keyLits_str {d : Nat} {cs : List Value} {ls : List Lit} (h : Tryd.prog.keyLits d 9 cs = some ls) : ∃ s : ByteArray, cs = [.string s] ∧ s.size ≤ maxLen := by
  cases d with
  | zero => simp [Program.keyLits] at h
  | succ d =>
    unfold Program.keyLits at h
    rw [Tryd.underlying9] at h
    split at h <;> simp_all
set_option maxRecDepth 100000 in
theorem keyLits_D_inv {d : Nat} {cs : List Value} {ls : List Lit} (h : Tryd.prog.keyLits d 27 cs = some ls) : ∃ ds : List Int, cs = ds.map (Value.int .u8) ∧ ds.length = 32 ∧ Byt ds := by
  cases d with
  | zero => simp [Program.keyLits] at h
  | succ d =>
    unfold Program.keyLits at h
    rw [Tryd.underlying27] at h
    simp only [] at h
    split at h
    · rename_i hl
      rw [cells_D] at hl
      obtain ⟨xs, hm, _⟩ := Option.map_eq_some_iff.1 h
      have hex : ∀ i, i < 32 → ∃ x : Int, cs[i]? = some (Value.int .u8 x) ∧ (0 ≤ x ∧ x ≤ 255) := fun i hi => by
        obtain ⟨b, _, hb⟩ := Lib.mapM_at hm i i (by rw [List.getElem?_range hi])
        obtain ⟨n, h1, h2⟩ := keyLits_u8 hb
        refine ⟨n, ?_, h2⟩
        rw [cells_u8, Nat.mul_one] at h1
        have h3 := congrArg (·[0]?) h1
        simpa [List.getElem?_take, List.getElem?_drop] using h3
      obtain ⟨X, hX⟩ := Deep.choose_lt hex
      refine ⟨(List.range 32).map X, ?_, by simp, fun x hx => ?_⟩
      · apply List.ext_getElem?
        intro i
        by_cases hi : i < 32
        · rw [(hX i hi).1]; simp [hi]
        · rw [List.getElem?_eq_none (by omega), List.getElem?_eq_none (by simp; omega)]
      · obtain ⟨i, hi, rfl⟩ := List.mem_map.1 hx
        exact (hX i (List.mem_range.1 hi)).2
    · cases h
set_option maxRecDepth 100000 in
theorem pair_key_inv {key : Value} {kl : Lit} (h : keyOf Tryd.prog 90 key = some kl) : ∃ x : ByteArray × List Int, key = .agg (pairC x.1 x.2) ∧ x.2.length = 32 ∧ Byt x.2 ∧ x.1.size ≤ maxLen := by
  unfold keyOf at h
  rw [Tryd.underlying90] at h
  simp only [] at h
  split at h
  · rename_i hkf
    rw [Bool.and_eq_true] at hkf
    obtain ⟨ls, hls, _⟩ := Option.map_eq_some_iff.1 h
    unfold Program.keyLits at hls
    rw [Tryd.underlying90] at hls
    simp only [] at hls
    split at hls
    · rename_i hl
      rw [cells_P] at hl
      obtain ⟨xs, hm, _⟩ := Option.map_eq_some_iff.1 hls
      obtain ⟨b0, _, h0⟩ := Lib.mapM_at hm 0 _ rfl
      obtain ⟨b1, _, h1⟩ := Lib.mapM_at hm 1 _ rfl
      obtain ⟨s, e0, hs⟩ := keyLits_str h0
      obtain ⟨ds, e1, hd1, hd2⟩ := keyLits_D_inv h1
      rw [cells_S] at e0
      rw [cells_D] at e1
      have hkey : ∃ cs : Array Value, key = .agg cs := by
        have hf := hkf.2
        unfold Value.formed at hf
        rw [Tryd.underlying90] at hf
        cases key <;> simp_all
      obtain ⟨cs, rfl⟩ := hkey
      refine ⟨(s, ds), ?_, hd1, hd2, hs⟩
      have hl1 : cs.toList.length = 33 := hl.1
      have e0 : (cs.toList.drop 0).take 1 = [Value.string s] := e0
      have e1 : (cs.toList.drop 1).take 32 = ds.map (Value.int .u8) := e1
      obtain ⟨l⟩ := cs
      match l, hl1 with
      | c :: l, hl1 =>
        have hl1 : l.length = 32 := by simpa using hl1
        have e0 : c = Value.string s := by simpa using e0
        have e1 : l.take 32 = ds.map (Value.int .u8) := by simpa using e1
        rw [List.take_of_length_le (by omega)] at e1
        rw [e0, e1]
        rfl
    · cases hls
  · cases h
theorem digR_shape (v : Value) (y : DataW Unit × List MemPlace) (h : digR v = some y) : ∃ c : List Int, v = .agg (encA .u8 c) := by
  obtain ⟨ds, _, h2, _⟩ := digR_inv (d := y.1) (ps := y.2) h
  exact ⟨ds, h2⟩
end Go.Proofs.YthgebhndhilhkaaDoor
