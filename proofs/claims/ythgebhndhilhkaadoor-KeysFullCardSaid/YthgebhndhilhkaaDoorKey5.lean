/- keys: New. -/
import Derived.Test.YthgebhndhilhkaaDoorKey4
import Derived.Lib.SliceRun
namespace Go.Proofs.YthgebhndhilhkaaDoor
open Go.RowKit Go.MuLone Go.Maps

theorem BytesIn.ofOwn {w : World} {base e n : Nat} {v : Value} {bs : List Int} (h : w.ownsRow base e 1 v n (bs.map (Value.int .u8))) : BytesIn w v bs := by
  have hl : bs.length = n := by simpa using h.1
  subst hl
  rcases h.2 with ⟨hv, h0⟩ | ⟨gp, cp, cur, h1, h2, _, h3, h4, _⟩
  · exact ⟨none, 0, by rw [hv, h0], by omega, by decide, fun hp => by omega⟩
  · subst h1
    refine ⟨_, cp, rfl, h3, by simpa [maxLen] using h4, fun hp => ⟨gp, 0, rfl, fun i hi => own_cell h i hi⟩⟩

set_option maxRecDepth 100000 in
set_option maxHeartbeats 1000000 in
theorem clone_some (A : Addr) (n c : Nat) (bs : List Int) (w : World) (hn : bs.length = n) (hbytes : n ≤ 140737488355328) (hc : ∀ j, j < n → w.cell? (A.add j) = some (.int .u8 (bs.getD j 0))) :
    Calls Tryd.prog 67 #[.slice (some A) n c] w fun e w' => ∃ v, e = .returned v ∧ BytesIn w' v bs ∧ Below w.heap.size w w' := by
  obtain ⟨i0, hi, hz0, hz1, hz2⟩ := info_parts infoB
  have hown0 : (w.alloc (.cells #[] 5)).ownsRow w.heap.size 5 1 (.slice (some ⟨w.heap.size, 0, none⟩) 0 0) 0 [] :=
    ⟨rfl, .inr ⟨w.heap.size, 0, #[], rfl, Nat.le_refl _, by show (w.heap.push _)[w.heap.size]? = _; simp, Nat.le_refl _, by unfold maxLen; omega, rfl, rfl⟩⟩
  have he : ∀ W : World, (binOp .eql 22 (.slice (some A) n c) (.slice none 0 0)).run Tryd.prog W = .ok (.bool false) W := fun W => Lib.run_eql_slice_nil W 22 5 (some A) n c 0 0 Tryd.underlying22
  go_enter Tryd.func67, Tryd.ntmps67
  go_wp2_with (first
    | (at_builtin; refine wpList_append_own _ rfl _ _ 22 rfl w.heap.size 5 i0 (.int .u8 0) 1 1 Tryd.underlying22 hi hz0 hz1 hz2 rfl (by decide) _ _ _ rfl hown0 A n c (bs.map (Value.int .u8)) rfl (by simp [hn]) ?c1 (ints_oneCell .u8 bs) (by unfold maxLen; omega) (by omega) (by simp) ?_))
  case c1 =>
    intro j u hu
    have hj : j < n := by
      have := (List.getElem?_eq_some_iff.1 hu).1
      simpa [hn] using this
    have hb : (A.add j).block < w.heap.size := World.block_lt_of_cell? _ _ (hc j hj)
    rw [((Below.refl w.heap.size w).alloc (Nat.le_refl _) _).cell hb, hc j hj]
    have e : (bs.map (Value.int .u8))[j]? = some (.int .u8 (bs.getD j 0)) := by simp [List.getD, show j < bs.length by omega]
    rw [e] at hu
    exact hu
  intro v w1 hown1 hgrow1 hnil1
  go_wp2
  go_ret
  refine ⟨_, rfl, BytesIn.ofOwn (n := n) (by simpa using hown1), ((Below.refl _ _).alloc (Nat.le_refl _) _).grown hgrow1 (by simp) (fun k hk => by simp [Value.ownBlock] at hk; omega)⟩

set_option maxRecDepth 100000 in
set_option maxHeartbeats 1000000 in
theorem clone_any (v : Value) (bs : List Int) (w : World) (h : BytesIn w v bs) (hbytes : bs.length ≤ 140737488355328) :
    Calls Tryd.prog 67 #[v] w fun e w' => ∃ v', e = .returned v' ∧ BytesIn w' v' bs ∧ Below w.heap.size w w' := by
  obtain ⟨A, cap, rfl, h1, h2, h3⟩ := h
  cases A with
  | some A =>
    refine clone_some A bs.length cap bs w rfl hbytes (fun j hj => ?_)
    obtain ⟨gb, ob, e, hc⟩ := h3 (by omega)
    injection e with e
    subst e
    rw [add_off, hc j hj, List.getD_eq_getElem?_getD]
  | none =>
    have hz : bs.length = 0 := by
      by_cases hp : 0 < bs.length
      · obtain ⟨gb, ob, e, _⟩ := h3 hp
        cases e
      · omega
    have he : ∀ W : World, (binOp .eql 22 (.slice none 0 cap) (.slice none 0 0)).run Tryd.prog W = .ok (.bool true) W := fun W => Lib.run_eql_slice_nil W 22 5 none 0 cap 0 0 Tryd.underlying22
    rw [hz]
    go_enter Tryd.func67, Tryd.ntmps67
    go_wp2
    go_ret
    exact ⟨.slice none 0 0, rfl, ⟨none, 0, by rw [hz], by omega, by decide, fun hp => by omega⟩, Below.refl _ _⟩

set_option maxRecDepth 100000 in
set_option maxHeartbeats 1000000 in
theorem rnew_any (v : Value) (sec : List Int) (w : World) (h : BytesIn w v sec) (hbytes : sec.length ≤ 140737488355328) :
    Calls Tryd.prog 29 #[v] w fun e w' => ∃ r b1 b2 sv, e = .returned (.pointer (some ⟨r, 0, none⟩)) ∧ RingAt w' 0 r b1 b2 sv sec 0 0 (.map []) (.map []) ∧ Below w.heap.size w w' ∧ w.heap.size ≤ r ∧ w.heap.size ≤ b1 ∧ w.heap.size ≤ b2 := by
  have hmm := @run_makeMap Tryd.prog
  go_enter Tryd.func29, Tryd.ntmps29
  go_wp2_with fail
  refine (clone_any v sec w h hbytes).mono ?_
  rintro e w1 ⟨sv, rfl, hin, hb⟩
  obtain ⟨A, cap, rfl⟩ : ∃ A cap, sv = .slice A sec.length cap := by obtain ⟨A, cap, h, _⟩ := hin; exact ⟨A, cap, h⟩
  have Hin := Lib.hid hin
  have Hb := Lib.hid hb
  clear hin hb
  go_wp2_with fail
  have hbel : Below w1.heap.size w1 (((w1.alloc (.map #[] 0)).alloc (.map #[] 0)).alloc (.cells #[.int .i32 0, .int .u32 0, .slice A sec.length cap, .map (some w1.heap.size), .map (some (w1.heap.size + 1))] 87)) :=
    (((Below.refl _ _).alloc (Nat.le_refl _) _).alloc (by simp) _).alloc (by simp; omega) _
  go_ret
  refine ⟨w1.heap.size + 1 + 1, w1.heap.size, w1.heap.size + 1, .slice A sec.length cap, rfl, ⟨?_, Hin.out.below hbel, by omega, ?_, ?_, by omega⟩, Hb.out.trans (hbel.mono Hb.out.size), ?_, Hb.out.size, ?_⟩
  · have := heap_alloc_new ((w1.alloc (.map #[] 0)).alloc (.map #[] 0)) (.cells #[.int .i32 0, .int .u32 0, .slice A sec.length cap, .map (some w1.heap.size), .map (some (w1.heap.size + 1))] 87)
    simpa using this
  · exact ((World.ownsMap_made w1 _ _ _).alloc _).alloc _
  · have := (World.ownsMap_made (w1.alloc (.map #[] 0)) Tryd.prog 90 digR).alloc (.cells #[.int .i32 0, .int .u32 0, .slice A sec.length cap, .map (some w1.heap.size), .map (some (w1.heap.size + 1))] 87)
    simpa using this
  · have := Hb.out.size; omega
  · have := Hb.out.size; omega
end Go.Proofs.YthgebhndhilhkaaDoor
