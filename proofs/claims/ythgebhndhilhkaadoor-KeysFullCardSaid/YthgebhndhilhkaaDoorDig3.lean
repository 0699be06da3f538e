/- digest: one block turned. -/
import Derived.Test.YthgebhndhilhkaaDoorDig2
import Derived.Deep.WholeRow
namespace Go.Proofs.YthgebhndhilhkaaDoor
open Go.RowKit

/-- A row stands there, of whatever type. -/
def RowAt (w : World) (g : Nat) (cs : Array Value) : Prop := ∃ t fr, w.heap[g]? = some (.cells cs t fr)
theorem RowAt.lt {w : World} {g : Nat} {cs : Array Value} (h : RowAt w g cs) : g < w.heap.size := by obtain ⟨t, fr, h⟩ := h; exact (Array.getElem?_eq_some_iff.1 h).1
theorem RowAt.same {w w1 : World} {g : Nat} {cs : Array Value} (h : RowAt w g cs) (e : w1.heap[g]? = w.heap[g]?) : RowAt w1 g cs := by obtain ⟨t, fr, h⟩ := h; exact ⟨t, fr, e.trans h⟩
theorem RowAt.cell {w : World} {g : Nat} {cs : Array Value} (h : RowAt w g cs) (j : Nat) : w.cell? ⟨g, j, none⟩ = cs[j]? := by obtain ⟨t, fr, h⟩ := h; exact cell_of_row _ _ _ _ _ _ h
/-- The table of rounds, and where a hasher begins: what their variables hold. -/
structure Glob (w : World) (rc fc : List Int) : Prop where
  rl : rc.length = 64
  fl : fc.length = 8
  r : RowAt w 4 (encA .u32 rc)
  f : RowAt w 1 (encA .u32 fc)

structure R8 where
  (a b c d e f g h : Int)
/-- One round. -/
def uF (s : R8) (kt wt : Int) : Int :=
  (s.h + bits BinOp.xor IntKind.u32 (bits BinOp.xor IntKind.u32 (rotF s.e (-6)) (rotF s.e (-11))) (rotF s.e (-25)) +
    bits BinOp.xor IntKind.u32 (bits BinOp.and IntKind.u32 s.e s.f)
      (bits BinOp.and IntKind.u32 (bits BinOp.xor IntKind.u32 (if IntKind.u32.signed = true then -1 else IntKind.u32.max) s.e) s.g) + kt + wt) % 4294967296
def vF (s : R8) : Int :=
  (bits BinOp.xor IntKind.u32 (bits BinOp.xor IntKind.u32 (rotF s.a (-2)) (rotF s.a (-13))) (rotF s.a (-22)) +
    bits BinOp.xor IntKind.u32 (bits BinOp.xor IntKind.u32 (bits BinOp.and IntKind.u32 s.a s.b) (bits BinOp.and IntKind.u32 s.a s.c)) (bits BinOp.and IntKind.u32 s.b s.c)) % 4294967296
def round1 (s : R8) (kt wt : Int) : R8 :=
  { a := (uF s kt wt + vF s) % 4294967296, b := s.a, c := s.b, d := s.c, e := (s.d + uF s kt wt) % 4294967296, f := s.e, g := s.f, h := s.g }
def roundsTo (rc ws : List Int) (s : R8) : Nat → R8
  | 0 => s
  | k + 1 => round1 (roundsTo rc ws s k) (rc[k]?.getD 0) (ws[k]?.getD 0)
def r8 (st : List Int) : R8 := { a := st[0]?.getD 0, b := st[1]?.getD 0, c := st[2]?.getD 0, d := st[3]?.getD 0, e := st[4]?.getD 0, f := st[5]?.getD 0, g := st[6]?.getD 0, h := st[7]?.getD 0 }
def R8.list (s : R8) : List Int := [s.a, s.b, s.c, s.d, s.e, s.f, s.g, s.h]

/-- A hasher's cells. -/
def hasherC (st part : List Int) (n : Int) : Array Value := (st.map (Value.int .u32) ++ (part.map (Value.int .u8) ++ [Value.int .i64 n])).toArray
theorem hasherC_st (st part : List Int) (n : Int) (hs : st.length = 8) (i : Nat) (h : i < 8) : (hasherC st part n)[i]? = some (.int .u32 (st[i]?.getD 0)) := by
  have hi : i < st.length := by omega
  simp [hasherC, List.getElem?_append, hi]
theorem hasherC_part (st part : List Int) (n : Int) (hs : st.length = 8) (hp : part.length = 64) (i : Nat) (h : i < 64) : (hasherC st part n)[8 + i]? = some (.int .u8 (part.getD i 0)) := by
  have hi : i < part.length := by omega
  simp [hasherC, List.getElem?_append, hs, show ¬ 8 + i < 8 by omega, hi]
theorem hasherC_n (st part : List Int) (n : Int) (hs : st.length = 8) (hp : part.length = 64) : (hasherC st part n)[72]? = some (.int .i64 n) := by
  simp [hasherC, List.getElem?_append, hs, hp]
theorem hasherC_set_st (st part : List Int) (n : Int) (hs : st.length = 8) (i : Nat) (h : i < 8) (v : Int) : (hasherC st part n).setIfInBounds i (.int .u32 v) = hasherC (st.set i v) part n := by
  apply Array.ext'
  have hi : i < (st.map (Value.int .u32)).length := by simp; omega
  simp [hasherC, List.set_append, hs, h, List.map_set]
/-- The words added. -/
def addTo (st xs : List Int) : Nat → List Int
  | 0 => st
  | k + 1 => (addTo st xs k).set k (((addTo st xs k)[k]?.getD 0 + xs[k]?.getD 0) % 4294967296)
theorem addTo_length (st xs : List Int) (k : Nat) : (addTo st xs k).length = st.length := by
  induction k with
  | zero => rfl
  | succ k ih => rw [addTo, List.length_set, ih]

/-- A block turned into a state. -/
def turnF (rc st part : List Int) : List Int := addTo st (roundsTo rc (sch2 part 48) (r8 st) 64).list 8
theorem turnF_length (rc st part : List Int) : (turnF rc st part).length = st.length := addTo_length _ _ _
set_option maxRecDepth 100000 in
set_option maxHeartbeats 1000000 in
theorem turn_any (g cap : Nat) (st part : List Int) (n : Int) (rc fc : List Int) (w : World) (hs : st.length = 8) (hp : part.length = 64) (G : Glob w rc fc)
    (hg : w.heap[g]? = some (.cells (hasherC st part n) 124 (0, 0))) :
    Calls Tryd.prog 72 #[.pointer (some ⟨g, 0, none⟩), .slice (some ⟨g, 8, none⟩) 64 cap] w fun e w' => e = .returned (.tuple #[]) ∧ w'.heap[g]? = some (.cells (hasherC (turnF rc st part) part n) 124 (0, 0)) ∧ w.grownBy w' (some g) := by
  have hlt : g < w.heap.size := (Array.getElem?_eq_some_iff.1 hg).1
  go_enter Tryd.func72, Tryd.ntmps72
  go_wp2_with fail
  refine (sched_any g 8 cap part w hlt (fun i hi => by rw [cell_of_row w g _ _ _ _ hg, hasherC_part _ _ _ hs hp i hi])).mono ?_
  rintro e w1 ⟨rfl, hB⟩
  have hl2 := sch2_length part 48
  obtain ⟨ws, hws⟩ : ∃ ws, ws = sch2 part 48 := ⟨_, rfl⟩
  rw [← hws] at hl2 ⊢
  have Hws := Lib.hid hws
  have Hl := Lib.hid hl2
  have Hst := Lib.hid hs
  have Hpt := Lib.hid hp
  have HG := Lib.hid G
  have Hg := Lib.hid hg
  have HB := Lib.hid hB
  clear hl2 hs hp G hg hB hws
  go_wp2_with (refine wpList_store_row rfl _ _ _ rfl _ _ rfl rfl _ _ (heap_alloc_new _ _) (by rw [encA_size, Hl.out]; exact sz_w) (by rw [encA_size, Hl.out]; rfl) (encA_one _ _) ?_)
  rw [World.setRow_alloc_new]
  have hlt1 : g < w1.heap.size := Nat.lt_of_lt_of_le hlt HB.out.size
  have hWg : (w1.alloc (.cells (encA .u32 ws) 165)).heap[g]? = some (.cells (hasherC st part n) 124 (0, 0)) := by
    rw [heap_alloc_old _ _ hlt1, HB.out.block _ hlt]; exact Hg.out
  have hWw : (w1.alloc (.cells (encA .u32 ws) 165)).heap[w1.heap.size]? = some (.cells (encA .u32 ws) 165 (0, 0)) := heap_alloc_new _ _
  have hWr : RowAt (w1.alloc (.cells (encA .u32 ws) 165)) 4 (encA .u32 rc) := by
    have hr := HG.out.r.lt
    exact HG.out.r.same (by rw [heap_alloc_old _ _ (Nat.lt_of_lt_of_le hr HB.out.size), HB.out.block _ hr])
  have hWB : Below w.heap.size w (w1.alloc (.cells (encA .u32 ws) 165)) := HB.out.alloc HB.out.size _
  have hwn : w1.heap.size ≠ g := by omega
  generalize w1.heap.size = gw at *
  generalize w1.alloc (.cells (encA .u32 ws) 165) = W at *
  have s0 : W.cell? ⟨g, 0, none⟩ = some (.int .u32 (st[0]?.getD 0)) := by rw [cell_of_row W g _ _ _ _ hWg, hasherC_st _ _ _ Hst.out 0 (by omega)]
  have s1 : W.cell? ⟨g, 1, none⟩ = some (.int .u32 (st[1]?.getD 0)) := by rw [cell_of_row W g _ _ _ _ hWg, hasherC_st _ _ _ Hst.out 1 (by omega)]
  have s2 : W.cell? ⟨g, 2, none⟩ = some (.int .u32 (st[2]?.getD 0)) := by rw [cell_of_row W g _ _ _ _ hWg, hasherC_st _ _ _ Hst.out 2 (by omega)]
  have s3 : W.cell? ⟨g, 3, none⟩ = some (.int .u32 (st[3]?.getD 0)) := by rw [cell_of_row W g _ _ _ _ hWg, hasherC_st _ _ _ Hst.out 3 (by omega)]
  have s4 : W.cell? ⟨g, 4, none⟩ = some (.int .u32 (st[4]?.getD 0)) := by rw [cell_of_row W g _ _ _ _ hWg, hasherC_st _ _ _ Hst.out 4 (by omega)]
  have s5 : W.cell? ⟨g, 5, none⟩ = some (.int .u32 (st[5]?.getD 0)) := by rw [cell_of_row W g _ _ _ _ hWg, hasherC_st _ _ _ Hst.out 5 (by omega)]
  have s6 : W.cell? ⟨g, 6, none⟩ = some (.int .u32 (st[6]?.getD 0)) := by rw [cell_of_row W g _ _ _ _ hWg, hasherC_st _ _ _ Hst.out 6 (by omega)]
  have s7 : W.cell? ⟨g, 7, none⟩ = some (.int .u32 (st[7]?.getD 0)) := by rw [cell_of_row W g _ _ _ _ hWg, hasherC_st _ _ _ Hst.out 7 (by omega)]
  have HWg := Lib.hid hWg
  have HWw := Lib.hid hWw
  have HWr := Lib.hid hWr
  have HWB := Lib.hid hWB
  clear hWg hWw hWr hWB
  go_wp2_with fail
  go_quiet (fail)
  clear s0 s1 s2 s3 s4 s5 s6 s7
  go_wp2_with fail
  go_loopw [5, 6, 7, 8, 9, 10, 11, 12, 52] (fun a b c d e f g h i wr => ∃ k : Nat, k ≤ 64 ∧ i = .int .i64 k ∧ a = .int .u32 (roundsTo rc ws (r8 st) k).a ∧ b = .int .u32 (roundsTo rc ws (r8 st) k).b ∧ c = .int .u32 (roundsTo rc ws (r8 st) k).c ∧ d = .int .u32 (roundsTo rc ws (r8 st) k).d ∧ e = .int .u32 (roundsTo rc ws (r8 st) k).e ∧ f = .int .u32 (roundsTo rc ws (r8 st) k).f ∧ g = .int .u32 (roundsTo rc ws (r8 st) k).g ∧ h = .int .u32 (roundsTo rc ws (r8 st) k).h ∧ ∃ n, wr = W.drewN n) (fun _ _ _ _ _ _ _ _ i _ => 64 - (intOf i).toNat)
  case atStart => exact ⟨0, by omega, rfl, rfl, rfl, rfl, rfl, rfl, rfl, rfl, rfl, nq, rfl⟩
  case round =>
    obtain ⟨k, hk, rfl, rfl, rfl, rfl, rfl, rfl, rfl, rfl, rfl, nn, rfl⟩ := hrel
    by_cases hlt : k < 64
    · obtain ⟨W2, hW2⟩ : ∃ W2, W2 = W.drewN nn := ⟨_, rfl⟩
      have cr : W2.cell? ⟨4, k, none⟩ = some (.int .u32 (rc[k]?.getD 0)) := by rw [hW2, World.cell?_drewN, HWr.out.cell, encA_getD _ _ _ (by rw [HG.out.rl]; exact hlt), List.getD_eq_getElem?_getD]
      have cw : W2.cell? ⟨gw, k, none⟩ = some (.int .u32 (ws[k]?.getD 0)) := by rw [hW2, World.cell?_drewN, cell_of_row W _ _ _ _ _ HWw.out, encA_getD _ _ _ (by rw [Hl.out]; exact hlt), List.getD_eq_getElem?_getD]
      have b4 : 0 ≤ (k : Int) ∧ (k : Int) < 64 := by omega
      obtain ⟨s, hs⟩ : ∃ s, s = roundsTo rc ws (r8 st) k := ⟨_, rfl⟩
      rw [← hW2, ← hs]
      have HW2 := Lib.hid hW2
      have Hs := Lib.hid hs
      clear hW2 hs
      go_wp2_with fail
      go_quiet ((go_at_call 123; exact Calls.quiet_of_same (right_q _ _ _ (by omega) (by omega))))
      go_wp2_with (go_at_call 123; refine (right_any _ _ _ (by omega) (by omega)).mono ?_; rintro e w' ⟨rfl, rfl⟩)
      go_roundw
      case rel =>
        refine ⟨k + 1, by omega, by go_num, ?_⟩
        rw [roundsTo, ← Hs.out]
        exact ⟨rfl, rfl, rfl, rfl, rfl, rfl, rfl, rfl, _, by rw [HW2.out, World.drewN_drewN]⟩
      case measure => simp [intOf]; omega
    · obtain rfl : k = 64 := by omega
      obtain ⟨s, hs⟩ : ∃ s, s = roundsTo rc ws (r8 st) 64 := ⟨_, rfl⟩
      rw [← hs]
      have Hs := Lib.hid hs
      clear hs
      rw [show ((64 : Nat) : Int) = 64 from rfl]
      go_wp2_with fail
      have hA : (#[.int .u32 s.a, .int .u32 s.b, .int .u32 s.c, .int .u32 s.d, .int .u32 s.e, .int .u32 s.f, .int .u32 s.g, .int .u32 s.h] : Array Value) = encA .u32 s.list := rfl
      rw [hA]
      clear hA
      go_loopw [124] (fun i wr => ∃ k : Nat, k ≤ 8 ∧ i = .int .i64 k ∧ wr.heap[g]? = some (.cells (hasherC (addTo st s.list k) part n) 124 (0, 0)) ∧ W.grownBy wr (some g)) (fun i _ => 8 - (intOf i).toNat)
      case atStart => exact ⟨0, by omega, rfl, HWg.out, grown_drewN (World.grownBy.refl _ _) _⟩
      case round =>
        obtain ⟨k, hk, rfl, hrg, hgr⟩ := hrel
        by_cases hlt : k < 8
        · have c0 : wr.cell? ⟨g, k, none⟩ = some (.int .u32 ((addTo st s.list k)[k]?.getD 0)) := by rw [cell_of_row wr g _ _ _ _ hrg, hasherC_st _ _ _ (by rw [addTo_length]; exact Hst.out) k hlt]
          have f0 : wr.frozen? ⟨g, k, none⟩ = false := frozen_of_row wr g k _ _ hrg
          have ix := fun W' => run_index_enc (P := Tryd.prog) 121 79 8 .u32 _ s.list k Tryd.underlying121 (by kernel_rfl) Tryd.underlying79 rfl hlt rfl W'
          have b4 : 0 ≤ (k : Int) ∧ (k : Int) < 8 := by omega
          have Hrg := Lib.hid hrg
          have Hgr := Lib.hid hgr
          clear hrg hgr
          go_wp2_with fail
          refine still_tail 9 (by kernel_rfl) (by kernel_rfl) ?_
          simp only [List.take_succ_cons, List.take_zero, List.drop_succ_cons, List.drop_zero]
          repeat still_step
          refine wpStill_nil ?_
          go_wp2_with fail
          go_roundw
          case rel =>
            refine ⟨k + 1, by omega, by go_num, ?_, grown_drew (grown_set Hgr.out _ _)⟩
            rw [heap_drew, heap_setCell_same _ _ _ _ _ _ Hrg.out, hasherC_set_st _ _ _ (by rw [addTo_length]; exact Hst.out) k hlt]
            rfl
          case measure => simp [intOf]; omega
        · obtain rfl : k = 8 := by omega
          have Hrg := Lib.hid hrg
          have Hgr := Lib.hid hgr
          clear hrg hgr
          go_wp2_with fail
          go_end0
          refine ⟨rfl, ?_, grown_trans (grown_ofBelow HWB.out _) Hgr.out⟩
          rw [Hrg.out, Hs.out, Hws.out]
          rfl
end Go.Proofs.YthgebhndhilhkaaDoor
