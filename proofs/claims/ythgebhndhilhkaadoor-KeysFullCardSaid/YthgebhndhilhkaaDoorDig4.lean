/- digest: bytes written into a hasher. -/
import Derived.Test.YthgebhndhilhkaaDoorDig3
namespace Go.Proofs.YthgebhndhilhkaaDoor
open Go.RowKit

/-- A hasher's state. -/
structure HS where
  st : List Int
  part : List Int
  n : Int
structure HS.Ok (s : HS) : Prop where
  st : s.st.length = 8
  part : s.part.length = 64
  n : 0 ≤ s.n
def HS.cells (s : HS) : Array Value := hasherC s.st s.part s.n
def HS.at_ (s : HS) : Nat := (s.n % 64).toNat
/-- How many bytes go into the block. -/
def HS.room (s : HS) (m : Nat) : Nat := min m (64 - s.at_)
def HS.put (s : HS) (bs : List Int) : List Int := s.part.take s.at_ ++ (bs.take (s.room bs.length) ++ s.part.drop (s.at_ + s.room bs.length))
def stepW (rc : List Int) (s : HS) (bs : List Int) : HS :=
  { st := if ((s.n + (s.room bs.length : Nat)) % 64 == 0) = true then turnF rc s.st (s.put bs) else s.st, part := s.put bs, n := s.n + (s.room bs.length : Nat) }
def writeF (rc : List Int) : Nat → HS → List Int → HS
  | 0, s, _ => s
  | f + 1, s, bs => if bs.length = 0 then s else writeF rc f (stepW rc s bs) (bs.drop (s.room bs.length))
theorem HS.put_length {s : HS} (h : s.Ok) (bs : List Int) : (s.put bs).length = 64 := by
  have h1 : s.at_ < 64 := by unfold HS.at_; omega
  have := h.part
  simp only [HS.put, List.length_append, List.length_take, List.length_drop, HS.room]
  omega
theorem stepW_ok {s : HS} (rc bs : List Int) (h : s.Ok) : (stepW rc s bs).Ok := by
  refine ⟨?_, HS.put_length h bs, by have := h.n; simp only [stepW]; omega⟩
  simp only [stepW]
  split
  · rw [turnF_length, h.st]
  · exact h.st
theorem splice_part (st part xs : List Int) (n : Int) (hs : st.length = 8) (hp : part.length = 64) (a : Nat) (ha : a + xs.length ≤ 64) :
    (((hasherC st part n).toList.take (8 + a)) ++ (xs.map (Value.int .u8) ++ (hasherC st part n).toList.drop (8 + a + (xs.map (Value.int .u8)).length))).toArray = hasherC st (part.take a ++ (xs ++ part.drop (a + xs.length))) n := by
  apply Array.ext'
  have e1 : (st.map (Value.int .u32)).length = 8 := by simpa using hs
  have e2 : 8 + a - 8 = a := by omega
  have e3 : 8 + a + xs.length - 8 = a + xs.length := by omega
  simp only [hasherC, List.length_map, List.map_append, List.map_take, List.map_drop]
  rw [List.take_append, List.drop_append]
  simp only [e1, e2, e3]
  rw [List.take_of_length_le (by omega), List.drop_eq_nil_of_le (by omega), List.take_append, List.drop_append]
  simp only [List.length_map, hp]
  rw [show a - 64 = 0 by omega, show a + xs.length - 64 = 0 by omega]
  simp [List.map_take, List.map_drop]
theorem hasherC_set_n (st part : List Int) (n m : Int) (hs : st.length = 8) (hp : part.length = 64) : (hasherC st part n).setIfInBounds 72 (.int .i64 m) = hasherC st part m := by
  apply Array.ext'
  have e1 : (st.map (Value.int .u32)).length = 8 := by simpa using hs
  have e2 : (part.map (Value.int .u8)).length = 64 := by simpa using hp
  simp only [hasherC, List.setIfInBounds_toArray]
  rw [List.set_append_right _ _ (by rw [e1]; decide), List.set_append_right _ _ (by rw [e1, e2]; decide), e1, e2]
  rfl
theorem stepW_cells_t (rc : List Int) (s : HS) (bs : List Int) (h : ((s.n + (s.room bs.length : Nat)) % 64 == 0) = true) : (stepW rc s bs).cells = hasherC (turnF rc s.st (s.put bs)) (s.put bs) (s.n + (s.room bs.length : Nat)) := by
  simp only [HS.cells, stepW]
  rw [if_pos h]
theorem stepW_cells_f (rc : List Int) (s : HS) (bs : List Int) (h : ((s.n + (s.room bs.length : Nat)) % 64 == 0) = false) : (stepW rc s bs).cells = hasherC s.st (s.put bs) (s.n + (s.room bs.length : Nat)) := by
  simp only [HS.cells, stepW]
  rw [if_neg (by rw [h]; decide)]
theorem Glob.drew {w : World} {rc fc : List Int} (G : Glob w rc fc) : Glob w.drew rc fc := ⟨G.rl, G.fl, G.r, G.f⟩
theorem G_of_grown {w w1 : World} {g : Nat} {rc fc : List Int} (G : Glob w rc fc) (h : w.grownBy w1 (some g)) (h1 : g ≠ 4) (h2 : g ≠ 1) : Glob w1 rc fc :=
  ⟨G.rl, G.fl, G.r.same (h.block _ G.r.lt (by intro e; injection e with e; exact h1 e.symm)), G.f.same (h.block _ G.f.lt (by intro e; injection e with e; exact h2 e.symm))⟩

/-- A slice that reads as these bytes, none of them in block g. -/
def BytesBut (w : World) (g : Nat) (v : Value) (bs : List Int) : Prop :=
  ∃ A cap, v = .slice A bs.length cap ∧ bs.length ≤ cap ∧ cap ≤ 9223372036854775807 ∧ (0 < bs.length → ∃ gb ob, A = some ⟨gb, ob, none⟩ ∧ gb ≠ g ∧ ∀ i, i < bs.length → w.cell? ⟨gb, ob + i, none⟩ = some (.int .u8 (bs[i]?.getD 0)))
theorem cell_grown {w w1 : World} {g : Nat} (h : w.grownBy w1 (some g)) {a : Addr} {v : Value} (hne : a.block ≠ g) (hc : w.cell? a = some v) : w1.cell? a = some v := by
  have hlt := World.block_lt_of_cell? w a hc
  rw [← hc]
  exact World.cell?_of_block (w := w) (h.block _ hlt (by intro e; injection e with e; exact hne e))

set_option maxRecDepth 100000 in
set_option maxHeartbeats 1000000 in
theorem write_any (g : Nat) (s0 : HS) (bs0 : List Int) (v : Value) (rc fc : List Int) (w : World) (hok : s0.Ok) (G : Glob w rc fc)
    (hg : w.heap[g]? = some (.cells s0.cells 124 (0, 0))) (hb : BytesBut w g v bs0) (hn : s0.n + (bs0.length : Nat) ≤ 4611686018427387904) (hgr : g ≠ 4) (hgf : g ≠ 1) :
    Calls Tryd.prog 36 #[.pointer (some ⟨g, 0, none⟩), v] w fun e w' => e = .returned (.tuple #[]) ∧ w'.heap[g]? = some (.cells (writeF rc bs0.length s0 bs0).cells 124 (0, 0)) ∧ w.grownBy w' (some g) := by
  obtain ⟨A, cap, rfl, hcap, hcap2, hcells⟩ := hb
  obtain ⟨tgt, htgt⟩ : ∃ tgt, tgt = writeF rc bs0.length s0 bs0 := ⟨_, rfl⟩
  rw [← htgt]
  have Htgt := Lib.hid htgt
  have HG := Lib.hid G
  have Hg := Lib.hid hg
  have Hok := Lib.hid hok
  have Hcells := Lib.hid hcells
  clear htgt G hg hok hcells
  go_enter Tryd.func36, Tryd.ntmps36
  go_wp2_with fail
  go_loopw [1] (fun b wr => ∃ (f : Nat) (s : HS) (bs : List Int) (A : Option Addr) (cap : Nat), b = .slice A bs.length cap ∧ bs.length ≤ f ∧ bs.length ≤ cap ∧ cap ≤ 9223372036854775807 ∧ s.Ok ∧ s.n + (bs.length : Nat) ≤ 4611686018427387904 ∧ tgt = writeF rc f s bs ∧ wr.heap[g]? = some (.cells s.cells 124 (0, 0)) ∧ w.grownBy wr (some g) ∧
    (0 < bs.length → ∃ gb ob, A = some ⟨gb, ob, none⟩ ∧ gb ≠ g ∧ ∀ i, i < bs.length → w.cell? ⟨gb, ob + i, none⟩ = some (.int .u8 (bs[i]?.getD 0)))) (fun b _ => match b with | .slice _ n _ => n | _ => 0)
  case atStart => exact ⟨bs0.length, s0, bs0, A, cap, rfl, Nat.le_refl _, hcap, hcap2, Hok.out, hn, Htgt.out, Hg.out, World.grownBy.refl _ _, Hcells.out⟩
  case round =>
    obtain ⟨f, s, bs, A, cap, rfl, hf, hc1, hc2, ok, hb, ht, hwg, hgw, hcl⟩ := hrel
    by_cases hpos : 0 < bs.length
    · obtain ⟨gb, ob, rfl, hgb, hcell⟩ := hcl hpos
      obtain ⟨a, ha⟩ : ∃ a : Nat, a = s.at_ := ⟨_, rfl⟩
      have ha1 : s.n % 64 = (a : Int) := by rw [ha]; unfold HS.at_; have := ok.n; omega
      have ha2 : a < 64 := by rw [ha]; unfold HS.at_; omega
      have ha3 : 0 ≤ (a : Int) ∧ (a : Int) ≤ 64 := by omega
      have hn0 := ok.n
      have c72 : wr.cell? ⟨g, 72, none⟩ = some (.int .i64 s.n) := by rw [cell_of_row wr g _ _ _ _ hwg]; exact hasherC_n _ _ _ ok.st ok.part
      have f72 : wr.frozen? ⟨g, 72, none⟩ = false := frozen_of_row wr g 72 _ _ hwg
      obtain ⟨k, hk⟩ : ∃ k, k = s.room bs.length := ⟨_, rfl⟩
      have hk1 : k = min bs.length (64 - a) := by rw [hk, HS.room, ha]
      have hk2 : 0 < k := by omega
      have hk3 : k ≤ bs.length := by omega
      have hk4 : k ≤ 64 - a := by omega
      obtain ⟨cs, hcs⟩ : ∃ cs, cs = (bs.take k).map (Value.int .u8) := ⟨_, rfl⟩
      have hcsl : cs.length = k := by rw [hcs, List.length_map, List.length_take]; omega
      have Hn : Hid (cs.length = Nat.min bs.length (64 - a)) := by show cs.length = _; rw [hcsl, hk1]
      have Hsrc : Hid (∀ j v, cs[j]? = some v → wr.cell? ((⟨gb, ob, none⟩ : Addr).add j) = some v) := by
        intro j v hv
        have hj : j < k := by rw [← hcsl]; exact (List.getElem?_eq_some_iff.1 hv).1
        rw [add_off]
        refine cell_grown hgw hgb ?_
        rw [hcell j (by omega), ← hv, hcs, List.getElem?_map, List.getElem?_take, if_pos hj, List.getElem?_eq_getElem (by omega)]
        rfl
      have Hfit : Hid (8 + a + cs.length ≤ s.cells.size) := by
        show _ ≤ _
        have h1 := ok.st
        have h2 := ok.part
        simp only [HS.cells, hasherC, List.size_toArray, List.length_append, List.length_map, List.length_singleton]
        omega
      have H1 : Hid (∀ v ∈ cs, v.oneCell' = true) := by
        intro v hv
        rw [hcs] at hv
        obtain ⟨x, _, rfl⟩ := List.mem_map.1 hv
        rfl
      obtain ⟨C, hC⟩ : ∃ C, C = hasherC s.st (s.put bs) s.n := ⟨_, rfl⟩
      have Harr : Hid ((s.cells.toList.take (8 + a) ++ (cs ++ s.cells.toList.drop (8 + a + cs.length))).toArray = C) := by
        show _ = _
        have hl : (bs.take k).length = k := by rw [List.length_take]; omega
        have := splice_part s.st s.part (bs.take k) s.n ok.st ok.part a (by omega)
        rw [hC, hcs, HS.cells, this, HS.put, ← hk, ← ha, hl]
      have hrow : (wr.setRow g C).heap[g]? = some (.cells C 124 (0, 0)) := setRow_heap _ _ _ _ _ _ hwg
      have hp64 : (s.put bs).length = 64 := HS.put_length ok bs
      have c72' : (wr.setRow g C).cell? ⟨g, 72, none⟩ = some (.int .i64 s.n) := by rw [cell_of_row _ g _ _ _ _ hrow, hC]; exact hasherC_n _ _ _ ok.st hp64
      have f72' : (wr.setRow g C).frozen? ⟨g, 72, none⟩ = false := frozen_of_row _ g 72 _ _ hrow
      have hrow2 : ((wr.setRow g C).setCell ⟨g, 72, none⟩ (.int .i64 (s.n + (k : Int)))).heap[g]? = some (.cells (hasherC s.st (s.put bs) (s.n + (k : Int))) 124 (0, 0)) := by
        rw [heap_setCell_same _ _ _ _ _ _ hrow, hC, hasherC_set_n _ _ _ _ ok.st hp64]
      have hgr2 : w.grownBy ((wr.setRow g C).setCell ⟨g, 72, none⟩ (.int .i64 (s.n + (k : Int)))) (some g) := grown_set (grown_setRow hgw _) _ _
      have htl : (bs.drop k).length = bs.length - k := List.length_drop
      have hok2 := stepW_ok rc bs ok
      have htl2 : 0 < bs.length - k → ∃ gb' ob', (some ⟨gb, ob + k, none⟩ : Option Addr) = some ⟨gb', ob', none⟩ ∧ gb' ≠ g ∧ ∀ i, i < bs.length - k → w.cell? ⟨gb', ob' + i, none⟩ = some (.int .u8 ((bs.drop k)[i]?.getD 0)) := fun _ => ⟨gb, ob + k, rfl, hgb, fun i hi => by
        rw [Nat.add_assoc, hcell (k + i) (by omega), List.getElem?_drop]⟩
      have htgt : ∃ f', bs.length - k ≤ f' ∧ tgt = writeF rc f' (stepW rc s bs) (bs.drop k) := by
        obtain ⟨f', rfl⟩ : ∃ f', f = f' + 1 := ⟨f - 1, by omega⟩
        exact ⟨f', by omega, by rw [ht, writeF, if_neg (by omega), ← hk]⟩
      obtain ⟨f', hf', ht'⟩ := htgt
      have hsn : (stepW rc s bs).n = s.n + (k : Int) := by rw [stepW, ← hk]
      have hGr := G_of_grown HG.out hgr2 hgr hgf
      have Hwg := Lib.hid hwg
      have Hrow2 := Lib.hid hrow2
      have Hgr2 := Lib.hid hgr2
      have Hok2 := Lib.hid hok2
      have Htl := Lib.hid htl
      have Htl2 := Lib.hid htl2
      have Ht' := Lib.hid ht'
      have Hsn := Lib.hid hsn
      have HGr := Lib.hid hGr
      have Hok := Lib.hid ok
      have Hk := Lib.hid hk
      have hb5 : s.n + (k : Int) ≤ 4611686018427387904 := by omega
      clear ha hwg hgw ht hcell hcl ok hk hcs hC hrow hrow2 hgr2 hok2 htl htl2 ht' hsn hGr hp64 hk1
      by_cases hz : ((s.n + (k : Int)) % 64 == 0) = true
      all_goals (by_cases hck : cap = k)
      all_goals
        go_wp2_with (refine wpList_copy_own rfl _ _ _ _ rfl 5 Tryd.underlying22 (by kernel_rfl) g (8 + a) (64 - a) (64 - a) ⟨gb, ob, none⟩ bs.length cap rfl rfl s.cells 124 Hwg.out cs Hn.out Hsrc.out Hfit.out H1.out ?_; rw [Harr.out])
      rotate_left
      rotate_left
      · refine ⟨⟨f', stepW rc s bs, bs.drop k, _, _, by rw [Htl.out], by rw [Htl.out]; exact hf', by rw [Htl.out]; omega, by omega, Hok2.out, by rw [Hsn.out, Htl.out]; omega, Ht'.out, ?_, Hgr2.out, by rw [Htl.out]; intro h0; omega⟩, ?_⟩
        · rw [Hrow2.out, stepW_cells_f rc s bs (by rw [← Hk.out]; exact eq_false_of_ne_true hz), ← Hk.out]
        · show bs.length - k < bs.length
          omega
      · refine ⟨⟨f', stepW rc s bs, bs.drop k, _, _, by rw [Htl.out], by rw [Htl.out]; exact hf', by rw [Htl.out]; omega, by omega, Hok2.out, by rw [Hsn.out, Htl.out]; omega, Ht'.out, ?_, Hgr2.out, by rw [Htl.out]; exact Htl2.out⟩, ?_⟩
        · rw [Hrow2.out, stepW_cells_f rc s bs (by rw [← Hk.out]; exact eq_false_of_ne_true hz), ← Hk.out]
        · show bs.length - k < bs.length
          omega
      all_goals
        refine still_tail 7 (by kernel_rfl) (by kernel_rfl) ?_
        simp only [List.take_succ_cons, List.take_zero, List.drop_succ_cons, List.drop_zero]
        repeat still_step
        refine wpStill_nil ?_
        go_wp2_with fail
        refine (turn_any g 64 s.st (s.put bs) (s.n + (k : Int)) rc fc _ Hok.out.st (HS.put_length Hok.out bs) HGr.out.drew Hrow2.out).mono ?_
        rintro e w2 ⟨rfl, hrow3, hgr3⟩
        have Hrow3 := Lib.hid hrow3
        have Hgr3 := Lib.hid (grown_trans (grown_drew Hgr2.out) hgr3)
        clear hrow3 hgr3
        go_wp2_with fail
      · refine ⟨⟨f', stepW rc s bs, bs.drop k, _, _, by rw [Htl.out], by rw [Htl.out]; exact hf', by rw [Htl.out]; omega, by omega, Hok2.out, by rw [Hsn.out, Htl.out]; omega, Ht'.out, ?_, Hgr3.out, by rw [Htl.out]; intro h0; omega⟩, ?_⟩
        · rw [Hrow3.out, stepW_cells_t rc s bs (by rw [← Hk.out]; exact hz), ← Hk.out]
        · show bs.length - k < bs.length
          omega
      · refine ⟨⟨f', stepW rc s bs, bs.drop k, _, _, by rw [Htl.out], by rw [Htl.out]; exact hf', by rw [Htl.out]; omega, by omega, Hok2.out, by rw [Hsn.out, Htl.out]; omega, Ht'.out, ?_, Hgr3.out, by rw [Htl.out]; exact Htl2.out⟩, ?_⟩
        · rw [Hrow3.out, stepW_cells_t rc s bs (by rw [← Hk.out]; exact hz), ← Hk.out]
        · show bs.length - k < bs.length
          omega
    · have h0 : bs.length = 0 := by omega
      have Hend : Hid (tgt = s) := by
        show _ = _
        rw [ht]
        cases f with
        | zero => rfl
        | succ f => rw [writeF, if_pos h0]
      have Hwg := Lib.hid hwg
      have Hgw := Lib.hid hgw
      clear hwg hgw ht hcl ok
      rw [h0]
      go_wp2_with fail
      go_end0
      exact ⟨rfl, by rw [Hend.out]; exact Hwg.out, Hgw.out⟩
end Go.Proofs.YthgebhndhilhkaaDoor
