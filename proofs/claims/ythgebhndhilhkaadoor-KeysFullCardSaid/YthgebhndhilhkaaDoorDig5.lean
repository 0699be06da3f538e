/- digest: New, Sum, Mac. -/
import Derived.Test.YthgebhndhilhkaaDoorDig4
import Derived.OwnWalk
import Derived.Deep.MidRow
namespace Go.Proofs.YthgebhndhilhkaaDoor
open Go.RowKit

theorem own_form {w : World} {base e size n : Nat} {v : Value} {xs : List Value} (h : w.ownsRow base e size v n xs) (hn : 0 < n) : ∃ g cap, v = .slice (some ⟨g, 0, none⟩) n cap ∧ base ≤ g ∧ n ≤ cap ∧ cap ≤ 9223372036854775807 := by
  rcases h.2 with ⟨_, h0⟩ | ⟨gp, cp, cur, h1, h2, _, h3, h4, _⟩
  · omega
  · exact ⟨gp, cp, h1, h2, h3, by simpa [maxLen] using h4⟩
theorem own_cell {w : World} {base e n g cap : Nat} {k : IntKind} {xs : List Int} (h : w.ownsRow base e 1 (.slice (some ⟨g, 0, none⟩) n cap) n (xs.map (Value.int k))) (i : Nat) (hi : i < n) : w.cell? ⟨g, 0 + i, none⟩ = some (.int k (xs[i]?.getD 0)) := by
  have hl : xs.length = n := by simpa using h.1
  have := h.cells (g := g) rfl i (.int k (xs[i]?.getD 0)) (by rw [List.getElem?_map, List.getElem?_eq_getElem (by omega)]; rfl)
  rw [add_off] at this
  exact this

def hs0 (fc : List Int) : HS := { st := fc, part := List.replicate 64 0, n := 0 }
theorem sz_st : (Tryd.prog.info? 122).map (·.size) = some 8 := by kernel_rfl

theorem build8 (a b c d e f g h : Int) : (Array.foldl (fun (cs : Array Value) (x : Value × Nat) => cs.setIfInBounds x.snd x.fst) Tryd.zeroCells124 (encA IntKind.u32 [a, b, c, d, e, f, g, h]).zipIdx 0 8) = (hs0 [a, b, c, d, e, f, g, h]).cells := by kernel_rfl
theorem build_new (fc : List Int) (h : fc.length = 8) : (Array.foldl (fun (cs : Array Value) (x : Value × Nat) => cs.setIfInBounds x.snd x.fst) Tryd.zeroCells124 (encA IntKind.u32 fc).zipIdx 0 8) = (hs0 fc).cells := by
  match fc, h with
  | [a, b, c, d, e, f, g, h], _ => exact build8 a b c d e f g h
set_option maxRecDepth 100000 in
set_option maxHeartbeats 1000000 in
theorem dnew_any (rc fc : List Int) (w : World) (G : Glob w rc fc) :
    Calls Tryd.prog 35 #[] w fun e w' => e = .returned (.pointer (some ⟨w.heap.size, 0, none⟩)) ∧ w' = w.alloc (.cells (hs0 fc).cells 124) := by
  have HG := Lib.hid G
  have hsz : (encA IntKind.u32 fc).size = 8 := by rw [encA_size, G.fl]
  obtain ⟨tf, ff, hf⟩ := G.f
  have HF := Lib.hid hf
  clear G hf
  go_enter Tryd.func35, Tryd.ntmps35
  go_wp2_with (refine wpList_load_row rfl _ _ rfl _ rfl _ _ _ _ HF.out Tryd.underlying122 rfl (by rw [encA_size, HG.out.fl]; exact sz_st) ?_)
  go_ret
  exact ⟨rfl, by rw [build_new _ HG.out.fl]⟩

/-- What is written behind the bytes: a bit, zeros, the length. -/
def padN (n : Int) : Nat := ((56 - (n + 1)) % 64).toNat
def padTo (k : Nat) : List Int := 128 :: List.replicate k 0
theorem padTo_length (k : Nat) : (padTo k).length = 1 + k := by simp [padTo]; omega
theorem padTo_succ (k : Nat) : padTo (k + 1) = padTo k ++ [0] := by simp [padTo, List.replicate_succ']
theorem cells_enc (w : World) (k : IntKind) (xs : List Int) (t : TypeId) : ∀ j u, (xs.map (Value.int k))[j]? = some u → (w.alloc (.cells (encA k xs) t)).cell? ((⟨w.heap.size, 0, none⟩ : Addr).add j) = some u := by
  intro j u h
  rw [add_off, World.cell?_alloc_at _ _ _ _ rfl]
  simpa [encA] using h
def tailL (n : Int) : List Int := padTo (padN n) ++ eightTo (8 * n) 8
theorem tailL_length (n : Int) : (tailL n).length = 9 + padN n := by simp [tailL, padTo_length, eightTo_length]; omega
def endF (rc : List Int) (s : HS) : HS := writeF rc (tailL s.n).length s (tailL s.n)
def digTo (st : List Int) : Nat → List Int
  | 0 => List.replicate 32 0
  | k + 1 => ((((digTo st k).set (4 * k) (st[k]?.getD 0 / 16777216 % 256)).set (4 * k + 1) (st[k]?.getD 0 / 65536 % 256)).set (4 * k + 2) (st[k]?.getD 0 / 256 % 256)).set (4 * k + 3) (st[k]?.getD 0 % 256)
theorem digTo_length (st : List Int) (k : Nat) : (digTo st k).length = 32 := by
  induction k with
  | zero => rfl
  | succ k ih => rw [digTo, List.length_set, List.length_set, List.length_set, List.length_set, ih]
theorem writeF_ok (rc : List Int) (f : Nat) : ∀ (s : HS) (bs : List Int), s.Ok → (writeF rc f s bs).Ok := by
  induction f with
  | zero => intro s bs h; exact h
  | succ f ih =>
    intro s bs h
    rw [writeF]
    split
    · exact h
    · exact ih _ _ (stepW_ok rc bs h)
def sumF (rc : List Int) (s : HS) : List Int := digTo (endF rc s).st 8
theorem sumF_length (rc : List Int) (s : HS) : (sumF rc s).length = 32 := digTo_length _ _
def zeros32 : Array Value := encA .u8 (List.replicate 32 0)
theorem sz_h : (Tryd.prog.info? 124).map (·.size) = some 73 := by kernel_rfl
theorem sz_d : (Tryd.prog.info? 27).map (·.size) = some 32 := by kernel_rfl
theorem cells_size {s : HS} (h : s.Ok) : s.cells.size = 73 := by
  have h1 := h.st
  have h2 := h.part
  simp only [HS.cells, hasherC, List.size_toArray, List.length_append, List.length_map, List.length_singleton]
  omega
theorem cells_one (s : HS) : s.cells.all (·.oneCell') = true := by
  rw [Array.all_eq_true_iff_forall_mem]
  intro v hv
  simp only [HS.cells, hasherC, List.mem_toArray, List.mem_append, List.mem_map, List.mem_singleton] at hv
  rcases hv with ⟨_, _, rfl⟩ | ⟨_, _, rfl⟩ | rfl <;> rfl
theorem infoB : (Tryd.prog.info? 5).map (fun i => (i.zero, i.size, i.bytes)) = some (some (.int .u8 0), 1, 1) := by kernel_rfl

theorem setRow_second (w : World) (A : Obj) (c c' : Array Value) (t : TypeId) : ((w.alloc A).alloc (.cells c t)).setRow (w.heap.size + 1) c' = (w.alloc A).alloc (.cells c' t) := by
  have := World.setRow_alloc_new (w.alloc A) c c' t
  simpa using this
set_option maxRecDepth 100000 in
set_option maxHeartbeats 1000000 in
theorem hsum_any (g : Nat) (s : HS) (rc fc : List Int) (w : World) (hok : s.Ok) (G : Glob w rc fc) (hn : s.n ≤ 1000000000000000000)
    (hg : w.heap[g]? = some (.cells s.cells 124 (0, 0))) :
    Calls Tryd.prog 38 #[.pointer (some ⟨g, 0, none⟩)] w fun e w' => e = .returned (.agg (encA .u8 (sumF rc s))) ∧ Below w.heap.size w w' := by
  have hn0 := hok.n
  have hlt : g < w.heap.size := (Array.getElem?_eq_some_iff.1 hg).1
  have HG := Lib.hid G
  have Hg := Lib.hid hg
  have Hok := Lib.hid hok
  clear G hg hok
  go_enter Tryd.func38, Tryd.ntmps38
  go_wp2_with (first | (refine wpList_load_row rfl 124 _ rfl g rfl _ _ _ _ (by rw [heap_alloc_old _ _ hlt]; exact Hg.out) Tryd.underlying124 rfl (by rw [cells_size Hok.out]; exact sz_h) ?_) | (refine wpList_store_row rfl 124 _ _ rfl _ _ rfl rfl _ _ (heap_alloc2_new _ _ _) (by rw [cells_size Hok.out]; exact sz_h) (by rw [cells_size Hok.out]; rfl) (cells_one _) ?_))
  rw [setRow_second]
  have hW0 : (((w.alloc (.cells zeros32 27)).alloc (.cells s.cells 124)).alloc (.cells #[.int .u8 128] 5)).heap[w.heap.size]? = some (.cells zeros32 27 (0, 0)) := by
    rw [heap_alloc_old _ _ (by simp; omega), heap_alloc2_old]
  have hW1 : (((w.alloc (.cells zeros32 27)).alloc (.cells s.cells 124)).alloc (.cells #[.int .u8 128] 5)).heap[w.heap.size + 1]? = some (.cells s.cells 124 (0, 0)) := by
    rw [heap_alloc_old _ _ (by simp), heap_alloc2_new]
  have hW2 : (((w.alloc (.cells zeros32 27)).alloc (.cells s.cells 124)).alloc (.cells #[.int .u8 128] 5)).ownsRow (w.heap.size + 2) 5 1 (.slice (some ⟨w.heap.size + 1 + 1, 0, none⟩) 1 1) (1 + 0) ((padTo 0).map (Value.int .u8)) :=
    ⟨rfl, .inr ⟨_, 1, #[.int .u8 128], rfl, Nat.le_refl _, by have := heap_alloc_new ((w.alloc (.cells zeros32 27)).alloc (.cells s.cells 124)) (.cells #[.int .u8 128] 5); simpa using this, by decide, by unfold maxLen; decide, rfl, rfl⟩⟩
  have hWB : Below w.heap.size w (((w.alloc (.cells zeros32 27)).alloc (.cells s.cells 124)).alloc (.cells #[.int .u8 128] 5)) :=
    (((Below.refl _ _).alloc (Nat.le_refl _) _).alloc (by simp) _).alloc (by simp; omega) _
  have hWs : w.heap.size + 2 < (((w.alloc (.cells zeros32 27)).alloc (.cells s.cells 124)).alloc (.cells #[.int .u8 128] 5)).heap.size := by simp
  rw [show (#[.int .u8 0, .int .u8 0, .int .u8 0, .int .u8 0, .int .u8 0, .int .u8 0, .int .u8 0, .int .u8 0, .int .u8 0, .int .u8 0, .int .u8 0, .int .u8 0, .int .u8 0, .int .u8 0, .int .u8 0, .int .u8 0, .int .u8 0, .int .u8 0, .int .u8 0, .int .u8 0, .int .u8 0, .int .u8 0, .int .u8 0, .int .u8 0, .int .u8 0, .int .u8 0, .int .u8 0, .int .u8 0, .int .u8 0, .int .u8 0, .int .u8 0, .int .u8 0] : Array Value) = zeros32 from rfl]
  generalize ((w.alloc (.cells zeros32 27)).alloc (.cells s.cells 124)).alloc (.cells #[.int .u8 128] 5) = W at *
  obtain ⟨B, hB⟩ : ∃ B, B = w.heap.size := ⟨_, rfl⟩
  obtain ⟨i0, hi, hz0, hz1, hz2⟩ := info_parts infoB
  rw [← hB] at hW0 hW1 hW2 hWs ⊢
  have HB := Lib.hid hB
  have HW0 := Lib.hid hW0
  have HW1 := Lib.hid hW1
  have HW2 := Lib.hid hW2
  have HWB := Lib.hid hWB
  have Hi := Lib.hid hi
  have Hz0 := Lib.hid hz0
  have Hz1 := Lib.hid hz1
  have Hz2 := Lib.hid hz2
  have HWs := Lib.hid hWs
  clear hB hW0 hW1 hW2 hWB hi hz0 hz1 hz2 hWs
  have hWg : W.heap[g]? = some (.cells s.cells 124 (0, 0)) := by rw [HWB.out.block _ hlt]; exact Hg.out
  have hltB : g < B := by rw [HB.out]; exact hlt
  have HWg := Lib.hid hWg
  clear hWg
  go_loopw [4] (fun v wr => ∃ (k gp cp : Nat), v = .slice (some ⟨gp, 0, none⟩) (1 + k) cp ∧ k ≤ padN s.n ∧ B + 2 ≤ gp ∧ wr.ownsRow (B + 2) 5 1 (.slice (some ⟨gp, 0, none⟩) (1 + k) cp) (1 + k) ((padTo k).map (Value.int .u8)) ∧ Below (B + 2) W wr) (fun v _ => 64 - (match v with | .slice _ n _ => n | _ => 0))
  case atStart => exact ⟨0, _, _, rfl, Nat.zero_le _, Nat.le_refl _, HW2.out, Below.refl _ _⟩
  case round =>
    obtain ⟨k, gp, cp, rfl, hk, hgp, hown, hbel⟩ := hrel
    have hp63 : padN s.n ≤ 63 := by unfold padN; omega
    have c72 : wr.cell? ⟨g, 72, none⟩ = some (.int .i64 s.n) := by
      have : wr.heap[g]? = some (.cells s.cells 124 (0, 0)) := by rw [hbel.block _ (by omega)]; exact HWg.out
      rw [cell_of_row wr g _ _ _ _ this]; exact hasherC_n _ _ _ Hok.out.st Hok.out.part
    have Hown := Lib.hid hown
    have Hbel := Lib.hid hbel
    clear hown hbel
    by_cases hz : ((s.n + (1 + (k : Int))) % 64 != 56) = true
    · have hk2 : k < padN s.n := by
        simp only [bne_iff_ne, ne_eq] at hz
        unfold padN at *
        omega
      go_wp2_with (at_builtin; go_loud (refine wpList_append_own _ rfl _ _ 22 rfl (B + 2) 5 i0 (.int .u8 0) 1 1 Tryd.underlying22 Hi.out Hz0.out Hz1.out Hz2.out rfl (by decide) _ _ _ rfl (Hown.out.alloc _) ⟨wr.heap.size, 0, none⟩ 1 1 [.int .u8 0] rfl rfl (cell_box _ _ _) (ints_oneCell .u8 [0]) (by unfold maxLen; omega) (by omega) (by have := HWs.out; have := Hbel.out.size; simp; omega) ?_); intro v1 w1 hown1 hgrow1 hnil1)
      obtain ⟨g1, c1, rfl, hg1, hc1, _⟩ := own_form hown1 (by omega)
      go_roundw
      case rel =>
        refine ⟨k + 1, g1, c1, rfl, by omega, hg1, ?_, (Hbel.out.alloc (by have := HWs.out; have := Hbel.out.size; omega) _).grown hgrow1 (by have := HWs.out; have := Hbel.out.size; simp; omega) (fun j hj => by have hj2 : some gp = some j := hj; injection hj2 with hj2; omega)⟩
        rw [padTo_succ, List.map_append]
        exact hown1
      case measure => show 64 - (1 + k + 1) < 64 - (1 + k); omega
    · have hkp : k = padN s.n := by
        have hz' : (s.n + (1 + (k : Int))) % 64 = 56 := by simpa using hz
        unfold padN at *
        omega
      subst hkp
      have h8 : 0 ≤ 8 * s.n ∧ 8 * s.n ≤ 18446744073709551615 := by omega
      go_wp2_with (first | (go_at_call 73; refine (eight_any _ _ h8.1 h8.2).mono ?_; rintro e w' ⟨rfl, rfl⟩) | (at_builtin; refine wpList_append_own _ rfl _ _ 22 rfl (B + 2) 5 i0 (.int .u8 0) 1 1 Tryd.underlying22 Hi.out Hz0.out Hz1.out Hz2.out rfl (by decide) _ _ _ rfl (Hown.out.alloc _) ⟨wr.heap.size, 0, none⟩ 8 8 ((eightTo (8 * s.n) 8).map (Value.int .u8)) rfl (by rw [List.length_map, eightTo_length]) (cells_enc _ _ _ _) (ints_oneCell .u8 _) (by unfold maxLen; omega) (by omega) (by have := HWs.out; have := Hbel.out.size; simp; omega) ?_; intro v1 w1 hown1 hgrow1 hnil1))
      obtain ⟨g1, c1, rfl, hg1, hc1, hc1m⟩ := own_form hown1 (by omega)
      have htl : 1 + padN s.n + 8 = (tailL s.n).length := by rw [tailL_length]; omega
      rw [← List.map_append, htl] at hown1
      rw [htl] at hc1 ⊢
      have hB1 : (wr.alloc (.cells (encA .u8 (eightTo (8 * s.n) 8)) 168)).heap[B + 1]? = some (.cells s.cells 124 (0, 0)) := by
        rw [heap_alloc_old _ _ (by have := HWs.out; have := Hbel.out.size; omega), Hbel.out.block _ (by omega)]; exact HW1.out
      have hw1B : Below (B + 2) W w1 := (Hbel.out.alloc (by have := HWs.out; have := Hbel.out.size; omega) _).grown hgrow1 (by have := HWs.out; have := Hbel.out.size; simp; omega) (fun j hj => by have hj2 : some gp = some j := hj; injection hj2 with hj2; omega)
      have hw1row : w1.heap[B + 1]? = some (.cells s.cells 124 (0, 0)) := by rw [hw1B.block _ (by omega)]; exact HW1.out
      have hGw : Glob w1 rc fc := by
        have hr := HG.out.r.lt
        have hf := HG.out.f.lt
        have hb := HB.out
        exact ⟨HG.out.rl, HG.out.fl, HG.out.r.same (by rw [hw1B.block _ (by omega), HWB.out.block _ hr]), HG.out.f.same (by rw [hw1B.block _ (by omega), HWB.out.block _ hf])⟩
      have hne1 : B + 1 ≠ 4 := by
        have hr := HG.out.r.lt
        have hb := HB.out
        omega
      have hne2 : B + 1 ≠ 1 := by
        have hr := HG.out.f.lt
        have hb := HB.out
        omega
      have htl9 := tailL_length s.n
      refine (write_any (B + 1) s (tailL s.n) _ rc fc w1 Hok.out hGw hw1row ⟨_, c1, rfl, hc1, hc1m, fun _ => ⟨g1, 0, rfl, by omega, fun i hi => own_cell hown1 i hi⟩⟩ (by omega) hne1 hne2).mono ?_
      rintro e w2 ⟨rfl, hrow2, hgr2⟩
      have Hrow2 := Lib.hid hrow2
      have Hgr2 := Lib.hid hgr2
      have Hw1B := Lib.hid hw1B
      have Htl := Lib.hid htl
      clear hrow2 hgr2 hown1 hgrow1 hw1B hw1row hGw hB1 hnil1 htl
      obtain ⟨E, hE⟩ : ∃ E, E = endF rc s := ⟨_, rfl⟩
      have hE2 : writeF rc (tailL s.n).length s (tailL s.n) = E := by rw [hE, endF]
      have hEok : E.Ok := by rw [← hE2]; exact writeF_ok _ _ _ _ Hok.out
      rw [hE2] at Hrow2
      have hW3 : (w2.alloc (.cells zeros32 27)).heap[B + 1]? = some (.cells E.cells 124 (0, 0)) := by
        rw [heap_alloc_old _ _ (Array.getElem?_eq_some_iff.1 Hrow2.out).1]; exact Hrow2.out
      have hrange : Hid ((w2.alloc (.cells zeros32 27)).rangeAt (B + 1) 0 (E.st.map (Value.int .u32))) := by
        intro j v hv
        have hj : j < 8 := by rw [← hEok.st]; simpa using (List.getElem?_eq_some_iff.1 hv).1
        rw [cell_of_row _ _ _ _ _ _ hW3, Nat.zero_add]
        rw [show E.cells = hasherC E.st E.part E.n from rfl, hasherC_st _ _ _ hEok.st j hj, ← hv, List.getElem?_map, List.getElem?_eq_getElem (by rw [hEok.st]; exact hj)]
        rfl
      have HE := Lib.hid hE
      have HEok := Lib.hid hEok
      clear hE hE2 hEok hW3
      go_wp2_with (refine wpList_load_mid rfl 122 _ rfl (B + 1) 0 rfl (E.st.map (Value.int .u32)) _ hrange.out Tryd.underlying122 rfl (by rw [List.length_map, HEok.out.st]; exact sz_st) ?_)
      rw [show (#[.int .u8 0, .int .u8 0, .int .u8 0, .int .u8 0, .int .u8 0, .int .u8 0, .int .u8 0, .int .u8 0, .int .u8 0, .int .u8 0, .int .u8 0, .int .u8 0, .int .u8 0, .int .u8 0, .int .u8 0, .int .u8 0, .int .u8 0, .int .u8 0, .int .u8 0, .int .u8 0, .int .u8 0, .int .u8 0, .int .u8 0, .int .u8 0, .int .u8 0, .int .u8 0, .int .u8 0, .int .u8 0, .int .u8 0, .int .u8 0, .int .u8 0, .int .u8 0] : Array Value) = zeros32 from rfl]
      rw [show (E.st.map (Value.int .u32)).toArray = encA .u32 E.st from rfl]
      have HWBw := Lib.hid (below_ofGrown Hgr2.out (B := w.heap.size) (by have := HWs.out; have := HB.out; have := Hw1B.out.size; omega) (by have := HB.out; omega))
      have Hsz2 : Hid (B + 2 < w2.heap.size) := by
        show _ < _
        have := HWs.out
        have := Hw1B.out.size
        have := Hgr2.out.size
        omega
      have Hroot : Hid (w2.heap[B]? = some (.cells zeros32 27 (0, 0))) := by
        show _ = _
        rw [Hgr2.out.block _ (by have := HWs.out; have := Hw1B.out.size; omega) (by intro e; injection e with e; omega), Hw1B.out.block _ (by omega)]
        exact HW0.out
      have Hbw : Hid (Below w.heap.size w w2) := (HWB.out.trans (Hw1B.out.mono (by have := HB.out; omega))).trans HWBw.out
      obtain ⟨D, hD⟩ : ∃ D, D = w2.heap.size := ⟨_, rfl⟩
      have hD0 : (w2.alloc (.cells zeros32 27)).heap[D]? = some (.cells (encA .u8 (digTo E.st 0)) 27 (0, 0)) := by rw [hD]; exact heap_alloc_new _ _
      rw [← hD]
      have HD := Lib.hid hD
      have HD0 := Lib.hid hD0
      clear hD hD0
      go_loopw [36] (fun i wr => ∃ k : Nat, k ≤ 8 ∧ i = .int .i64 k ∧ wr.heap[D]? = some (.cells (encA .u8 (digTo E.st k)) 27 (0, 0)) ∧ (w2.alloc (.cells zeros32 27)).grownBy wr (some D)) (fun i _ => 8 - (intOf i).toNat)
      case atStart => exact ⟨0, by omega, rfl, HD0.out, World.grownBy.refl _ _⟩
      case round =>
        obtain ⟨k, hk, rfl, hrD, hgD⟩ := hrel
        by_cases hlt : k < 8
        · have hcl : ∀ j, j < 4 → wr.cell? ⟨D, 4 * k + j, none⟩ = some (.int .u8 ((digTo E.st k).getD (4 * k + j) 0)) := fun j hj => by
            rw [cell_of_row _ _ _ _ _ _ hrD, encA_getD _ _ _ (by rw [digTo_length]; omega)]
          have c0 := hcl 0 (by omega)
          have c1 := hcl 1 (by omega)
          have c2 := hcl 2 (by omega)
          have c3 := hcl 3 (by omega)
          have f0 : wr.frozen? ⟨D, 4 * k, none⟩ = false := frozen_of_row _ _ _ _ _ hrD
          have f1 : wr.frozen? ⟨D, 4 * k + 1, none⟩ = false := frozen_of_row _ _ _ _ _ hrD
          have f2 : wr.frozen? ⟨D, 4 * k + 2, none⟩ = false := frozen_of_row _ _ _ _ _ hrD
          have f3 : wr.frozen? ⟨D, 4 * k + 3, none⟩ = false := frozen_of_row _ _ _ _ _ hrD
          rw [Nat.add_zero] at c0
          have ix := fun W' => run_index_enc (P := Tryd.prog) 122 79 8 .u32 _ E.st k Tryd.underlying122 (by kernel_rfl) Tryd.underlying79 rfl hlt HEok.out.st W'
          have HrD := Lib.hid hrD
          have HgD := Lib.hid hgD
          clear hrD hgD hcl
          go_wp2_with fail
          go_roundw
          case rel =>
            refine ⟨k + 1, by omega, by go_num, ?_, grown_set (grown_set (grown_set (grown_set HgD.out _ _) _ _) _ _) _ _⟩
            rw [heap_setCell_same _ _ _ _ _ _ (heap_setCell_same _ _ _ _ _ _ (heap_setCell_same _ _ _ _ _ _ (heap_setCell_same _ _ _ _ _ _ HrD.out))), encA_set, encA_set, encA_set, encA_set]
            rfl
          case measure => simp [intOf]; omega
        · obtain rfl : k = 8 := by omega
          have hdl : (encA .u8 (digTo E.st 8)).size = 32 := by rw [encA_size, digTo_length]
          have hDB : B < D := by rw [HD.out]; have := Hsz2.out; omega
          have hrB : wr.heap[B]? = some (.cells zeros32 27 (0, 0)) := by
            rw [hgD.block _ (by simp; have := HD.out; omega) (by intro e; injection e with e; omega), heap_alloc_old _ _ (by rw [← HD.out]; exact hDB)]
            exact Hroot.out
          have hbe : Below w.heap.size w wr := (Hbw.out.alloc (by have := Hsz2.out; have := HB.out; omega) _).trans (below_ofGrown hgD (by simp; have := Hsz2.out; have := HB.out; omega) (by have := HB.out; omega))
          have HrD := Lib.hid hrD
          have HrB := Lib.hid hrB
          have Hdl := Lib.hid hdl
          have Hbe := Lib.hid hbe
          clear hrD hgD hrB hdl hbe
          go_wp2_with (first | (refine wpList_load_row rfl 27 _ rfl D rfl _ _ _ _ HrD.out Tryd.underlying27 rfl (by rw [Hdl.out]; exact sz_d) ?_) | (refine wpList_store_row rfl 27 _ _ rfl B _ rfl rfl _ _ HrB.out (by rw [Hdl.out]; exact sz_d) (by rw [Hdl.out]; rfl) (encA_one _ _) ?_))
          refine bodyPost_ret (results_cell_row rfl _ _ _ _ _ _ _ rfl (setRow_heap _ _ _ _ _ _ HrB.out) Tryd.underlying27 rfl (by rw [Hdl.out]; exact sz_d)) rfl ⟨?_, below_setRow Hbe.out (by rw [HB.out]; exact Nat.le_refl _) _⟩
          rw [sumF, ← HE.out]
end Go.Proofs.YthgebhndhilhkaaDoor
