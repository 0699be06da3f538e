/- keys: Sign. -/
import Derived.Test.YthgebhndhilhkaaDoorKey2
import Derived.Deep.CutRange
namespace Go.Proofs.YthgebhndhilhkaaDoor
open Go.RowKit Go.MuLone Go.Maps

theorem wp_mapUpdate_D {w : World} {o : Oper} {a : Act} {K : Act → World → Prop} {Q : Exit → Act → World → Prop} (m x v : Operand) (t : TypeId) (hop : o.op = Op.mapUpdate t m x v) {k : TypeId} (Kd : Keyed Tryd.prog k)
    (ht : Tryd.prog.underlying t = some (.map k 27)) (b n : Nat) (D : DataW Unit) (hm : a.eval m = .map (some b)) (hown : w.ownsMap Tryd.prog k digR b n D) (hn : n < maxLen) (key : Value) (kl : Lit) (ds : List Int)
    (hx : a.eval x = key) (hv : a.eval v = .agg (encA .u8 ds)) (hl : ds.length = 32) (hkey : keyOf Tryd.prog k key = some kl)
    (hK : ∀ w', w'.ownsMap Tryd.prog k digR b (n + 1) (D.put kl (dat ds)) → w.grownBy w' (some b) → K (a.put o.dst undef) w') : o.wp Tryd.prog a w K Q := by
  obtain ⟨w', hrun, r1, r2⟩ := hown.update Kd ht hn hkey (digR_mk ds hl)
  unfold Oper.wp
  simp [execOp, hop, hm, hx, hv, hrun, Result.andThen]
  exact hK w' r1 r2
theorem RingAt.signs {w w' : World} {x y : Int} {r b1 b2 n1 n2 m2 : Nat} {sv : Value} {sec : List Int} {D1 D2 E2 : DataW Unit} (R : RingAt w x r b1 b2 sv sec n1 n2 D1 D2) (h : Kept w w' (fun k => k = r ∨ k = b2))
    (hr : w'.heap[r]? = some (.cells #[.int .i32 y, .int .u32 0, sv, .map (some b1), .map (some b2)] 87 (0, 0))) (ho : w'.ownsMap Tryd.prog 90 digR b2 m2 E2) :
    RingAt w' y r b1 b2 sv sec n1 m2 D1 E2 := by
  refine ⟨hr, ?_, R.secl, ?_, ho, R.ne⟩
  · obtain ⟨A, cap, rfl, k1, k2, k3⟩ := R.secIn
    refine ⟨A, cap, rfl, k1, k2, fun hp => ?_⟩
    obtain ⟨gb, ob, rfl, hc⟩ := k3 hp
    exact ⟨gb, ob, rfl, fun i hi => by rw [World.cell?_of_block (w := w) (a := ⟨gb, ob + i, none⟩) (h.block _ (World.block_lt_of_cell? _ _ (hc i hi)) (fun e => e.elim (R.sec_ne_r (hc i hi)) (R.sec_ne_2 (hc i hi))))]; exact hc i hi⟩
  · have h1 := R.ne
    have h2 := R.r1
    obtain ⟨es, clock, hb, F⟩ := R.keys
    exact ⟨es, clock, by rw [h.block _ (Array.getElem?_eq_some_iff.1 hb).1 (fun e => e.elim (Ne.symm h2) h1)]; exact hb, F⟩
theorem RingAt.enrolls {w w' : World} {x y : Int} {r b1 b2 n1 n2 m1 : Nat} {sv : Value} {sec : List Int} {D1 D2 E1 : DataW Unit} (R : RingAt w x r b1 b2 sv sec n1 n2 D1 D2) (h : Kept w w' (fun k => k = r ∨ k = b1))
    (hr : w'.heap[r]? = some (.cells #[.int .i32 y, .int .u32 0, sv, .map (some b1), .map (some b2)] 87 (0, 0))) (ho : w'.ownsMap Tryd.prog 9 digR b1 m1 E1) :
    RingAt w' y r b1 b2 sv sec m1 n2 E1 D2 := by
  refine ⟨hr, ?_, R.secl, ho, ?_, R.ne⟩
  · obtain ⟨A, cap, rfl, k1, k2, k3⟩ := R.secIn
    refine ⟨A, cap, rfl, k1, k2, fun hp => ?_⟩
    obtain ⟨gb, ob, rfl, hc⟩ := k3 hp
    exact ⟨gb, ob, rfl, fun i hi => by rw [World.cell?_of_block (w := w) (a := ⟨gb, ob + i, none⟩) (h.block _ (World.block_lt_of_cell? _ _ (hc i hi)) (fun e => e.elim (R.sec_ne_r (hc i hi)) (R.sec_ne_1 (hc i hi))))]; exact hc i hi⟩
  · have h1 := R.ne
    have h2 := R.r2
    obtain ⟨es, clock, hb, F⟩ := R.signed
    exact ⟨es, clock, by rw [h.block _ (Array.getElem?_eq_some_iff.1 hb).1 (fun e => e.elim (Ne.symm h2) (Ne.symm h1))]; exact hb, F⟩
theorem row_ne_map {w : World} {k : TypeId} {R : Value → Option (DataW Unit × List MemPlace)} {b n g : Nat} {D : DataW Unit} {cs : Array Value} {t : TypeId} (h : w.ownsMap Tryd.prog k R b n D) (hg : w.heap[g]? = some (.cells cs t (0, 0))) : g ≠ b := by
  obtain ⟨es, clock, hb, _⟩ := h
  intro e
  rw [← e, hg] at hb
  injection hb with hb
  cases hb
theorem Kept.undrew {a b : World} {S : Nat → Prop} (h : Kept a.drew b S) : Kept a b S := ⟨h.os, h.tape, h.output, h.size, h.block⟩
theorem Glob.kept {w w' : World} {rc fc : List Int} {S : Nat → Prop} (G : Glob w rc fc) (h : Kept w w' S) (h1 : ¬ S 4) (h2 : ¬ S 1) : Glob w' rc fc :=
  ⟨G.rl, G.fl, G.r.same (h.block _ G.r.lt h1), G.f.same (h.block _ G.f.lt h2)⟩
theorem RingAt.glob {w : World} {x : Int} {r b1 b2 n1 n2 : Nat} {sv : Value} {sec rc fc : List Int} {D1 D2 : DataW Unit} (R : RingAt w x r b1 b2 sv sec n1 n2 D1 D2) (G : Glob w rc fc) : 4 ≠ r ∧ 1 ≠ r := by
  constructor
  · intro e
    obtain ⟨t, fr, h⟩ := G.r
    rw [e, R.row] at h
    injection h with h
    injection h with h1 h2 h3
    have := congrArg Array.size h1
    rw [encA_size, G.rl] at this
    simp at this
  · intro e
    obtain ⟨t, fr, h⟩ := G.f
    rw [e, R.row] at h
    injection h with h
    injection h with h1 h2 h3
    have := congrArg Array.size h1
    rw [encA_size, G.fl] at this
    simp at this
theorem map_glob {w : World} {k : TypeId} {R : Value → Option (DataW Unit × List MemPlace)} {b n : Nat} {D : DataW Unit} {rc fc : List Int} (h : w.ownsMap Tryd.prog k R b n D) (G : Glob w rc fc) : 4 ≠ b ∧ 1 ≠ b := by
  obtain ⟨es, clock, hb, _⟩ := h
  constructor
  · intro e
    obtain ⟨t, fr, h⟩ := G.r
    rw [e, hb] at h
    injection h with h
    cases h
  · intro e
    obtain ⟨t, fr, h⟩ := G.f
    rw [e, hb] at h
    injection h with h
    cases h
theorem results_row_tmp {fn : Func} {p u : Tmp} {ty : TypeId} {P : Program} (h : fn.results = #[.cell p ty, .tmp u]) (tmps : Array Value) (w : World) (g : Nat) (t : TypeId) (cs : Array Value) (d : TypeDesc)
    (hp : tmps.getD p undef = .pointer (some ⟨g, 0, none⟩)) (hg : w.heap[g]? = some (.cells cs t (0, 0)))
    (hu : P.underlying ty = some d) (hd : d.isRow = true) (hi : (P.info? ty).map (·.size) = some cs.size) :
    (results fn tmps).run P w = .ok (.tuple #[.agg cs, tmps.getD u undef]) w := by
  have hp' : tmps[p]?.getD undef = .pointer (some ⟨g, 0, none⟩) := by simpa using hp
  have hr : (loadVar ty ⟨g, 0, none⟩).run P w = .ok (.agg cs) w := by
    have := run_loadVar_mid (P := P) w g 0 ty cs.toList d (fun j v hv => by
      have e : w.cell? ⟨g, 0 + j, none⟩ = cs[j]? := by simp [World.cell?, hg]
      rw [e]; simpa using hv) hu hd (by simpa using hi)
    simpa using this
  simp [results, h, hp', asAddr, hr]
theorem BytesIn.ofRow {w : World} {g n : Nat} {bs : List Int} {t : TypeId} (h : w.heap[g]? = some (.cells (encA .u8 bs) t (0, 0))) (hl : bs.length = n) (hn : n ≤ 9223372036854775807) : BytesIn w (.slice (some ⟨g, 0, none⟩) n n) bs := by
  subst hl
  refine ⟨_, _, rfl, Nat.le_refl _, hn, fun _ => ⟨g, 0, rfl, fun i hi => ?_⟩⟩
  rw [cell_of_row _ _ _ _ _ _ h, Nat.zero_add, encA_getD _ _ _ hi]
  simp

set_option maxRecDepth 100000 in
set_option maxHeartbeats 1000000 in
theorem sign_any (r b1 b2 n1 n2 : Nat) (sv : Value) (sec : List Int) (D1 D2 : DataW Unit) (s : ByteArray) (d key rc fc : List Int) (ks kl : Lit) (w : World) (R : RingAt w 0 r b1 b2 sv sec n1 n2 D1 D2) (G : Glob w rc fc)
    (hd : d.length = 32) (hks : keyOf Tryd.prog 9 (.string s) = some ks) (hkl : keyOf Tryd.prog 90 (.agg (pairC s d)) = some kl) (hn2 : n2 < maxLen)
    (hhas : Maps.has D1 ks = true) (hkey : D1.atKey ks (dat zer32) = dat key) :
    Calls Tryd.prog 12 #[.pointer (some ⟨r, 0, none⟩), .string s, .agg (encA .u8 d)] w fun e w' => e = .returned (.tuple #[.agg (encA .u8 (macF rc fc key d)), .int .i64 0]) ∧
      RingAt w' 0 r b1 b2 sv sec n1 (n2 + 1) D1 (D2.put kl (dat (macF rc fc key d))) ∧ w.grownBy w' (some b2) := by
  have HR := Lib.hid R
  have HG := Lib.hid G
  clear R G
  go_enter_defers Tryd.func12, Tryd.ntmps12
  go_wp2_with fail
  rw [show (#[.int .u8 0, .int .u8 0, .int .u8 0, .int .u8 0, .int .u8 0, .int .u8 0, .int .u8 0, .int .u8 0, .int .u8 0, .int .u8 0, .int .u8 0, .int .u8 0, .int .u8 0, .int .u8 0, .int .u8 0, .int .u8 0, .int .u8 0, .int .u8 0, .int .u8 0, .int .u8 0, .int .u8 0, .int .u8 0, .int .u8 0, .int .u8 0, .int .u8 0, .int .u8 0, .int .u8 0, .int .u8 0, .int .u8 0, .int .u8 0, .int .u8 0, .int .u8 0] : Array Value) = zeros32 from rfl]
  have hB0 : Below w.heap.size w ((w.alloc (.cells (encA .u8 d) 27)).alloc (.cells zeros32 27)) := ((Below.refl _ _).alloc (Nat.le_refl _) _).alloc (by simp) _
  have hX0 : ((w.alloc (.cells (encA .u8 d) 27)).alloc (.cells zeros32 27)).heap[w.heap.size]? = some (.cells (encA .u8 d) 27 (0, 0)) := heap_alloc2_old _ _ _
  have hX1 : ((w.alloc (.cells (encA .u8 d) 27)).alloc (.cells zeros32 27)).heap[w.heap.size + 1]? = some (.cells zeros32 27 (0, 0)) := heap_alloc2_new _ _ _
  have hsz : ((w.alloc (.cells (encA .u8 d) 27)).alloc (.cells zeros32 27)).heap.size = w.heap.size + 2 := by simp
  generalize (w.alloc (.cells (encA .u8 d) 27)).alloc (.cells zeros32 27) = W0 at *
  have hlt := HR.out.lt
  have R0 := HR.out.below hB0
  refine (lock_free muLib ⟨r, 0, none⟩ _ R0.cell0 R0.frozen0).mono ?_
  rintro e w1 ⟨rfl, rfl⟩
  have hk1 : Kept w (W0.setCell ⟨r, 0, none⟩ (.int .i32 1)) (· = r) := (Kept.ofBelow hB0 _).set rfl
  have R1 := R0.lock 1
  have hY0 : (W0.setCell ⟨r, 0, none⟩ (.int .i32 1)).heap[w.heap.size]? = some (.cells (encA .u8 d) 27 (0, 0)) := by rw [heap_setCell_other _ _ _ _ (by show _ ≠ r; omega)]; exact hX0
  have hY1 : (W0.setCell ⟨r, 0, none⟩ (.int .i32 1)).heap[w.heap.size + 1]? = some (.cells zeros32 27 (0, 0)) := by rw [heap_setCell_other _ _ _ _ (by show _ ≠ r; omega)]; exact hX1
  have hsz1 : (W0.setCell ⟨r, 0, none⟩ (.int .i32 1)).heap.size = w.heap.size + 2 := by simp [hsz]
  generalize W0.setCell ⟨r, 0, none⟩ (.int .i32 1) = W1 at *
  clear hX0 hX1 hsz R0 hB0
  have c3 := R1.cell3
  have h1 := Lib.hid (And.intro R1 (And.intro hk1 (And.intro hY0 (And.intro hY1 hsz1))))
  obtain ⟨key', hkl2, hkat, hlk⟩ := look_D (t := 84) R1.keys lawS Tryd.underlying84 hks
  obtain rfl : key' = key := dat_inj (hkat.symm.trans hkey)
  have hl := hlk W1 rfl
  rw [hhas] at hl
  have hksz : (encA .u8 key').size = 32 := by rw [encA_size, hkl2]
  have Hksz := Lib.hid hksz
  clear R1 hk1 hY0 hY1 hsz1 hlk hksz
  go_wp2_with (refine wpList_store_row rfl 27 _ _ rfl W1.heap.size _ rfl rfl _ _ (heap_alloc_new _ _) (by rw [Hksz.out]; exact sz_d) (by rw [Hksz.out]; rfl) (encA_one _ _) ?_; rw [World.setRow_alloc_new])
  have hV0 : (W1.alloc (.cells (encA .u8 key') 27)).heap[W1.heap.size]? = some (.cells (encA .u8 key') 27 (0, 0)) := heap_alloc_new _ _
  have hV1 : (W1.alloc (.cells (encA .u8 key') 27)).heap[w.heap.size]? = some (.cells (encA .u8 d) 27 (0, 0)) := by
    have := h1.out.2.2.2.2
    exact (heap_alloc_old W1 _ (by omega)).trans h1.out.2.2.1
  have hV2 : (W1.alloc (.cells (encA .u8 key') 27)).heap[w.heap.size + 1]? = some (.cells zeros32 27 (0, 0)) := by
    have := h1.out.2.2.2.2
    exact (heap_alloc_old W1 _ (by omega)).trans h1.out.2.2.2.1
  have hVk : Kept w (W1.alloc (.cells (encA .u8 key') 27)) (· = r) := h1.out.2.1.alloc _
  have hVR := h1.out.1.below ((Below.refl W1.heap.size W1).alloc (Nat.le_refl _) (.cells (encA .u8 key') 27))
  have hVs : (W1.alloc (.cells (encA .u8 key') 27)).heap.size = w.heap.size + 3 := by simp [h1.out.2.2.2.2]
  have hg1 : W1.heap.size = w.heap.size + 2 := h1.out.2.2.2.2
  generalize W1.alloc (.cells (encA .u8 key') 27) = V at *
  obtain ⟨g1, hg1'⟩ : ∃ g1, g1 = W1.heap.size := ⟨_, rfl⟩
  rw [← hg1'] at hV0 hg1 ⊢
  obtain ⟨B, hB⟩ : ∃ B, B = w.heap.size := ⟨_, rfl⟩
  rw [← hB] at hV1 hV2 hVs hg1 ⊢
  have HB := Lib.hid hB
  have HV := Lib.hid (And.intro hV0 (And.intro hV1 (And.intro hV2 (And.intro hVk hVR))))
  clear hV0 hV1 hV2 hVk hVR hg1' h1 hB
  obtain ⟨ms, hm⟩ : ∃ ms, ms = macF rc fc key' d := ⟨_, rfl⟩
  have hml : ms.length = 32 := by rw [hm, macF_length]
  have hms : (encA .u8 ms).size = 32 := by rw [encA_size, hml]
  have Hm := Lib.hid hm
  clear hm
  go_cut [10] from 30 to 32 (fun v wx => ∃ g, v = .pointer (some ⟨g, 0, none⟩) ∧ V.heap.size ≤ g ∧ wx.heap[g]? = some (.cells (encA .u8 ms) 27 (0, 0)) ∧ Kept V wx (fun _ => False))
  case first =>
    have hgr := HR.out.glob HG.out
    have GV : Glob V.drew rc fc := (HG.out.kept HV.out.2.2.2.1 hgr.1 hgr.2).drew
    have bk : BytesIn V.drew (.slice (some ⟨g1, 0, none⟩) 32 32) key' := BytesIn.ofRow (t := 27) HV.out.1 hkl2 (by decide)
    have bd : BytesIn V.drew (.slice (some ⟨B, 0, none⟩) 32 32) d := BytesIn.ofRow (t := 27) HV.out.2.1 hd (by decide)
    refine wp_region_noPanic ?_
    refine reg_start (fun w' => Kept V.drew w' (fun _ => False)) (by kernel_rfl) ?_
    simp only [List.length_cons, List.length_nil, Nat.zero_add, Nat.reduceAdd]
    refine reg_take 0 (v := ?_) rfl (by kernel_rfl) (by kernel_rfl) (by kernel_rfl) (fun _ _ _ h => h) (by first | exact Kept.refl _ _ | exact (Kept.refl _ _).alloc _ | assumption | exact Kept.alloc (by assumption) _) (yield_val (by rfl) ?_) ?_
    rotate_left
    · intro w hSw; go_simp <;> with_reducible rfl
    simp only [Act.put, List.setIfInBounds_toArray, List.set_cons_zero, List.set_cons_succ]
    refine reg_take 1 (v := ?_) rfl (by kernel_rfl) (by kernel_rfl) (by kernel_rfl) (fun _ _ _ h => h) (by first | exact Kept.refl _ _ | exact (Kept.refl _ _).alloc _ | assumption | exact Kept.alloc (by assumption) _) (yield_val (by rfl) ?_) ?_
    rotate_left
    · intro w hSw; go_simp <;> with_reducible rfl
    simp only [Act.put, List.setIfInBounds_toArray, List.set_cons_zero, List.set_cons_succ]
    refine reg_two 2 3 (by kernel_rfl) ?_ ?_
    · refine op_call (f := 9) (args := #[.slice (some ⟨g1, 0, none⟩) 32 32, .slice (some ⟨B, 0, none⟩) 32 32]) rfl (by rfl) (by go_simp) _ (mac_any _ _ key' d rc fc _ GV bk (by omega) bd (by omega)) ?_
      rintro e w' ⟨he, hb⟩
      have hK1 : Kept V.drew w' (fun _ => False) := Kept.ofBelow hb _
      refine ⟨.agg (encA .u8 ms), by rw [he, Hm.out], hK1, ?_⟩
      simp only [Act.put, List.setIfInBounds_toArray, List.set_cons_zero, List.set_cons_succ]
      refine reg_one 3 (by kernel_rfl) (op_val (v := .pointer (some ⟨(w').heap.size, 0, none⟩)) (w' := (w').alloc (.cells zeros32 27)) rfl (by rfl) (by go_simp <;> rfl) ⟨(by first | exact Kept.refl _ _ | exact (Kept.refl _ _).alloc _ | assumption | exact Kept.alloc (by assumption) _), ?_⟩)
      simp only [Act.put, List.setIfInBounds_toArray, List.set_cons_zero, List.set_cons_succ]
      refine reg_one 4 (by kernel_rfl) (op_wp rfl (by rfl) (wp_store_row 27 _ _ rfl w'.heap.size (encA .u8 ms) rfl rfl 27 zeros32 (heap_alloc_new _ _) (by rw [hms]; exact sz_d) (by rw [hms]; rfl) (encA_one _ _) ⟨(by rw [World.setRow_alloc_new]; exact hK1.alloc _), ?_⟩))
      simp only [Act.put, List.setIfInBounds_toArray, List.set_cons_zero, List.set_cons_succ]
      rw [World.setRow_alloc_new w']
      refine reg_done (by kernel_rfl) ?_
      refine NoPanic.normal ?_
      go_wp2_with fail
      go_meet
      case rel => exact ⟨_, rfl, hb.size, heap_alloc_new _ _, (hK1.alloc _).undrew⟩
    · have hb0 : Below V.drew.heap.size V.drew (V.drew.alloc (.cells zeros32 27)) := (Below.refl _ _).alloc (Nat.le_refl _) _
      refine op_val (v := .pointer (some ⟨V.drew.heap.size, 0, none⟩)) (w' := V.drew.alloc (.cells zeros32 27)) rfl (by rfl) (by go_simp <;> rfl) ⟨(Kept.refl _ _).alloc _, ?_⟩
      simp only [Act.put, List.setIfInBounds_toArray, List.set_cons_zero, List.set_cons_succ]
      refine reg_one 2 (by kernel_rfl) (op_call (f := 9) (args := #[.slice (some ⟨g1, 0, none⟩) 32 32, .slice (some ⟨B, 0, none⟩) 32 32]) rfl (by rfl) (by go_simp) _ (mac_any _ _ key' d rc fc _ (GV.below hb0) (bk.below hb0) (by omega) (bd.below hb0) (by omega)) ?_)
      rintro e w' ⟨he, hb⟩
      have hK1 : Kept V.drew w' (fun _ => False) := (Kept.ofBelow hb0 _).trans (Kept.ofBelow hb _)
      have hrow : w'.heap[V.drew.heap.size]? = some (.cells zeros32 27 (0, 0)) := by
        rw [hb.block _ (by simp)]; exact heap_alloc_new _ _
      refine ⟨.agg (encA .u8 ms), by rw [he, Hm.out], hK1, ?_⟩
      simp only [Act.put, List.setIfInBounds_toArray, List.set_cons_zero, List.set_cons_succ]
      refine reg_one 4 (by kernel_rfl) (op_wp rfl (by rfl) (wp_store_row 27 _ _ rfl V.drew.heap.size (encA .u8 ms) rfl rfl 27 zeros32 hrow (by rw [hms]; exact sz_d) (by rw [hms]; rfl) (encA_one _ _) ⟨hK1.setRow (.inr (Nat.le_refl _)), ?_⟩))
      simp only [Act.put, List.setIfInBounds_toArray, List.set_cons_zero, List.set_cons_succ]
      refine reg_done (by kernel_rfl) ?_
      refine NoPanic.normal ?_
      go_wp2_with fail
      go_meet
      case rel => exact ⟨_, rfl, Nat.le_refl _, setRow_heap _ _ _ _ _ _ hrow, (hK1.setRow (.inr (Nat.le_refl _))).undrew⟩
  case rest =>
    obtain ⟨g, rfl, hg, hgrow, hgk⟩ := hcut
    have RW := HV.out.2.2.2.2.kept hgk (fun e => e) (fun e => e) (fun e => e) (fun _ _ _ _ e => e)
    have hc4 : ∀ w', Kept wc.drew w' (· = b2) → w'.cell? ⟨r, 4, none⟩ = some (.map (some b2)) := fun w' hw' => keptCell hw' RW.r2 RW.cell4
    have hdrow : wc.heap[B]? = some (.cells (encA .u8 d) 27 (0, 0)) := by rw [hgk.block _ (by omega) (fun e => e)]; exact HV.out.2.1
    have hzrow : wc.heap[B + 1]? = some (.cells zeros32 27 (0, 0)) := by rw [hgk.block _ (by omega) (fun e => e)]; exact HV.out.2.2.1
    have hB2 : B ≠ b2 := row_ne_map RW.signed hdrow
    have hg2 : g ≠ b2 := row_ne_map RW.signed hgrow
    have hB3 : B + 1 ≠ b2 := row_ne_map RW.signed hzrow
    have hrd : ∀ w', Kept wc.drew w' (· = b2) → w'.rangeAt B 0 (d.map (Value.int .u8)) := fun w' hw' => keptRow hw' hB2 hdrow
    have hrm : ∀ w', Kept wc.drew w' (· = b2) → w'.rangeAt g 0 (ms.map (Value.int .u8)) := fun w' hw' => keptRow hw' hg2 hgrow
    have hid : (Tryd.prog.info? 27).map (·.size) = some (d.map (Value.int .u8)).length := by rw [List.length_map, hd]; exact sz_d
    have him : (Tryd.prog.info? 27).map (·.size) = some (ms.map (Value.int .u8)).length := by rw [List.length_map, hml]; exact sz_d
    have Hc4 := Lib.hid hc4
    have Hrd := Lib.hid hrd
    have Hrm := Lib.hid hrm
    have Hid' := Lib.hid hid
    have Him := Lib.hid him
    have Hkl := Lib.hid hkl
    have HRW := Lib.hid (And.intro RW (And.intro hdrow (And.intro hzrow (And.intro hgrow hgk))))
    clear hc4 hrd hrm hid him hkl RW hdrow hzrow hgrow hgk
    go_wp2_with fail
    refine wp_region_noPanic ?_
    refine reg_start (fun w' => Kept wc.drew w' (· = b2)) (by kernel_rfl) ?_
    simp only [List.length_cons, List.length_nil, Nat.zero_add, Nat.reduceAdd]
    refine reg_take 0 (v := ?_) rfl (by kernel_rfl) (by kernel_rfl) (by kernel_rfl) (fun _ _ _ h => h) (by first | exact Kept.refl _ _ | exact (Kept.refl _ _).alloc _ | assumption | exact Kept.alloc (by assumption) _) (yield_val (by rfl) ?_) ?_
    rotate_left
    · intro w hSw; go_simp <;> with_reducible rfl
    simp only [Act.put, List.setIfInBounds_toArray, List.set_cons_zero, List.set_cons_succ]
    refine reg_take 1 (v := ?_) rfl (by kernel_rfl) (by kernel_rfl) (by kernel_rfl) (fun _ _ _ h => h) (by first | exact Kept.refl _ _ | exact (Kept.refl _ _).alloc _ | assumption | exact Kept.alloc (by assumption) _) (yield_val (by rfl) ?_) ?_
    rotate_left
    · intro w hSw; go_simp <;> with_reducible rfl
    simp only [Act.put, List.setIfInBounds_toArray, List.set_cons_zero, List.set_cons_succ]
    refine reg_take 2 (v := ?_) rfl (by kernel_rfl) (by kernel_rfl) (by kernel_rfl) (fun _ _ _ h => h) (by first | exact Kept.refl _ _ | exact (Kept.refl _ _).alloc _ | assumption | exact Kept.alloc (by assumption) _) (yield_val (by rfl) ?_) ?_
    rotate_left
    · intro w hSw; go_simp <;> with_reducible rfl
    simp only [Act.put, List.setIfInBounds_toArray, List.set_cons_zero, List.set_cons_succ]
    refine reg_take 4 (v := ?_) rfl (by kernel_rfl) (by kernel_rfl) (by kernel_rfl) (fun _ _ _ h => h) (by first | exact Kept.refl _ _ | exact (Kept.refl _ _).alloc _ | assumption | exact Kept.alloc (by assumption) _) (yield_val (by rfl) ?_) ?_
    rotate_left
    · intro w hSw; go_simp <;> with_reducible rfl
    simp only [Act.put, List.setIfInBounds_toArray, List.set_cons_zero, List.set_cons_succ]
    refine reg_take 3 (v := ?_) rfl (by kernel_rfl) (by kernel_rfl) (by kernel_rfl) (fun _ _ _ h => h) (by first | exact Kept.refl _ _ | exact (Kept.refl _ _).alloc _ | assumption | exact Kept.alloc (by assumption) _) (yield_val (by rfl) ?_) ?_
    rotate_left
    · intro w hSw; have hx0 := Hc4.out w hSw; go_simp <;> with_reducible rfl
    simp only [Act.put, List.setIfInBounds_toArray, List.set_cons_zero, List.set_cons_succ]
    refine reg_take 5 rfl (by kernel_rfl) (by kernel_rfl) (by kernel_rfl) (fun _ _ _ h => h) (by first | exact Kept.refl _ _ | exact (Kept.refl _ _).alloc _ | assumption | exact Kept.alloc (by assumption) _) (yieldsIf_load_mid (by rfl) 27 _ rfl B 0 rfl (d.map (Value.int .u8)) _ Hrd.out Tryd.underlying27 rfl Hid'.out) ?_
    simp only [Act.put, List.setIfInBounds_toArray, List.set_cons_zero, List.set_cons_succ]
    refine reg_take 6 (v := ?_) rfl (by kernel_rfl) (by kernel_rfl) (by kernel_rfl) (fun _ _ _ h => h) (by first | exact Kept.refl _ _ | exact (Kept.refl _ _).alloc _ | assumption | exact Kept.alloc (by assumption) _) (yield_val (by rfl) ?_) ?_
    rotate_left
    · intro w hSw; go_simp <;> with_reducible rfl
    simp only [Act.put, List.setIfInBounds_toArray, List.set_cons_zero, List.set_cons_succ]
    rw [build_pair s d hd]
    refine reg_take 7 rfl (by kernel_rfl) (by kernel_rfl) (by kernel_rfl) (fun _ _ _ h => h) (by first | exact Kept.refl _ _ | exact (Kept.refl _ _).alloc _ | assumption | exact Kept.alloc (by assumption) _) (yieldsIf_load_mid (by rfl) 27 _ rfl g 0 rfl (ms.map (Value.int .u8)) _ Hrm.out Tryd.underlying27 rfl Him.out) ?_
    simp only [Act.put, List.setIfInBounds_toArray, List.set_cons_zero, List.set_cons_succ]
    refine reg_one 8 (by kernel_rfl) (op_wp rfl (by rfl) (wp_mapUpdate_D _ _ _ 85 rfl lawP Tryd.underlying85 b2 n2 D2 rfl HRW.out.1.signed hn2 _ kl ms rfl rfl hml Hkl.out ?_))
    intro w' hown' hgr'
    refine ⟨Kept.ofGrown (hgr') rfl, ?_⟩
    simp only [Act.put, List.setIfInBounds_toArray, List.set_cons_zero, List.set_cons_succ]
    refine reg_done (by kernel_rfl) ?_
    refine NoPanic.normal ?_
    have hkc : Kept wc w' (· = b2) := ⟨hgr'.os, hgr'.tape, hgr'.output, hgr'.size, fun k hk hs => hgr'.block k hk (fun e => by injection e with e; exact hs e)⟩
    have hrx : w'.heap[r]? = some (.cells #[.int .i32 1, .int .u32 0, sv, .map (some b1), .map (some b2)] 87 (0, 0)) := by rw [hkc.block _ HRW.out.1.lt HRW.out.1.r2]; exact HRW.out.1.row
    have hgx : w'.heap[g]? = some (.cells (encA .u8 ms) 27 (0, 0)) := by rw [hkc.block _ (Array.getElem?_eq_some_iff.1 HRW.out.2.2.2.1).1 hg2]; exact HRW.out.2.2.2.1
    have hzx : w'.heap[B + 1]? = some (.cells zeros32 27 (0, 0)) := by rw [hkc.block _ (Array.getElem?_eq_some_iff.1 HRW.out.2.2.1).1 hB3]; exact HRW.out.2.2.1
    have hkx : Kept w w' (fun k => k = r ∨ k = b2) := ((HV.out.2.2.2.1.mono fun k e => .inl e).trans (HRW.out.2.2.2.2.mono fun _ e => e.elim)).trans (hkc.mono fun k e => .inr e)
    have Hgx := Lib.hid hgx
    have Hzx := Lib.hid hzx
    have Hms := Lib.hid hms
    have HX := Lib.hid (And.intro hrx (And.intro hkx hown'))
    clear hkc hrx hgx hzx hkx hown' hgr' hms
    go_wp2_with (first | (refine wpList_load_row rfl _ _ rfl g rfl _ _ _ _ Hgx.out Tryd.underlying27 rfl (by rw [Hms.out]; exact sz_d) ?_) | (refine wpList_store_row rfl 27 _ _ rfl (B + 1) _ rfl rfl _ _ Hzx.out (by rw [Hms.out]; exact sz_d) (by rw [Hms.out]; rfl) (encA_one _ _) ?_))
    refine leaves_cons (f := 40) (args := #[.pointer (some ⟨r, 0, none⟩)]) (by simp) (by simp [go_sem]) ?_
    have hrB : r ≠ B + 1 := by have := HB.out; omega
    have hkY : Kept w (w'.setRow (B + 1) (encA .u8 ms)) (fun k => k = r ∨ k = b2) := HX.out.2.1.setRow (.inr (by rw [HB.out]; exact Nat.le_succ _))
    have hrY : (w'.setRow (B + 1) (encA .u8 ms)).heap[r]? = some (.cells #[.int .i32 1, .int .u32 0, sv, .map (some b1), .map (some b2)] 87 (0, 0)) := by
      rw [setRow_other w' (B + 1) r _ hrB]; exact HX.out.1
    have hzY : (w'.setRow (B + 1) (encA .u8 ms)).heap[B + 1]? = some (.cells (encA .u8 ms) 27 (0, 0)) := setRow_heap _ _ _ _ _ _ Hzx.out
    have hoY : (w'.setRow (B + 1) (encA .u8 ms)).ownsMap Tryd.prog 90 digR b2 (n2 + 1) (D2.put kl (dat ms)) :=
      HX.out.2.2.kept (grown_setRow (World.grownBy.refl w' (some (B + 1))) _) (fun e => by injection e with e; exact hB3 e.symm)
    generalize w'.setRow (B + 1) (encA .u8 ms) = Y at *
    refine (unlock_deferred muLib ⟨r, 0, none⟩ .returning _ (by rw [cell_of_row _ _ _ _ _ _ hrY]; rfl) (frozen_of_row _ _ _ _ _ hrY)).mono ?_
    rintro e u' w'' ⟨rfl, rfl, rfl⟩
    have hrZ : (Y.setCell ⟨r, 0, none⟩ (.int .i32 0)).heap[r]? = some (.cells #[.int .i32 0, .int .u32 0, sv, .map (some b1), .map (some b2)] 87 (0, 0)) := heap_setCell_same _ _ _ _ _ _ hrY
    have hkZ : Kept w (Y.setCell ⟨r, 0, none⟩ (.int .i32 0)) (fun k => k = r ∨ k = b2) := hkY.set (.inl rfl)
    have hoZ : (Y.setCell ⟨r, 0, none⟩ (.int .i32 0)).ownsMap Tryd.prog 90 digR b2 (n2 + 1) (D2.put kl (dat ms)) :=
      hoY.kept (grown_set (World.grownBy.refl Y (some r)) _ _) (fun e => by injection e with e; exact HR.out.r2 e.symm)
    have hzZ : (Y.setCell ⟨r, 0, none⟩ (.int .i32 0)).heap[B + 1]? = some (.cells (encA .u8 ms) 27 (0, 0)) := by
      rw [heap_setCell_other _ _ _ _ (by show B + 1 ≠ r; omega)]; exact hzY
    have hfin : w.grownBy (Y.setCell ⟨r, 0, none⟩ (.int .i32 0)) (some b2) := (hkZ.same (T := (· = b2)) (g := r) (fun k hk => hk.symm) (by rw [hrZ, HR.out.row])).toGrown
    refine ⟨_, results_row_tmp rfl _ _ (B + 1) _ _ _ rfl hzZ Tryd.underlying27 rfl (by rw [Hms.out]; exact sz_d), ?_, ?_, hfin⟩
    · rw [← Hm.out]; rfl
    · rw [← Hm.out]; exact HR.out.signs hkZ hrZ hoZ
end Go.Proofs.YthgebhndhilhkaaDoor
