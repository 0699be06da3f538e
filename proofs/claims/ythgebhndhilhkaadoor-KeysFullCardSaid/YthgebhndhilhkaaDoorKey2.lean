/- keys: Verify. -/
import Derived.Test.YthgebhndhilhkaaDoorKey1
namespace Go.Proofs.YthgebhndhilhkaaDoor
open Go.RowKit Go.MuLone Go.Maps

open Classical in
noncomputable def yesB (D : DataW Unit) (kl : Lit) (sl : List Int) : Bool := decide (Maps.has D kl = true ∧ D.atKey kl (dat zer32) = dat sl)
open Classical in
theorem yesB_iff (D : DataW Unit) (kl : Lit) (sl : List Int) : yesB D kl sl = true ↔ Maps.has D kl = true ∧ D.atKey kl (dat zer32) = dat sl := by
  unfold yesB
  exact decide_eq_true_iff
theorem yesB_eq (D : DataW Unit) (kl : Lit) (sl : List Int) (b : Bool) (h : (Maps.has D kl = true ∧ D.atKey kl (dat zer32) = dat sl) ↔ b = true) : yesB D kl sl = b := by
  rw [Bool.eq_iff_iff, yesB_iff, h]
theorem build_pair32 (s : ByteArray) (a0 a1 a2 a3 a4 a5 a6 a7 a8 a9 a10 a11 a12 a13 a14 a15 a16 a17 a18 a19 a20 a21 a22 a23 a24 a25 a26 a27 a28 a29 a30 a31 : Int) : (List.foldl (fun (cs : Array Value) (x : Value × Nat) => cs.setIfInBounds (1 + x.snd) x.fst) #[.string s, .int .u8 0, .int .u8 0, .int .u8 0, .int .u8 0, .int .u8 0, .int .u8 0, .int .u8 0, .int .u8 0, .int .u8 0, .int .u8 0, .int .u8 0, .int .u8 0, .int .u8 0, .int .u8 0, .int .u8 0, .int .u8 0, .int .u8 0, .int .u8 0, .int .u8 0, .int .u8 0, .int .u8 0, .int .u8 0, .int .u8 0, .int .u8 0, .int .u8 0, .int .u8 0, .int .u8 0, .int .u8 0, .int .u8 0, .int .u8 0, .int .u8 0, .int .u8 0] ([a0, a1, a2, a3, a4, a5, a6, a7, a8, a9, a10, a11, a12, a13, a14, a15, a16, a17, a18, a19, a20, a21, a22, a23, a24, a25, a26, a27, a28, a29, a30, a31].map (Value.int .u8)).zipIdx) = pairC s [a0, a1, a2, a3, a4, a5, a6, a7, a8, a9, a10, a11, a12, a13, a14, a15, a16, a17, a18, a19, a20, a21, a22, a23, a24, a25, a26, a27, a28, a29, a30, a31] := by kernel_rfl
theorem build_pair (s : ByteArray) (ds : List Int) (h : ds.length = 32) : (List.foldl (fun (cs : Array Value) (x : Value × Nat) => cs.setIfInBounds (1 + x.snd) x.fst) #[.string s, .int .u8 0, .int .u8 0, .int .u8 0, .int .u8 0, .int .u8 0, .int .u8 0, .int .u8 0, .int .u8 0, .int .u8 0, .int .u8 0, .int .u8 0, .int .u8 0, .int .u8 0, .int .u8 0, .int .u8 0, .int .u8 0, .int .u8 0, .int .u8 0, .int .u8 0, .int .u8 0, .int .u8 0, .int .u8 0, .int .u8 0, .int .u8 0, .int .u8 0, .int .u8 0, .int .u8 0, .int .u8 0, .int .u8 0, .int .u8 0, .int .u8 0, .int .u8 0] (ds.map (Value.int .u8)).zipIdx) = pairC s ds := by
  match ds, h with
  | [a0, a1, a2, a3, a4, a5, a6, a7, a8, a9, a10, a11, a12, a13, a14, a15, a16, a17, a18, a19, a20, a21, a22, a23, a24, a25, a26, a27, a28, a29, a30, a31], _ => exact build_pair32 s a0 a1 a2 a3 a4 a5 a6 a7 a8 a9 a10 a11 a12 a13 a14 a15 a16 a17 a18 a19 a20 a21 a22 a23 a24 a25 a26 a27 a28 a29 a30 a31
theorem keptRow {w w' : World} {S : Nat → Prop} (h : Kept w w' S) {b : Nat} (hn : ¬ S b) {k : IntKind} {xs : List Int} {t : TypeId} (hr : w.heap[b]? = some (.cells (encA k xs) t (0, 0))) : w'.rangeAt b 0 (xs.map (Value.int k)) := fun j v hv => by
  have hlt := (Array.getElem?_eq_some_iff.1 hr).1
  rw [cell_of_row w' b _ _ _ _ (by rw [h.block _ hlt hn]; exact hr)]
  simpa [encA] using hv
theorem keptCell {w w' : World} {S : Nat → Prop} (h : Kept w w' S) {a : Addr} (hn : ¬ S a.block) {v : Value} (hc : w.cell? a = some v) : w'.cell? a = some v := by
  rw [← hc]; exact World.cell?_of_block (h.block _ (World.block_lt_of_cell? _ _ hc) hn)

set_option maxRecDepth 100000 in
set_option maxHeartbeats 1000000 in
theorem verify_any (r b1 b2 n1 n2 : Nat) (sv : Value) (sec : List Int) (D1 D2 : DataW Unit) (s : ByteArray) (d sl : List Int) (kl : Lit) (w : World) (R : RingAt w 0 r b1 b2 sv sec n1 n2 D1 D2)
    (hd : d.length = 32) (hsl : sl.length = 32) (hkl : keyOf Tryd.prog 90 (.agg (pairC s d)) = some kl) :
    Calls Tryd.prog 11 #[.pointer (some ⟨r, 0, none⟩), .string s, .agg (encA .u8 d), .agg (encA .u8 sl)] w fun e w' => e = .returned (.bool (yesB D2 kl sl)) ∧ Below w.heap.size w w' := by
  have HR := Lib.hid R
  clear R
  go_enter_defers Tryd.func11, Tryd.ntmps11
  go_wp2_with fail
  have hB0 : Below w.heap.size w ((w.alloc (.cells (encA .u8 d) 27)).alloc (.cells (encA .u8 sl) 27)) := ((Below.refl _ _).alloc (Nat.le_refl _) _).alloc (by simp) _
  have hX0 : ((w.alloc (.cells (encA .u8 d) 27)).alloc (.cells (encA .u8 sl) 27)).heap[w.heap.size]? = some (.cells (encA .u8 d) 27 (0, 0)) := heap_alloc2_old _ _ _
  have hX1 : ((w.alloc (.cells (encA .u8 d) 27)).alloc (.cells (encA .u8 sl) 27)).heap[w.heap.size + 1]? = some (.cells (encA .u8 sl) 27 (0, 0)) := heap_alloc2_new _ _ _
  have hsz : ((w.alloc (.cells (encA .u8 d) 27)).alloc (.cells (encA .u8 sl) 27)).heap.size = w.heap.size + 2 := by simp
  generalize (w.alloc (.cells (encA .u8 d) 27)).alloc (.cells (encA .u8 sl) 27) = W0 at *
  have hlt := HR.out.lt
  have R0 := HR.out.below hB0
  refine (lock_free muLib ⟨r, 0, none⟩ _ R0.cell0 R0.frozen0).mono ?_
  rintro e w1 ⟨rfl, rfl⟩
  have hk1 : Kept w (W0.setCell ⟨r, 0, none⟩ (.int .i32 1)) (· = r) := (Kept.ofBelow hB0 _).set rfl
  have R1 := R0.lock 1
  have hY0 : (W0.setCell ⟨r, 0, none⟩ (.int .i32 1)).heap[w.heap.size]? = some (.cells (encA .u8 d) 27 (0, 0)) := by rw [heap_setCell_other _ _ _ _ (by show _ ≠ r; omega)]; exact hX0
  have hY1 : (W0.setCell ⟨r, 0, none⟩ (.int .i32 1)).heap[w.heap.size + 1]? = some (.cells (encA .u8 sl) 27 (0, 0)) := by rw [heap_setCell_other _ _ _ _ (by show _ ≠ r; omega)]; exact hX1
  have hsz1 : (W0.setCell ⟨r, 0, none⟩ (.int .i32 1)).heap.size = w.heap.size + 2 := by simp [hsz]
  generalize W0.setCell ⟨r, 0, none⟩ (.int .i32 1) = W1 at *
  clear hX0 hX1 hsz R0 hB0
  have h1 := Lib.hid (And.intro R1 (And.intro hk1 (And.intro hY0 (And.intro hY1 hsz1))))
  have hds : (encA .u8 d).size = 32 := by rw [encA_size, hd]
  have hsls : (encA .u8 sl).size = 32 := by rw [encA_size, hsl]
  have Hds := Lib.hid hds
  have Hsls := Lib.hid hsls
  obtain ⟨gv, hgl, hgat, hlk⟩ := look_D (t := 85) R1.signed lawP Tryd.underlying85 hkl
  have Hgs : Hid ((encA .u8 gv).size = 32) := by show _ = _; rw [encA_size, hgl]
  have hlk2 : ∀ w', Kept W1.drew w' (fun _ => False) → (Instr.lookup 85 (.map (some b2)) (.agg (pairC s d)) true).run Tryd.prog w' = .ok (.tuple #[.agg (encA .u8 gv), .bool (Maps.has D2 kl)]) w' := fun w' hw' => hlk w' (hw'.block _ (R1.signed.lt) (fun e => e))
  have hc4 : ∀ w', Kept W1.drew w' (fun _ => False) → w'.cell? ⟨r, 4, none⟩ = some (.map (some b2)) := fun w' hw' => keptCell hw' (fun e => e) R1.cell4
  have hrd : ∀ w', Kept W1.drew w' (fun _ => False) → w'.rangeAt w.heap.size 0 (d.map (Value.int .u8)) := fun w' hw' => keptRow hw' (fun e => e) hY0
  have Hlk := Lib.hid hlk2
  have Hc4 := Lib.hid hc4
  have Hrd := Lib.hid hrd
  have Hgat := Lib.hid hgat
  have Hkl := Lib.hid hkl
  have Hi : Hid ((Tryd.prog.info? 27).map (·.size) = some (d.map (Value.int .u8)).length) := by show _ = _; rw [List.length_map, hd]; exact sz_d
  clear R1 hk1 hY0 hY1 hsz1 hds hsls hlk2 hlk hc4 hrd hgat hkl
  go_wp2_with fail
  refine wp_region_noPanic ?_
  refine reg_start (fun w' => Kept W1.drew w' (fun _ => False)) (by kernel_rfl) ?_
  simp only [List.length_cons, List.length_nil, Nat.zero_add, Nat.reduceAdd]
  refine reg_take 0 (v := ?_) rfl (by kernel_rfl) (by kernel_rfl) (by kernel_rfl) (fun _ _ _ h => h) (by first | exact Kept.refl _ _ | exact (Kept.refl _ _).alloc _ | assumption | exact Kept.alloc (by assumption) _) (yield_val (by rfl) ?_) ?_
  rotate_left
  · intro w hSw; go_simp <;> with_reducible rfl
  simp only [Act.put, List.setIfInBounds_toArray, List.set_cons_zero, List.set_cons_succ]
  refine reg_take 1 (v := ?_) rfl (by kernel_rfl) (by kernel_rfl) (by kernel_rfl) (fun _ _ _ h => h) (by first | exact Kept.refl _ _ | exact (Kept.refl _ _).alloc _ | assumption | exact Kept.alloc (by assumption) _) (yield_val (by rfl) ?_) ?_
  rotate_left
  · intro w hSw; go_simp <;> with_reducible rfl
  simp only [Act.put, List.setIfInBounds_toArray, List.set_cons_zero, List.set_cons_succ]
  refine reg_take 2 (v := ?_) rfl (by kernel_rfl) (by kernel_rfl) (by kernel_rfl) (fun _ _ _ h => h) (by first | exact Kept.refl _ _ | exact (Kept.refl _ _).alloc _ | assumption | exact Kept.alloc (by assumption) _) (yield_val (by rfl) ?_) ?_
  rotate_left
  · intro w hSw; go_simp <;> with_reducible rfl
  simp only [Act.put, List.setIfInBounds_toArray, List.set_cons_zero, List.set_cons_succ]
  refine reg_take 4 (v := ?_) rfl (by kernel_rfl) (by kernel_rfl) (by kernel_rfl) (fun _ _ _ h => h) (by first | exact Kept.refl _ _ | exact (Kept.refl _ _).alloc _ | assumption | exact Kept.alloc (by assumption) _) (yield_val (by rfl) ?_) ?_
  rotate_left
  · intro w hSw; go_simp <;> with_reducible rfl
  simp only [Act.put, List.setIfInBounds_toArray, List.set_cons_zero, List.set_cons_succ]
  refine reg_take 3 (v := ?_) rfl (by kernel_rfl) (by kernel_rfl) (by kernel_rfl) (fun _ _ _ h => h) (by first | exact Kept.refl _ _ | exact (Kept.refl _ _).alloc _ | assumption | exact Kept.alloc (by assumption) _) (yield_val (by rfl) ?_) ?_
  rotate_left
  · intro w hSw; have hx0 := Hc4.out w hSw; go_simp <;> with_reducible rfl
  simp only [Act.put, List.setIfInBounds_toArray, List.set_cons_zero, List.set_cons_succ]
  refine reg_take 5 rfl (by kernel_rfl) (by kernel_rfl) (by kernel_rfl) (fun _ _ _ h => h) (by first | exact Kept.refl _ _ | exact (Kept.refl _ _).alloc _ | assumption | exact Kept.alloc (by assumption) _) (yieldsIf_load_mid (by rfl) 27 _ rfl w.heap.size 0 rfl (d.map (Value.int .u8)) _ Hrd.out Tryd.underlying27 rfl Hi.out) ?_
  simp only [Act.put, List.setIfInBounds_toArray, List.set_cons_zero, List.set_cons_succ]
  refine reg_take 6 (v := ?_) rfl (by kernel_rfl) (by kernel_rfl) (by kernel_rfl) (fun _ _ _ h => h) (by first | exact Kept.refl _ _ | exact (Kept.refl _ _).alloc _ | assumption | exact Kept.alloc (by assumption) _) (yield_val (by rfl) ?_) ?_
  rotate_left
  · intro w hSw; go_simp <;> with_reducible rfl
  simp only [Act.put, List.setIfInBounds_toArray, List.set_cons_zero, List.set_cons_succ]
  rw [build_pair s d hd]
  refine reg_take 7 (v := ?_) rfl (by kernel_rfl) (by kernel_rfl) (by kernel_rfl) (fun _ _ _ h => h) (by first | exact Kept.refl _ _ | exact (Kept.refl _ _).alloc _ | assumption | exact Kept.alloc (by assumption) _) (yield_val (by rfl) ?_) ?_
  rotate_left
  · intro w hSw; have hx0 := Hlk.out w hSw; go_simp <;> with_reducible rfl
  simp only [Act.put, List.setIfInBounds_toArray, List.set_cons_zero, List.set_cons_succ]
  refine reg_take 8 (v := ?_) rfl (by kernel_rfl) (by kernel_rfl) (by kernel_rfl) (fun _ _ _ h => h) (by first | exact Kept.refl _ _ | exact (Kept.refl _ _).alloc _ | assumption | exact Kept.alloc (by assumption) _) (yield_val (by rfl) ?_) ?_
  rotate_left
  · intro w hSw; go_simp <;> with_reducible rfl
  simp only [Act.put, List.setIfInBounds_toArray, List.set_cons_zero, List.set_cons_succ]
  refine reg_take 9 (v := ?_) rfl (by kernel_rfl) (by kernel_rfl) (by kernel_rfl) (fun _ _ _ h => h) (by first | exact Kept.refl _ _ | exact (Kept.refl _ _).alloc _ | assumption | exact Kept.alloc (by assumption) _) (yield_val (by rfl) ?_) ?_
  rotate_left
  · intro w hSw; go_simp <;> with_reducible rfl
  simp only [Act.put, List.setIfInBounds_toArray, List.set_cons_zero, List.set_cons_succ]
  refine reg_take 10 (v := ?_) rfl (by kernel_rfl) (by kernel_rfl) (by kernel_rfl) (fun _ _ _ h => h) (by first | exact Kept.refl _ _ | exact (Kept.refl _ _).alloc _ | assumption | exact Kept.alloc (by assumption) _) (yield_val (by rfl) ?_) ?_
  rotate_left
  · intro w hSw; go_simp <;> with_reducible rfl
  simp only [Act.put, List.setIfInBounds_toArray, List.set_cons_zero, List.set_cons_succ]
  refine reg_one 11 (by kernel_rfl) (op_val (v := .pointer (some ⟨(W1.drew).heap.size, 0, none⟩)) (w' := (W1.drew).alloc (.cells zeros32 27)) rfl (by rfl) (by go_simp <;> rfl) ⟨(by first | exact Kept.refl _ _ | exact (Kept.refl _ _).alloc _ | assumption | exact Kept.alloc (by assumption) _), ?_⟩)
  simp only [Act.put, List.setIfInBounds_toArray, List.set_cons_zero, List.set_cons_succ]
  refine reg_one 12 (by kernel_rfl) (op_wp rfl (by rfl) (wp_store_row 27 _ _ rfl W1.drew.heap.size (encA .u8 gv) rfl rfl 27 zeros32 (heap_alloc_new _ _) (by rw [Hgs.out]; exact sz_d) (by rw [Hgs.out]; rfl) (encA_one _ _) ⟨(by rw [World.setRow_alloc_new]; exact (Kept.refl _ _).alloc _), ?_⟩))
  simp only [Act.put, List.setIfInBounds_toArray, List.set_cons_zero, List.set_cons_succ]
  rw [World.setRow_alloc_new W1.drew]
  refine reg_take 13 (v := ?_) rfl (by kernel_rfl) (by kernel_rfl) (by kernel_rfl) (fun _ _ _ h => h) (by first | exact Kept.refl _ _ | exact (Kept.refl _ _).alloc _ | assumption | exact Kept.alloc (by assumption) _) (yield_val (by rfl) ?_) ?_
  rotate_left
  · intro w hSw; go_simp <;> with_reducible rfl
  simp only [Act.put, List.setIfInBounds_toArray, List.set_cons_zero, List.set_cons_succ]
  refine reg_done (by kernel_rfl) ?_
  refine NoPanic.normal ?_
  rw [show W1.drew.alloc (.cells (encA .u8 gv) 27) = (W1.alloc (.cells (encA .u8 gv) 27)).drew from rfl, show W1.drew.heap.size = W1.heap.size from rfl]
  have hV0 : (W1.alloc (.cells (encA .u8 gv) 27)).drew.heap[W1.heap.size]? = some (.cells (encA .u8 gv) 27 (0, 0)) := heap_alloc_new _ _
  have hV1 : (W1.alloc (.cells (encA .u8 gv) 27)).drew.heap[w.heap.size + 1]? = some (.cells (encA .u8 sl) 27 (0, 0)) := by
    have := h1.out.2.2.2.2
    exact (heap_alloc_old W1 _ (by omega)).trans h1.out.2.2.2.1
  have hVk : Kept W1 (W1.alloc (.cells (encA .u8 gv) 27)).drew (fun _ => False) := ((Kept.refl _ _).alloc _).drew
  generalize (W1.alloc (.cells (encA .u8 gv) 27)).drew = V at *
  have HV0 := Lib.hid hV0
  have HV1 := Lib.hid hV1
  have HVk := Lib.hid hVk
  clear hV0 hV1 hVk
  obtain ⟨hb, hhb⟩ : ∃ hb, hb = Maps.has D2 kl := ⟨_, rfl⟩
  rw [← hhb]
  have Hhb := Lib.hid hhb
  clear hhb
  cases hb with
  | false =>
    go_wp2_with fail
    refine leaves_cons (f := 40) (args := #[.pointer (some ⟨r, 0, none⟩)]) (by simp) (by simp [go_sem]) ?_
    have RV : RingAt V 1 r b1 b2 sv sec n1 n2 D1 D2 := h1.out.1.kept HVk.out (fun e => e) (fun e => e) (fun e => e) (fun _ _ _ _ e => e)
    refine (unlock_deferred muLib ⟨r, 0, none⟩ .returning _ RV.cell0 RV.frozen0).mono ?_
    rintro e u' w'' ⟨rfl, rfl, rfl⟩
    have hfin : Below w.heap.size w (V.setCell ⟨r, 0, none⟩ (.int .i32 0)) :=
      (((h1.out.2.1.trans (HVk.out.mono fun _ e => e.elim)).set rfl).same (T := fun _ => False) (g := r) (fun k hk => .inr hk) (by rw [(RV.lock 0).row, HR.out.row])).toBelow
    have hv : yesB D2 kl sl = false := yesB_eq _ _ _ _ (by rw [← Hhb.out]; simp)
    rw [hv]
    exact ⟨_, results_tmp rfl _ _ _, rfl, hfin⟩
  | true =>
    have hq := fun W => eq_D W gv sl hgl hsl
    go_wp2_with (first | (refine gload_row (by rfl) _ _ rfl W1.heap.size rfl _ _ HV0.out _ Tryd.underlying27 rfl (by rw [Hgs.out]; exact sz_d) ?_) | (refine gload_row (by rfl) _ _ rfl (w.heap.size + 1) rfl _ _ HV1.out _ Tryd.underlying27 rfl (by rw [Hsls.out]; exact sz_d) ?_))
    refine leaves_cons (f := 40) (args := #[.pointer (some ⟨r, 0, none⟩)]) (by simp) (by simp [go_sem]) ?_
    have RV : RingAt V 1 r b1 b2 sv sec n1 n2 D1 D2 := h1.out.1.kept HVk.out (fun e => e) (fun e => e) (fun e => e) (fun _ _ _ _ e => e)
    refine (unlock_deferred muLib ⟨r, 0, none⟩ .returning _ RV.cell0 RV.frozen0).mono ?_
    rintro e u' w'' ⟨rfl, rfl, rfl⟩
    have hfin : Below w.heap.size w (V.setCell ⟨r, 0, none⟩ (.int .i32 0)) :=
      (((h1.out.2.1.trans (HVk.out.mono fun _ e => e.elim)).set rfl).same (T := fun _ => False) (g := r) (fun k hk => .inr hk) (by rw [(RV.lock 0).row, HR.out.row])).toBelow
    have hv : yesB D2 kl sl = decide (gv = sl) := yesB_eq _ _ _ _ ⟨fun h => decide_eq_true (dat_inj (Hgat.out.symm.trans h.2)), fun h => ⟨Hhb.out.symm, by rw [Hgat.out, of_decide_eq_true h]⟩⟩
    rw [hv]
    exact ⟨_, results_tmp rfl _ _ _, rfl, hfin⟩
end Go.Proofs.YthgebhndhilhkaaDoor
