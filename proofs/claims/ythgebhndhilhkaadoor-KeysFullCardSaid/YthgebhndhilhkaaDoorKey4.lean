/- keys: Enroll. -/
import Derived.Test.YthgebhndhilhkaaDoorKey3
import Derived.Lib.ConvBytes
namespace Go.Proofs.YthgebhndhilhkaaDoor
open Go.RowKit Go.MuLone Go.Maps

def byt (s : ByteArray) : List Int := s.data.toList.map (fun b => (b.toNat : Int))
theorem byt_length (s : ByteArray) : (byt s).length = s.size := by simp [byt]
theorem bytesWorld_below (w : World) (e : TypeId) (s : ByteArray) : Below w.heap.size w (Lib.bytesWorld w e s) :=
  ⟨rfl, rfl, rfl, by rw [Lib.bytesWorld_size]; omega, fun k hk => Lib.bytesWorld_at_old w e s k hk⟩
theorem bytesWorld_in (w : World) (e : TypeId) (s : ByteArray) (hs : s.size ≤ maxLen) : BytesIn (Lib.bytesWorld w e s) (.slice (some ⟨w.heap.size, 0, none⟩) s.size (grownCap w s.size 0 e)) (byt s) := by
  refine ⟨_, _, by rw [byt_length], by rw [byt_length]; exact grownCap_ge _ _ _ _, ?_, fun _ => ⟨w.heap.size, 0, rfl, fun i hi => ?_⟩⟩
  · have := grownCap_le_maxLen w s.size 0 e hs
    simpa [maxLen] using this
  · rw [byt_length] at hi
    rw [Nat.zero_add, Lib.bytesWorld_cell _ _ _ _ hi]
    have hi' : i < s.data.size := hi
    simp only [byt, List.getD]
    rw [List.getElem?_map, List.getElem?_eq_getElem (by simpa using hi')]
    rfl
theorem wp_convert_bytes {w : World} {o : Oper} {a : Act} {K : Act → World → Prop} {Q : Exit → Act → World → Prop} (x : Operand) (hop : o.op = Op.convert 9 22 x) (s : ByteArray) (hx : a.eval x = .string s) (hs : s.size ≤ maxLen)
    (hK : ∀ w' v, Below w.heap.size w w' → BytesIn w' v (byt s) → K (a.put o.dst v) w') : o.wp Tryd.prog a w K Q := by
  have hrun := Lib.run_convert_string_bytes (P := Tryd.prog) w 9 22 5 s Tryd.underlying9 Tryd.underlying22 Tryd.underlying5
  unfold Oper.wp
  simp [execOp, hop, hx, hrun, Result.andThen]
  exact hK _ _ (bytesWorld_below _ _ _) (bytesWorld_in _ _ _ hs)

set_option maxRecDepth 100000 in
set_option maxHeartbeats 1000000 in
theorem enroll_ok (r b1 b2 n1 n2 : Nat) (sv : Value) (sec : List Int) (D1 D2 : DataW Unit) (s : ByteArray) (rc fc : List Int) (ks : Lit) (w : World) (R : RingAt w 0 r b1 b2 sv sec n1 n2 D1 D2) (G : Glob w rc fc)
    (hs0 : 0 < s.size) (hs1 : s.size ≤ 64) (hks : keyOf Tryd.prog 9 (.string s) = some ks) (hn1 : n1 < maxLen)
    (hhas : Maps.has D1 ks = false) (hlen : Maps.size D1 < 256) :
    Calls Tryd.prog 30 #[.pointer (some ⟨r, 0, none⟩), .string s] w fun e w' => e = .returned (.int .i64 0) ∧
      RingAt w' 0 r b1 b2 sv sec (n1 + 1) n2 (D1.put ks (dat (macF rc fc sec (byt s)))) D2 ∧ w.grownBy w' (some b1) := by
  have HR := Lib.hid R
  have HG := Lib.hid G
  clear R G
  have hemp : ¬ (s.toList = []) := fun e => by
    rw [ByteArray.toList_eq] at e
    have e1 := congrArg List.length e
    have e2 : s.data.toList.length = s.size := Array.length_toList
    rw [e2, List.length_nil] at e1
    omega
  have hempb : s.toList.isEmpty = false := by simpa using hemp
  have hs1i : ¬ ((64 : Int) < (s.size : Nat)) := by omega
  go_enter_defers Tryd.func30, Tryd.ntmps30
  go_wp2_with fail
  have hlt := HR.out.lt
  refine (lock_free muLib ⟨r, 0, none⟩ _ HR.out.cell0 HR.out.frozen0).mono ?_
  rintro e w1 ⟨rfl, rfl⟩
  have hk1 : Kept w (w.setCell ⟨r, 0, none⟩ (.int .i32 1)) (· = r) := (Kept.refl _ _).set rfl
  have R1 := HR.out.lock 1
  have hsz1 : (w.setCell ⟨r, 0, none⟩ (.int .i32 1)).heap.size = w.heap.size := by simp
  generalize w.setCell ⟨r, 0, none⟩ (.int .i32 1) = W1 at *
  have c3 := R1.cell3
  have h1 := Lib.hid (And.intro R1 (And.intro hk1 hsz1))
  obtain ⟨key', hkl2, hkat, hlk⟩ := look_D (t := 84) R1.keys lawS Tryd.underlying84 hks
  have hl := hlk W1 rfl
  rw [hhas] at hl
  have hksz : (encA .u8 key').size = 32 := by rw [encA_size, hkl2]
  have Hksz := Lib.hid hksz
  clear R1 hk1 hsz1 hlk hksz
  go_upto_region 8 with (refine wpList_store_row rfl 27 _ _ rfl W1.heap.size _ rfl rfl _ _ (heap_alloc_new _ _) (by rw [Hksz.out]; exact sz_d) (by rw [Hksz.out]; rfl) (encA_one _ _) ?_; rw [World.setRow_alloc_new])
  have hVk : Kept w (W1.alloc (.cells (encA .u8 key') 27)) (· = r) := h1.out.2.1.alloc _
  have hVR := h1.out.1.below ((Below.refl W1.heap.size W1).alloc (Nat.le_refl _) (.cells (encA .u8 key') 27))
  generalize W1.alloc (.cells (encA .u8 key') 27) = V at *
  have cV3 := hVR.cell3
  have hown := hVR.keys
  have HV := Lib.hid (And.intro hVk hVR)
  have hli : ¬ ((256 : Int) ≤ (Maps.size D1 : Nat)) := by omega
  clear hVk hVR h1
  go_upto_region 10 with (at_len; refine wpList_len_own _ rfl _ 84 rfl 9 27 Tryd.underlying84 digR b1 n1 D1 rfl hown ?_)
  obtain ⟨ms, hm⟩ : ∃ ms, ms = macF rc fc sec (byt s) := ⟨_, rfl⟩
  have hml : ms.length = 32 := by rw [hm, macF_length]
  have hgr := HR.out.glob HG.out
  have GV : Glob V.drew rc fc := (HG.out.kept HV.out.1 hgr.1 hgr.2).drew
  have hc3 : ∀ w', Kept V.drew w' (· = b1) → w'.cell? ⟨r, 3, none⟩ = some (.map (some b1)) := fun w' hw' => keptCell hw' HV.out.2.r1 HV.out.2.cell3
  have hc2 : ∀ w', Kept V.drew w' (· = b1) → w'.cell? ⟨r, 2, none⟩ = some sv := fun w' hw' => keptCell hw' HV.out.2.r1 HV.out.2.cell2
  have Hm := Lib.hid hm
  have Hc3 := Lib.hid hc3
  have Hc2 := Lib.hid hc2
  have Hks := Lib.hid hks
  clear hm hc3 hc2 hown hks
  refine wp_region_noPanic ?_
  refine reg_start (fun w' => Kept V.drew w' (· = b1)) (by kernel_rfl) ?_
  simp only [List.length_cons, List.length_nil, Nat.zero_add, Nat.reduceAdd]
  refine reg_take 0 (v := ?_) rfl (by kernel_rfl) (by kernel_rfl) (by kernel_rfl) (fun _ _ _ h => h) (by first | exact Kept.refl _ _ | exact (Kept.refl _ _).alloc _ | assumption | exact Kept.alloc (by assumption) _) (yield_val (by rfl) ?_) ?_
  rotate_left
  · intro w hSw; go_simp <;> with_reducible rfl
  simp only [Act.put, List.setIfInBounds_toArray, List.set_cons_zero, List.set_cons_succ]
  refine reg_take 1 (v := ?_) rfl (by kernel_rfl) (by kernel_rfl) (by kernel_rfl) (fun _ _ _ h => h) (by first | exact Kept.refl _ _ | exact (Kept.refl _ _).alloc _ | assumption | exact Kept.alloc (by assumption) _) (yield_val (by rfl) ?_) ?_
  rotate_left
  · intro w hSw; go_simp <;> with_reducible rfl
  simp only [Act.put, List.setIfInBounds_toArray, List.set_cons_zero, List.set_cons_succ]
  refine reg_take 2 (v := ?_) rfl (by kernel_rfl) (by kernel_rfl) (by kernel_rfl) (fun _ _ _ h => h) (by first | exact Kept.refl _ _ | exact (Kept.refl _ _).alloc _ | assumption | exact Kept.alloc (by assumption) _) (yield_val (by rfl) ?_) ?_
  rotate_left
  · intro w hSw; go_simp <;> with_reducible rfl
  simp only [Act.put, List.setIfInBounds_toArray, List.set_cons_zero, List.set_cons_succ]
  refine reg_take 4 (v := ?_) rfl (by kernel_rfl) (by kernel_rfl) (by kernel_rfl) (fun _ _ _ h => h) (by first | exact Kept.refl _ _ | exact (Kept.refl _ _).alloc _ | assumption | exact Kept.alloc (by assumption) _) (yield_val (by rfl) ?_) ?_
  rotate_left
  · intro w hSw; go_simp <;> with_reducible rfl
  simp only [Act.put, List.setIfInBounds_toArray, List.set_cons_zero, List.set_cons_succ]
  refine reg_take 5 (v := ?_) rfl (by kernel_rfl) (by kernel_rfl) (by kernel_rfl) (fun _ _ _ h => h) (by first | exact Kept.refl _ _ | exact (Kept.refl _ _).alloc _ | assumption | exact Kept.alloc (by assumption) _) (yield_val (by rfl) ?_) ?_
  rotate_left
  · intro w hSw; go_simp <;> with_reducible rfl
  simp only [Act.put, List.setIfInBounds_toArray, List.set_cons_zero, List.set_cons_succ]
  refine reg_take 6 (v := ?_) rfl (by kernel_rfl) (by kernel_rfl) (by kernel_rfl) (fun _ _ _ h => h) (by first | exact Kept.refl _ _ | exact (Kept.refl _ _).alloc _ | assumption | exact Kept.alloc (by assumption) _) (yield_val (by rfl) ?_) ?_
  rotate_left
  · intro w hSw; go_simp <;> with_reducible rfl
  simp only [Act.put, List.setIfInBounds_toArray, List.set_cons_zero, List.set_cons_succ]
  refine reg_take 7 (v := ?_) rfl (by kernel_rfl) (by kernel_rfl) (by kernel_rfl) (fun _ _ _ h => h) (by first | exact Kept.refl _ _ | exact (Kept.refl _ _).alloc _ | assumption | exact Kept.alloc (by assumption) _) (yield_val (by rfl) ?_) ?_
  rotate_left
  · intro w hSw; go_simp <;> with_reducible rfl
  simp only [Act.put, List.setIfInBounds_toArray, List.set_cons_zero, List.set_cons_succ]
  refine reg_take 9 (v := ?_) rfl (by kernel_rfl) (by kernel_rfl) (by kernel_rfl) (fun _ _ _ h => h) (by first | exact Kept.refl _ _ | exact (Kept.refl _ _).alloc _ | assumption | exact Kept.alloc (by assumption) _) (yield_val (by rfl) ?_) ?_
  rotate_left
  · intro w hSw; go_simp <;> with_reducible rfl
  simp only [Act.put, List.setIfInBounds_toArray, List.set_cons_zero, List.set_cons_succ]
  refine reg_take 3 (v := ?_) rfl (by kernel_rfl) (by kernel_rfl) (by kernel_rfl) (fun _ _ _ h => h) (by first | exact Kept.refl _ _ | exact (Kept.refl _ _).alloc _ | assumption | exact Kept.alloc (by assumption) _) (yield_val (by rfl) ?_) ?_
  rotate_left
  · intro w hSw; have hx0 := Hc3.out w hSw; go_simp <;> with_reducible rfl
  simp only [Act.put, List.setIfInBounds_toArray, List.set_cons_zero, List.set_cons_succ]
  refine reg_take 8 (v := ?_) rfl (by kernel_rfl) (by kernel_rfl) (by kernel_rfl) (fun _ _ _ h => h) (by first | exact Kept.refl _ _ | exact (Kept.refl _ _).alloc _ | assumption | exact Kept.alloc (by assumption) _) (yield_val (by rfl) ?_) ?_
  rotate_left
  · intro w hSw; have hx0 := Hc2.out w hSw; go_simp <;> with_reducible rfl
  simp only [Act.put, List.setIfInBounds_toArray, List.set_cons_zero, List.set_cons_succ]
  refine reg_one 10 (by kernel_rfl) (op_wp rfl (by rfl) (wp_convert_bytes _ rfl s rfl (by unfold maxLen; omega) ?_))
  intro w2 vb hb2 hin2
  refine ⟨Kept.ofBelow hb2 _, ?_⟩
  simp only [Act.put, List.setIfInBounds_toArray, List.set_cons_zero, List.set_cons_succ]
  refine reg_one 11 (by kernel_rfl) (op_call (f := 9) (args := #[sv, vb]) rfl (by rfl) (by go_simp) _ (mac_any _ _ sec (byt s) rc fc _ (GV.below hb2) (HV.out.2.secIn.below (w1 := w2) ⟨hb2.os, hb2.tape, hb2.output, hb2.size, hb2.block⟩) HV.out.2.secl hin2 (by rw [byt_length]; omega)) ?_)
  rintro e w3 ⟨he, hb3⟩
  have hb : Below V.heap.size V w3 := by
    have h := hb2.trans (hb3.mono hb2.size)
    exact ⟨h.os, h.tape, h.output, h.size, h.block⟩
  refine ⟨.agg (encA .u8 ms), by rw [he, Hm.out], (Kept.ofBelow hb2 _).trans (Kept.ofBelow hb3 _), ?_⟩
  simp only [Act.put, List.setIfInBounds_toArray, List.set_cons_zero, List.set_cons_succ]
  have R3 := HV.out.2.below hb
  refine reg_one 12 (by kernel_rfl) (op_wp rfl (by rfl) (wp_mapUpdate_D _ _ _ 84 rfl lawS Tryd.underlying84 b1 n1 D1 rfl R3.keys hn1 _ ks ms rfl rfl hml Hks.out ?_))
  intro w4 hown4 hgr4
  refine ⟨((Kept.ofBelow hb2 _).trans (Kept.ofBelow hb3 _)).trans (Kept.ofGrown hgr4 rfl), ?_⟩
  simp only [Act.put, List.setIfInBounds_toArray, List.set_cons_zero, List.set_cons_succ]
  refine reg_done (by kernel_rfl) ?_
  refine NoPanic.normal ?_
  have hk34 : Kept w3 w4 (· = b1) := Kept.ofGrown hgr4 rfl
  have hr4 : w4.heap[r]? = some (.cells #[.int .i32 1, .int .u32 0, sv, .map (some b1), .map (some b2)] 87 (0, 0)) := by rw [hk34.block _ R3.lt R3.r1]; exact R3.row
  have hk4 : Kept w w4 (fun k => k = r ∨ k = b1) := ((HV.out.1.mono fun k e => .inl e).trans (Kept.ofBelow hb _)).trans (hk34.mono fun k e => .inr e)
  have H4 := Lib.hid (And.intro hr4 (And.intro hk4 hown4))
  clear hk34 hr4 hk4 hown4 hgr4 R3
  go_wp2_with fail
  refine leaves_cons (f := 40) (args := #[.pointer (some ⟨r, 0, none⟩)]) (by simp) (by simp [go_sem]) ?_
  refine (unlock_deferred muLib ⟨r, 0, none⟩ .returning _ (by rw [cell_of_row _ _ _ _ _ _ H4.out.1]; rfl) (frozen_of_row _ _ _ _ _ H4.out.1)).mono ?_
  rintro e u' w'' ⟨rfl, rfl, rfl⟩
  have hrZ : (w4.setCell ⟨r, 0, none⟩ (.int .i32 0)).heap[r]? = some (.cells #[.int .i32 0, .int .u32 0, sv, .map (some b1), .map (some b2)] 87 (0, 0)) := heap_setCell_same _ _ _ _ _ _ H4.out.1
  have hkZ : Kept w (w4.setCell ⟨r, 0, none⟩ (.int .i32 0)) (fun k => k = r ∨ k = b1) := H4.out.2.1.set (.inl rfl)
  have hoZ : (w4.setCell ⟨r, 0, none⟩ (.int .i32 0)).ownsMap Tryd.prog 9 digR b1 (n1 + 1) (D1.put ks (dat ms)) :=
    H4.out.2.2.kept (grown_set (World.grownBy.refl w4 (some r)) _ _) (fun e => by injection e with e; exact HR.out.r1 e.symm)
  have hfin : w.grownBy (w4.setCell ⟨r, 0, none⟩ (.int .i32 0)) (some b1) := (hkZ.same (T := (· = b1)) (g := r) (fun k hk => hk.symm) (by rw [hrZ, HR.out.row])).toGrown
  exact ⟨_, results_tmp rfl _ _ _, rfl, by rw [← Hm.out]; exact HR.out.enrolls hkZ hrZ hoZ, hfin⟩
end Go.Proofs.YthgebhndhilhkaaDoor
