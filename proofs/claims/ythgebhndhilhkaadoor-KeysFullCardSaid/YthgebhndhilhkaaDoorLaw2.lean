/- hearsaylaw18: signedToo. -/
import Derived.Test.YthgebhndhilhkaaDoorPair0
namespace Go.Proofs.YthgebhndhilhkaaDoor
open Go.RowKit Go.MuLone Go.Maps

def matchAt (ps : List Pr) (ss : List (List Int)) (p : Pr) (s : List Int) (j : Nat) : Prop := ∃ (q : Pr) (d : List Int), ps[j]? = some q ∧ ss[j]? = some d ∧ nm q.1 = nm p.1 ∧ q.2 = p.2 ∧ d = s
theorem toList_inj {a b : ByteArray} : a.toList = b.toList ↔ a = b := by
  rw [ByteArray.toList_eq, ByteArray.toList_eq]
  obtain ⟨⟨x⟩⟩ := a
  obtain ⟨⟨y⟩⟩ := b
  simp

set_option maxRecDepth 100000 in
set_option maxHeartbeats 2000000 in
theorem signedToo_any (av sv : Value) (ps : List Pr) (ss : List (List Int)) (p : Pr) (s : List Int) (w : World) (ha : FlatIn w av 33 (ps.flatMap pc)) (hs : FlatIn w sv 32 (ss.flatMap dc))
    (hp : ∀ q ∈ ps, q.2.length = 32) (hss : ∀ d ∈ ss, d.length = 32) (hlen : ss.length = ps.length) (hpl : p.2.length = 32) (hsl : s.length = 32) (hbig : ps.length ≤ 1000000)
    (hex : ∃ j, matchAt ps ss p s j) :
    Calls Tryd.prog 13 #[av, sv, .agg (pc p).toArray, .agg (encA .u8 s)] w fun e w' => e = .returned (.bool true) ∧ Below w.heap.size w w' := by
  obtain ⟨A, ac, rfl, hA⟩ := ha.shape (m := ps.length) (by rw [flat_length pc 33 ps (fun x hx => pc_length (hp x hx))]) (by decide)
  obtain ⟨S, sc, rfl, hS⟩ := hs.shape (m := ss.length) (by rw [flat_length dc 32 ss (fun x hx => by simp [dc, hss x hx])]) (by decide)
  have HA := Lib.hid hA
  have HS := Lib.hid hS
  have Hex := Lib.hid hex
  clear ha hs hA hS hex
  go_enter Tryd.func13, Tryd.ntmps13
  go_wp2_with fail
  have hB0 : Below w.heap.size w ((w.alloc (.cells (pc p).toArray 35)).alloc (.cells (encA .u8 s) 27)) := ((Below.refl _ _).alloc (Nat.le_refl _) _).alloc (by simp) _
  have hX0 : ((w.alloc (.cells (pc p).toArray 35)).alloc (.cells (encA .u8 s) 27)).heap[w.heap.size]? = some (.cells (pc p).toArray 35 (0, 0)) := heap_alloc2_old _ _ _
  have hX1 : ((w.alloc (.cells (pc p).toArray 35)).alloc (.cells (encA .u8 s) 27)).heap[w.heap.size + 1]? = some (.cells (encA .u8 s) 27 (0, 0)) := heap_alloc2_new _ _ _
  have hsz : ((w.alloc (.cells (pc p).toArray 35)).alloc (.cells (encA .u8 s) 27)).heap.size = w.heap.size + 2 := by simp
  generalize (w.alloc (.cells (pc p).toArray 35)).alloc (.cells (encA .u8 s) 27) = W0 at *
  have HX := Lib.hid (And.intro hB0 (And.intro hX0 (And.intro hX1 hsz)))
  clear hB0 hX0 hX1 hsz
  go_loopw [9] (fun i wr => ∃ k : Nat, k ≤ ps.length ∧ i = .int .i64 k ∧ Below W0.heap.size W0 wr ∧ ∀ j, j < k → ¬ matchAt ps ss p s j) (fun i _ => ps.length - (intOf i).toNat)
  case atStart => exact ⟨0, by omega, rfl, Below.refl _ _, fun j hj => absurd hj (Nat.not_lt_zero _)⟩
  case round =>
    obtain ⟨k, hk, rfl, hB, hno⟩ := hrel
    by_cases hlt : k < ps.length
    · obtain ⟨gb, ob, rfl, hra⟩ := HA.out (by omega)
      obtain ⟨sg, so, rfl, hrs⟩ := HS.out (by omega)
      obtain ⟨q, hq⟩ : ∃ q : Pr, ps[k]? = some q := ⟨_, List.getElem?_eq_getElem hlt⟩
      obtain ⟨d, hd⟩ : ∃ d, ss[k]? = some d := ⟨_, List.getElem?_eq_getElem (by omega)⟩
      have hq2 := hp q (List.mem_of_getElem? hq)
      have hd2 := hss d (List.mem_of_getElem? hd)
      have hlt2 : k < ss.length := by omega
      have Hno := Lib.hid hno
      have HB := Lib.hid hB
      have Hra := Lib.hid hra
      have Hrs := Lib.hid hrs
      clear hno hB hra hrs
      have hS0 := HX.out.2.2.2
      have hk0 : Kept w wr (fun _ => False) := (Kept.ofBelow HX.out.1 _).trans (Kept.ofBelow HB.out _)
      have hq0 : ∀ w', Kept wr.drew w' (fun _ => False) → w'.cell? ⟨gb, ob + k * 33, none⟩ = some (.int .i64 q.1) := fun w' h => keptCell (hk0.trans h.undrew) (fun e => e) (pair_cell hp Hra.out hq).1
      have hqr : ∀ w', Kept wr.drew w' (fun _ => False) → w'.rangeAt gb (ob + k * 33 + 1) (dc q.2) := fun w' h => rangeAt_kept (hk0.trans h.undrew) (fun e => e) (pair_cell hp Hra.out hq).2
      have hsr : ∀ w', Kept wr.drew w' (fun _ => False) → w'.rangeAt sg (so + k * 32) (dc d) := fun w' h => rangeAt_kept (hk0.trans h.undrew) (fun e => e) (dig_cell hss Hrs.out hd)
      have hpb : wr.heap[w.heap.size]? = some (.cells (pc p).toArray 35 (0, 0)) := by rw [HB.out.block _ (by omega)]; exact HX.out.2.1
      have hsb : wr.heap[w.heap.size + 1]? = some (.cells (encA .u8 s) 27 (0, 0)) := by rw [HB.out.block _ (by omega)]; exact HX.out.2.2.1
      have hp0 : ∀ w', Kept wr.drew w' (fun _ => False) → w'.cell? ⟨w.heap.size, 0, none⟩ = some (.int .i64 p.1) := fun w' h => by
        rw [cell_of_row _ _ _ _ _ _ ((h.block _ (Array.getElem?_eq_some_iff.1 hpb).1 (fun e => e)).trans hpb)]; rfl
      have hpr : ∀ w', Kept wr.drew w' (fun _ => False) → w'.rangeAt w.heap.size 1 (dc p.2) := fun w' h j v hv => by
        rw [cell_of_row _ _ _ _ _ _ ((h.block _ (Array.getElem?_eq_some_iff.1 hpb).1 (fun e => e)).trans hpb)]
        rw [Nat.add_comm]
        simpa [pc, dc] using hv
      have hs1 : ∀ w', Kept wr.drew w' (fun _ => False) → w'.rangeAt (w.heap.size + 1) 0 (dc s) := fun w' h => keptRow h (fun e => e) hsb
      have Hq0 := Lib.hid hq0
      have Hqr := Lib.hid hqr
      have Hsr := Lib.hid hsr
      have Hp0 := Lib.hid hp0
      have Hpr := Lib.hid hpr
      have Hs1 := Lib.hid hs1
      clear hq0 hqr hsr hpb hsb hp0 hpr hs1
      by_cases hnm : (nm q.1).toList = (nm p.1).toList
      · have hnb : ((nm q.1).toList == (nm p.1).toList) = true := by simpa using hnm
        by_cases hdd : q.2 = p.2
        · by_cases hds : d = s
          · have hdt : decide (q.2 = p.2) = true := decide_eq_true hdd
            have hst : decide (d = s) = true := decide_eq_true hds
            have heq1 : ∀ W : World, (Op.equalIn 10000 27 (.agg (dc q.2).toArray) (.agg (dc p.2).toArray)).run Tryd.prog W = .ok true W := fun W => by rw [show (dc q.2).toArray = encA .u8 q.2 from rfl, show (dc p.2).toArray = encA .u8 p.2 from rfl, eq_D W _ _ hq2 hpl, hdt]
            have heq2 : ∀ W : World, (Op.equalIn 10000 27 (.agg (dc d).toArray) (.agg (dc s).toArray)).run Tryd.prog W = .ok true W := fun W => by rw [show (dc d).toArray = encA .u8 d from rfl, show (dc s).toArray = encA .u8 s from rfl, eq_D W _ _ hd2 hsl, hst]
            have Hdd := Lib.hid hdd
            have Hds := Lib.hid hds
            clear hdt hst hdd hds
            go_upto_region 4 with fail
            refine reg_start (fun w' => Kept wr.drew w' (fun _ => False)) (by kernel_rfl) ?_
            simp only [List.length_cons, List.length_nil, Nat.zero_add, Nat.reduceAdd]
            refine reg_take 0 (v := ?_) rfl (by kernel_rfl) (by kernel_rfl) (by kernel_rfl) (fun _ _ _ h => h) (by first | exact Kept.refl _ _ | exact (Kept.refl _ _).alloc _ | assumption | exact Kept.alloc (by assumption) _) (yield_val (by rfl) ?_) ?_
            rotate_left
            · intro w hSw; go_simp <;> with_reducible rfl
            simp only [Act.put, List.setIfInBounds_toArray, List.set_cons_zero, List.set_cons_succ]
            refine reg_take 1 (v := ?_) rfl (by kernel_rfl) (by kernel_rfl) (by kernel_rfl) (fun _ _ _ h => h) (by first | exact Kept.refl _ _ | exact (Kept.refl _ _).alloc _ | assumption | exact Kept.alloc (by assumption) _) (yield_val (by rfl) ?_) ?_
            rotate_left
            · intro w hSw; go_simp <;> with_reducible rfl
            simp only [Act.put, List.setIfInBounds_toArray, List.set_cons_zero, List.set_cons_succ]
            refine reg_take 2 (v := ?_) rfl (by kernel_rfl) (by kernel_rfl) (by kernel_rfl) (fun _ _ _ h => h) (by first | exact Kept.refl _ _ | exact (Kept.refl _ _).alloc _ | assumption | exact Kept.alloc (by assumption) _) (yield_val (by rfl) ?_) ?_
            rotate_left
            · intro w hSw; go_simp <;> with_reducible rfl
            simp only [Act.put, List.setIfInBounds_toArray, List.set_cons_zero, List.set_cons_succ]
            refine reg_take 3 (v := ?_) rfl (by kernel_rfl) (by kernel_rfl) (by kernel_rfl) (fun _ _ _ h => h) (by first | exact Kept.refl _ _ | exact (Kept.refl _ _).alloc _ | assumption | exact Kept.alloc (by assumption) _) (yield_val (by rfl) ?_) ?_
            rotate_left
            · intro w hSw; go_simp <;> with_reducible rfl
            simp only [Act.put, List.setIfInBounds_toArray, List.set_cons_zero, List.set_cons_succ]
            refine reg_take 6 (v := ?_) rfl (by kernel_rfl) (by kernel_rfl) (by kernel_rfl) (fun _ _ _ h => h) (by first | exact Kept.refl _ _ | exact (Kept.refl _ _).alloc _ | assumption | exact Kept.alloc (by assumption) _) (yield_val (by rfl) ?_) ?_
            rotate_left
            · intro w hSw; go_simp <;> with_reducible rfl
            simp only [Act.put, List.setIfInBounds_toArray, List.set_cons_zero, List.set_cons_succ]
            refine reg_take 4 (v := ?_) rfl (by kernel_rfl) (by kernel_rfl) (by kernel_rfl) (fun _ _ _ h => h) (by first | exact Kept.refl _ _ | exact (Kept.refl _ _).alloc _ | assumption | exact Kept.alloc (by assumption) _) (yield_val (by rfl) ?_) ?_
            rotate_left
            · intro w hSw; have hx0 := Hq0.out w hSw; go_simp <;> with_reducible rfl
            simp only [Act.put, List.setIfInBounds_toArray, List.set_cons_zero, List.set_cons_succ]
            refine reg_take 7 (v := ?_) rfl (by kernel_rfl) (by kernel_rfl) (by kernel_rfl) (fun _ _ _ h => h) (by first | exact Kept.refl _ _ | exact (Kept.refl _ _).alloc _ | assumption | exact Kept.alloc (by assumption) _) (yield_val (by rfl) ?_) ?_
            rotate_left
            · intro w hSw; have hx0 := Hp0.out w hSw; go_simp <;> with_reducible rfl
            simp only [Act.put, List.setIfInBounds_toArray, List.set_cons_zero, List.set_cons_succ]
            refine reg_one 5 (by kernel_rfl) (op_call (f := 10) (args := #[.int .i64 q.1]) rfl (by rfl) (by go_simp <;> rfl) _ (name_any _ _) ?_)
            rintro e w1 ⟨rfl, hK1b⟩
            have hK1 : Kept wr.drew w1 (fun _ => False) := (Kept.refl _ _).trans (Kept.ofBelow hK1b _)
            refine ⟨_, rfl, hK1, ?_⟩
            simp only [Act.put, List.setIfInBounds_toArray, List.set_cons_zero, List.set_cons_succ]
            refine reg_one 8 (by kernel_rfl) (op_call (f := 10) (args := #[.int .i64 p.1]) rfl (by rfl) (by go_simp <;> rfl) _ (name_any _ _) ?_)
            rintro e w2 ⟨rfl, hK2b⟩
            have hK2 : Kept wr.drew w2 (fun _ => False) := (hK1).trans (Kept.ofBelow hK2b _)
            refine ⟨_, rfl, hK2, ?_⟩
            simp only [Act.put, List.setIfInBounds_toArray, List.set_cons_zero, List.set_cons_succ]
            refine reg_take 9 (v := ?_) rfl (by kernel_rfl) (by kernel_rfl) (by kernel_rfl) (fun _ _ _ h => h) (by first | exact Kept.refl _ _ | exact (Kept.refl _ _).alloc _ | assumption | exact Kept.alloc (by assumption) _) (yield_val (by rfl) ?_) ?_
            rotate_left
            · intro w hSw; go_simp <;> with_reducible rfl
            simp only [Act.put, List.setIfInBounds_toArray, List.set_cons_zero, List.set_cons_succ]
            refine reg_take 10 (v := ?_) rfl (by kernel_rfl) (by kernel_rfl) (by kernel_rfl) (fun _ _ _ h => h) (by first | exact Kept.refl _ _ | exact (Kept.refl _ _).alloc _ | assumption | exact Kept.alloc (by assumption) _) (yield_val (by rfl) ?_) ?_
            rotate_left
            · intro w hSw; go_simp <;> with_reducible rfl
            simp only [Act.put, List.setIfInBounds_toArray, List.set_cons_zero, List.set_cons_succ]
            refine reg_take 11 (v := ?_) rfl (by kernel_rfl) (by kernel_rfl) (by kernel_rfl) (fun _ _ _ h => h) (by first | exact Kept.refl _ _ | exact (Kept.refl _ _).alloc _ | assumption | exact Kept.alloc (by assumption) _) (yield_val (by rfl) ?_) ?_
            rotate_left
            · intro w hSw; go_simp <;> with_reducible rfl
            simp only [Act.put, List.setIfInBounds_toArray, List.set_cons_zero, List.set_cons_succ]
            refine reg_take 12 (v := ?_) rfl (by kernel_rfl) (by kernel_rfl) (by kernel_rfl) (fun _ _ _ h => h) (by first | exact Kept.refl _ _ | exact (Kept.refl _ _).alloc _ | assumption | exact Kept.alloc (by assumption) _) (yield_val (by rfl) ?_) ?_
            rotate_left
            · intro w hSw; go_simp <;> with_reducible rfl
            simp only [Act.put, List.setIfInBounds_toArray, List.set_cons_zero, List.set_cons_succ]
            refine reg_take 13 (v := ?_) rfl (by kernel_rfl) (by kernel_rfl) (by kernel_rfl) (fun _ _ _ h => h) (by first | exact Kept.refl _ _ | exact (Kept.refl _ _).alloc _ | assumption | exact Kept.alloc (by assumption) _) (yield_val (by rfl) ?_) ?_
            rotate_left
            · intro w hSw; go_simp <;> with_reducible rfl
            simp only [Act.put, List.setIfInBounds_toArray, List.set_cons_zero, List.set_cons_succ]
            refine reg_take 14 (v := ?_) rfl (by kernel_rfl) (by kernel_rfl) (by kernel_rfl) (fun _ _ _ h => h) (by first | exact Kept.refl _ _ | exact (Kept.refl _ _).alloc _ | assumption | exact Kept.alloc (by assumption) _) (yield_val (by rfl) ?_) ?_
            rotate_left
            · intro w hSw; go_simp <;> with_reducible rfl
            simp only [Act.put, List.setIfInBounds_toArray, List.set_cons_zero, List.set_cons_succ]
            refine reg_take 15 rfl (by kernel_rfl) (by kernel_rfl) (by kernel_rfl) (fun _ _ _ h => h) (by first | exact Kept.refl _ _ | exact (Kept.refl _ _).alloc _ | assumption | exact Kept.alloc (by assumption) _) (yieldsIf_load_mid (by rfl) 27 _ rfl gb (ob + k * 33 + 1) rfl (dc q.2) _ Hqr.out Tryd.underlying27 rfl (by simp only [dc, List.length_map, hq2]; exact sz_d)) ?_
            simp only [Act.put, List.setIfInBounds_toArray, List.set_cons_zero, List.set_cons_succ]
            refine reg_take 16 (v := ?_) rfl (by kernel_rfl) (by kernel_rfl) (by kernel_rfl) (fun _ _ _ h => h) (by first | exact Kept.refl _ _ | exact (Kept.refl _ _).alloc _ | assumption | exact Kept.alloc (by assumption) _) (yield_val (by rfl) ?_) ?_
            rotate_left
            · intro w hSw; go_simp <;> with_reducible rfl
            simp only [Act.put, List.setIfInBounds_toArray, List.set_cons_zero, List.set_cons_succ]
            refine reg_take 17 rfl (by kernel_rfl) (by kernel_rfl) (by kernel_rfl) (fun _ _ _ h => h) (by first | exact Kept.refl _ _ | exact (Kept.refl _ _).alloc _ | assumption | exact Kept.alloc (by assumption) _) (yieldsIf_load_mid (by rfl) 27 _ rfl w.heap.size 1 rfl (dc p.2) _ Hpr.out Tryd.underlying27 rfl (by simp only [dc, List.length_map, hpl]; exact sz_d)) ?_
            simp only [Act.put, List.setIfInBounds_toArray, List.set_cons_zero, List.set_cons_succ]
            refine reg_take 18 (v := ?_) rfl (by kernel_rfl) (by kernel_rfl) (by kernel_rfl) (fun _ _ _ h => h) (by first | exact Kept.refl _ _ | exact (Kept.refl _ _).alloc _ | assumption | exact Kept.alloc (by assumption) _) (yield_val (by rfl) ?_) ?_
            rotate_left
            · intro w hSw; go_simp <;> with_reducible rfl
            simp only [Act.put, List.setIfInBounds_toArray, List.set_cons_zero, List.set_cons_succ]
            refine reg_take 19 (v := ?_) rfl (by kernel_rfl) (by kernel_rfl) (by kernel_rfl) (fun _ _ _ h => h) (by first | exact Kept.refl _ _ | exact (Kept.refl _ _).alloc _ | assumption | exact Kept.alloc (by assumption) _) (yield_val (by rfl) ?_) ?_
            rotate_left
            · intro w hSw; go_simp <;> with_reducible rfl
            simp only [Act.put, List.setIfInBounds_toArray, List.set_cons_zero, List.set_cons_succ]
            refine reg_take 20 (v := ?_) rfl (by kernel_rfl) (by kernel_rfl) (by kernel_rfl) (fun _ _ _ h => h) (by first | exact Kept.refl _ _ | exact (Kept.refl _ _).alloc _ | assumption | exact Kept.alloc (by assumption) _) (yield_val (by rfl) ?_) ?_
            rotate_left
            · intro w hSw; go_simp <;> with_reducible rfl
            simp only [Act.put, List.setIfInBounds_toArray, List.set_cons_zero, List.set_cons_succ]
            refine reg_take 21 (v := ?_) rfl (by kernel_rfl) (by kernel_rfl) (by kernel_rfl) (fun _ _ _ h => h) (by first | exact Kept.refl _ _ | exact (Kept.refl _ _).alloc _ | assumption | exact Kept.alloc (by assumption) _) (yield_val (by rfl) ?_) ?_
            rotate_left
            · intro w hSw; go_simp <;> with_reducible rfl
            simp only [Act.put, List.setIfInBounds_toArray, List.set_cons_zero, List.set_cons_succ]
            refine reg_take 22 (v := ?_) rfl (by kernel_rfl) (by kernel_rfl) (by kernel_rfl) (fun _ _ _ h => h) (by first | exact Kept.refl _ _ | exact (Kept.refl _ _).alloc _ | assumption | exact Kept.alloc (by assumption) _) (yield_val (by rfl) ?_) ?_
            rotate_left
            · intro w hSw; go_simp <;> with_reducible rfl
            simp only [Act.put, List.setIfInBounds_toArray, List.set_cons_zero, List.set_cons_succ]
            refine reg_take 23 (v := ?_) rfl (by kernel_rfl) (by kernel_rfl) (by kernel_rfl) (fun _ _ _ h => h) (by first | exact Kept.refl _ _ | exact (Kept.refl _ _).alloc _ | assumption | exact Kept.alloc (by assumption) _) (yield_val (by rfl) ?_) ?_
            rotate_left
            · intro w hSw; go_simp <;> with_reducible rfl
            simp only [Act.put, List.setIfInBounds_toArray, List.set_cons_zero, List.set_cons_succ]
            refine reg_take 24 rfl (by kernel_rfl) (by kernel_rfl) (by kernel_rfl) (fun _ _ _ h => h) (by first | exact Kept.refl _ _ | exact (Kept.refl _ _).alloc _ | assumption | exact Kept.alloc (by assumption) _) (yieldsIf_load_mid (by rfl) 27 _ rfl sg (so + k * 32) rfl (dc d) _ Hsr.out Tryd.underlying27 rfl (by simp only [dc, List.length_map, hd2]; exact sz_d)) ?_
            simp only [Act.put, List.setIfInBounds_toArray, List.set_cons_zero, List.set_cons_succ]
            refine reg_take 25 rfl (by kernel_rfl) (by kernel_rfl) (by kernel_rfl) (fun _ _ _ h => h) (by first | exact Kept.refl _ _ | exact (Kept.refl _ _).alloc _ | assumption | exact Kept.alloc (by assumption) _) (yieldsIf_load_mid (by rfl) 27 _ rfl (w.heap.size + 1) 0 rfl (dc s) _ Hs1.out Tryd.underlying27 rfl (by simp only [dc, List.length_map, hsl]; exact sz_d)) ?_
            simp only [Act.put, List.setIfInBounds_toArray, List.set_cons_zero, List.set_cons_succ]
            refine reg_take 26 (v := ?_) rfl (by kernel_rfl) (by kernel_rfl) (by kernel_rfl) (fun _ _ _ h => h) (by first | exact Kept.refl _ _ | exact (Kept.refl _ _).alloc _ | assumption | exact Kept.alloc (by assumption) _) (yield_val (by rfl) ?_) ?_
            rotate_left
            · intro w hSw; go_simp <;> with_reducible rfl
            simp only [Act.put, List.setIfInBounds_toArray, List.set_cons_zero, List.set_cons_succ]
            refine reg_take 27 (v := ?_) rfl (by kernel_rfl) (by kernel_rfl) (by kernel_rfl) (fun _ _ _ h => h) (by first | exact Kept.refl _ _ | exact (Kept.refl _ _).alloc _ | assumption | exact Kept.alloc (by assumption) _) (yield_val (by rfl) ?_) ?_
            rotate_left
            · intro w hSw; go_simp <;> with_reducible rfl
            simp only [Act.put, List.setIfInBounds_toArray, List.set_cons_zero, List.set_cons_succ]
            refine reg_done (by kernel_rfl) ?_
            have hfin : Below w.heap.size w w2 := HX.out.1.trans ((((Kept.ofBelow HB.out (fun _ => False)).trans hK2.undrew).toBelow).mono HX.out.1.size)
            go_wp2_with fail
            go_ret
            exact ⟨rfl, hfin⟩
          · have hdt : decide (q.2 = p.2) = true := decide_eq_true hdd
            have hst : decide (d = s) = false := decide_eq_false hds
            have heq1 : ∀ W : World, (Op.equalIn 10000 27 (.agg (dc q.2).toArray) (.agg (dc p.2).toArray)).run Tryd.prog W = .ok true W := fun W => by rw [show (dc q.2).toArray = encA .u8 q.2 from rfl, show (dc p.2).toArray = encA .u8 p.2 from rfl, eq_D W _ _ hq2 hpl, hdt]
            have heq2 : ∀ W : World, (Op.equalIn 10000 27 (.agg (dc d).toArray) (.agg (dc s).toArray)).run Tryd.prog W = .ok false W := fun W => by rw [show (dc d).toArray = encA .u8 d from rfl, show (dc s).toArray = encA .u8 s from rfl, eq_D W _ _ hd2 hsl, hst]
            have Hdd := Lib.hid hdd
            have Hds := Lib.hid hds
            clear hdt hst hdd hds
            go_upto_region 4 with fail
            refine reg_start (fun w' => Kept wr.drew w' (fun _ => False)) (by kernel_rfl) ?_
            simp only [List.length_cons, List.length_nil, Nat.zero_add, Nat.reduceAdd]
            refine reg_take 0 (v := ?_) rfl (by kernel_rfl) (by kernel_rfl) (by kernel_rfl) (fun _ _ _ h => h) (by first | exact Kept.refl _ _ | exact (Kept.refl _ _).alloc _ | assumption | exact Kept.alloc (by assumption) _) (yield_val (by rfl) ?_) ?_
            rotate_left
            · intro w hSw; go_simp <;> with_reducible rfl
            simp only [Act.put, List.setIfInBounds_toArray, List.set_cons_zero, List.set_cons_succ]
            refine reg_take 1 (v := ?_) rfl (by kernel_rfl) (by kernel_rfl) (by kernel_rfl) (fun _ _ _ h => h) (by first | exact Kept.refl _ _ | exact (Kept.refl _ _).alloc _ | assumption | exact Kept.alloc (by assumption) _) (yield_val (by rfl) ?_) ?_
            rotate_left
            · intro w hSw; go_simp <;> with_reducible rfl
            simp only [Act.put, List.setIfInBounds_toArray, List.set_cons_zero, List.set_cons_succ]
            refine reg_take 2 (v := ?_) rfl (by kernel_rfl) (by kernel_rfl) (by kernel_rfl) (fun _ _ _ h => h) (by first | exact Kept.refl _ _ | exact (Kept.refl _ _).alloc _ | assumption | exact Kept.alloc (by assumption) _) (yield_val (by rfl) ?_) ?_
            rotate_left
            · intro w hSw; go_simp <;> with_reducible rfl
            simp only [Act.put, List.setIfInBounds_toArray, List.set_cons_zero, List.set_cons_succ]
            refine reg_take 3 (v := ?_) rfl (by kernel_rfl) (by kernel_rfl) (by kernel_rfl) (fun _ _ _ h => h) (by first | exact Kept.refl _ _ | exact (Kept.refl _ _).alloc _ | assumption | exact Kept.alloc (by assumption) _) (yield_val (by rfl) ?_) ?_
            rotate_left
            · intro w hSw; go_simp <;> with_reducible rfl
            simp only [Act.put, List.setIfInBounds_toArray, List.set_cons_zero, List.set_cons_succ]
            refine reg_take 6 (v := ?_) rfl (by kernel_rfl) (by kernel_rfl) (by kernel_rfl) (fun _ _ _ h => h) (by first | exact Kept.refl _ _ | exact (Kept.refl _ _).alloc _ | assumption | exact Kept.alloc (by assumption) _) (yield_val (by rfl) ?_) ?_
            rotate_left
            · intro w hSw; go_simp <;> with_reducible rfl
            simp only [Act.put, List.setIfInBounds_toArray, List.set_cons_zero, List.set_cons_succ]
            refine reg_take 4 (v := ?_) rfl (by kernel_rfl) (by kernel_rfl) (by kernel_rfl) (fun _ _ _ h => h) (by first | exact Kept.refl _ _ | exact (Kept.refl _ _).alloc _ | assumption | exact Kept.alloc (by assumption) _) (yield_val (by rfl) ?_) ?_
            rotate_left
            · intro w hSw; have hx0 := Hq0.out w hSw; go_simp <;> with_reducible rfl
            simp only [Act.put, List.setIfInBounds_toArray, List.set_cons_zero, List.set_cons_succ]
            refine reg_take 7 (v := ?_) rfl (by kernel_rfl) (by kernel_rfl) (by kernel_rfl) (fun _ _ _ h => h) (by first | exact Kept.refl _ _ | exact (Kept.refl _ _).alloc _ | assumption | exact Kept.alloc (by assumption) _) (yield_val (by rfl) ?_) ?_
            rotate_left
            · intro w hSw; have hx0 := Hp0.out w hSw; go_simp <;> with_reducible rfl
            simp only [Act.put, List.setIfInBounds_toArray, List.set_cons_zero, List.set_cons_succ]
            refine reg_one 5 (by kernel_rfl) (op_call (f := 10) (args := #[.int .i64 q.1]) rfl (by rfl) (by go_simp <;> rfl) _ (name_any _ _) ?_)
            rintro e w1 ⟨rfl, hK1b⟩
            have hK1 : Kept wr.drew w1 (fun _ => False) := (Kept.refl _ _).trans (Kept.ofBelow hK1b _)
            refine ⟨_, rfl, hK1, ?_⟩
            simp only [Act.put, List.setIfInBounds_toArray, List.set_cons_zero, List.set_cons_succ]
            refine reg_one 8 (by kernel_rfl) (op_call (f := 10) (args := #[.int .i64 p.1]) rfl (by rfl) (by go_simp <;> rfl) _ (name_any _ _) ?_)
            rintro e w2 ⟨rfl, hK2b⟩
            have hK2 : Kept wr.drew w2 (fun _ => False) := (hK1).trans (Kept.ofBelow hK2b _)
            refine ⟨_, rfl, hK2, ?_⟩
            simp only [Act.put, List.setIfInBounds_toArray, List.set_cons_zero, List.set_cons_succ]
            refine reg_take 9 (v := ?_) rfl (by kernel_rfl) (by kernel_rfl) (by kernel_rfl) (fun _ _ _ h => h) (by first | exact Kept.refl _ _ | exact (Kept.refl _ _).alloc _ | assumption | exact Kept.alloc (by assumption) _) (yield_val (by rfl) ?_) ?_
            rotate_left
            · intro w hSw; go_simp <;> with_reducible rfl
            simp only [Act.put, List.setIfInBounds_toArray, List.set_cons_zero, List.set_cons_succ]
            refine reg_take 10 (v := ?_) rfl (by kernel_rfl) (by kernel_rfl) (by kernel_rfl) (fun _ _ _ h => h) (by first | exact Kept.refl _ _ | exact (Kept.refl _ _).alloc _ | assumption | exact Kept.alloc (by assumption) _) (yield_val (by rfl) ?_) ?_
            rotate_left
            · intro w hSw; go_simp <;> with_reducible rfl
            simp only [Act.put, List.setIfInBounds_toArray, List.set_cons_zero, List.set_cons_succ]
            refine reg_take 11 (v := ?_) rfl (by kernel_rfl) (by kernel_rfl) (by kernel_rfl) (fun _ _ _ h => h) (by first | exact Kept.refl _ _ | exact (Kept.refl _ _).alloc _ | assumption | exact Kept.alloc (by assumption) _) (yield_val (by rfl) ?_) ?_
            rotate_left
            · intro w hSw; go_simp <;> with_reducible rfl
            simp only [Act.put, List.setIfInBounds_toArray, List.set_cons_zero, List.set_cons_succ]
            refine reg_take 12 (v := ?_) rfl (by kernel_rfl) (by kernel_rfl) (by kernel_rfl) (fun _ _ _ h => h) (by first | exact Kept.refl _ _ | exact (Kept.refl _ _).alloc _ | assumption | exact Kept.alloc (by assumption) _) (yield_val (by rfl) ?_) ?_
            rotate_left
            · intro w hSw; go_simp <;> with_reducible rfl
            simp only [Act.put, List.setIfInBounds_toArray, List.set_cons_zero, List.set_cons_succ]
            refine reg_take 13 (v := ?_) rfl (by kernel_rfl) (by kernel_rfl) (by kernel_rfl) (fun _ _ _ h => h) (by first | exact Kept.refl _ _ | exact (Kept.refl _ _).alloc _ | assumption | exact Kept.alloc (by assumption) _) (yield_val (by rfl) ?_) ?_
            rotate_left
            · intro w hSw; go_simp <;> with_reducible rfl
            simp only [Act.put, List.setIfInBounds_toArray, List.set_cons_zero, List.set_cons_succ]
            refine reg_take 14 (v := ?_) rfl (by kernel_rfl) (by kernel_rfl) (by kernel_rfl) (fun _ _ _ h => h) (by first | exact Kept.refl _ _ | exact (Kept.refl _ _).alloc _ | assumption | exact Kept.alloc (by assumption) _) (yield_val (by rfl) ?_) ?_
            rotate_left
            · intro w hSw; go_simp <;> with_reducible rfl
            simp only [Act.put, List.setIfInBounds_toArray, List.set_cons_zero, List.set_cons_succ]
            refine reg_take 15 rfl (by kernel_rfl) (by kernel_rfl) (by kernel_rfl) (fun _ _ _ h => h) (by first | exact Kept.refl _ _ | exact (Kept.refl _ _).alloc _ | assumption | exact Kept.alloc (by assumption) _) (yieldsIf_load_mid (by rfl) 27 _ rfl gb (ob + k * 33 + 1) rfl (dc q.2) _ Hqr.out Tryd.underlying27 rfl (by simp only [dc, List.length_map, hq2]; exact sz_d)) ?_
            simp only [Act.put, List.setIfInBounds_toArray, List.set_cons_zero, List.set_cons_succ]
            refine reg_take 16 (v := ?_) rfl (by kernel_rfl) (by kernel_rfl) (by kernel_rfl) (fun _ _ _ h => h) (by first | exact Kept.refl _ _ | exact (Kept.refl _ _).alloc _ | assumption | exact Kept.alloc (by assumption) _) (yield_val (by rfl) ?_) ?_
            rotate_left
            · intro w hSw; go_simp <;> with_reducible rfl
            simp only [Act.put, List.setIfInBounds_toArray, List.set_cons_zero, List.set_cons_succ]
            refine reg_take 17 rfl (by kernel_rfl) (by kernel_rfl) (by kernel_rfl) (fun _ _ _ h => h) (by first | exact Kept.refl _ _ | exact (Kept.refl _ _).alloc _ | assumption | exact Kept.alloc (by assumption) _) (yieldsIf_load_mid (by rfl) 27 _ rfl w.heap.size 1 rfl (dc p.2) _ Hpr.out Tryd.underlying27 rfl (by simp only [dc, List.length_map, hpl]; exact sz_d)) ?_
            simp only [Act.put, List.setIfInBounds_toArray, List.set_cons_zero, List.set_cons_succ]
            refine reg_take 18 (v := ?_) rfl (by kernel_rfl) (by kernel_rfl) (by kernel_rfl) (fun _ _ _ h => h) (by first | exact Kept.refl _ _ | exact (Kept.refl _ _).alloc _ | assumption | exact Kept.alloc (by assumption) _) (yield_val (by rfl) ?_) ?_
            rotate_left
            · intro w hSw; go_simp <;> with_reducible rfl
            simp only [Act.put, List.setIfInBounds_toArray, List.set_cons_zero, List.set_cons_succ]
            refine reg_take 19 (v := ?_) rfl (by kernel_rfl) (by kernel_rfl) (by kernel_rfl) (fun _ _ _ h => h) (by first | exact Kept.refl _ _ | exact (Kept.refl _ _).alloc _ | assumption | exact Kept.alloc (by assumption) _) (yield_val (by rfl) ?_) ?_
            rotate_left
            · intro w hSw; go_simp <;> with_reducible rfl
            simp only [Act.put, List.setIfInBounds_toArray, List.set_cons_zero, List.set_cons_succ]
            refine reg_take 20 (v := ?_) rfl (by kernel_rfl) (by kernel_rfl) (by kernel_rfl) (fun _ _ _ h => h) (by first | exact Kept.refl _ _ | exact (Kept.refl _ _).alloc _ | assumption | exact Kept.alloc (by assumption) _) (yield_val (by rfl) ?_) ?_
            rotate_left
            · intro w hSw; go_simp <;> with_reducible rfl
            simp only [Act.put, List.setIfInBounds_toArray, List.set_cons_zero, List.set_cons_succ]
            refine reg_take 21 (v := ?_) rfl (by kernel_rfl) (by kernel_rfl) (by kernel_rfl) (fun _ _ _ h => h) (by first | exact Kept.refl _ _ | exact (Kept.refl _ _).alloc _ | assumption | exact Kept.alloc (by assumption) _) (yield_val (by rfl) ?_) ?_
            rotate_left
            · intro w hSw; go_simp <;> with_reducible rfl
            simp only [Act.put, List.setIfInBounds_toArray, List.set_cons_zero, List.set_cons_succ]
            refine reg_take 22 (v := ?_) rfl (by kernel_rfl) (by kernel_rfl) (by kernel_rfl) (fun _ _ _ h => h) (by first | exact Kept.refl _ _ | exact (Kept.refl _ _).alloc _ | assumption | exact Kept.alloc (by assumption) _) (yield_val (by rfl) ?_) ?_
            rotate_left
            · intro w hSw; go_simp <;> with_reducible rfl
            simp only [Act.put, List.setIfInBounds_toArray, List.set_cons_zero, List.set_cons_succ]
            refine reg_take 23 (v := ?_) rfl (by kernel_rfl) (by kernel_rfl) (by kernel_rfl) (fun _ _ _ h => h) (by first | exact Kept.refl _ _ | exact (Kept.refl _ _).alloc _ | assumption | exact Kept.alloc (by assumption) _) (yield_val (by rfl) ?_) ?_
            rotate_left
            · intro w hSw; go_simp <;> with_reducible rfl
            simp only [Act.put, List.setIfInBounds_toArray, List.set_cons_zero, List.set_cons_succ]
            refine reg_take 24 rfl (by kernel_rfl) (by kernel_rfl) (by kernel_rfl) (fun _ _ _ h => h) (by first | exact Kept.refl _ _ | exact (Kept.refl _ _).alloc _ | assumption | exact Kept.alloc (by assumption) _) (yieldsIf_load_mid (by rfl) 27 _ rfl sg (so + k * 32) rfl (dc d) _ Hsr.out Tryd.underlying27 rfl (by simp only [dc, List.length_map, hd2]; exact sz_d)) ?_
            simp only [Act.put, List.setIfInBounds_toArray, List.set_cons_zero, List.set_cons_succ]
            refine reg_take 25 rfl (by kernel_rfl) (by kernel_rfl) (by kernel_rfl) (fun _ _ _ h => h) (by first | exact Kept.refl _ _ | exact (Kept.refl _ _).alloc _ | assumption | exact Kept.alloc (by assumption) _) (yieldsIf_load_mid (by rfl) 27 _ rfl (w.heap.size + 1) 0 rfl (dc s) _ Hs1.out Tryd.underlying27 rfl (by simp only [dc, List.length_map, hsl]; exact sz_d)) ?_
            simp only [Act.put, List.setIfInBounds_toArray, List.set_cons_zero, List.set_cons_succ]
            refine reg_take 26 (v := ?_) rfl (by kernel_rfl) (by kernel_rfl) (by kernel_rfl) (fun _ _ _ h => h) (by first | exact Kept.refl _ _ | exact (Kept.refl _ _).alloc _ | assumption | exact Kept.alloc (by assumption) _) (yield_val (by rfl) ?_) ?_
            rotate_left
            · intro w hSw; go_simp <;> with_reducible rfl
            simp only [Act.put, List.setIfInBounds_toArray, List.set_cons_zero, List.set_cons_succ]
            refine reg_take 27 (v := ?_) rfl (by kernel_rfl) (by kernel_rfl) (by kernel_rfl) (fun _ _ _ h => h) (by first | exact Kept.refl _ _ | exact (Kept.refl _ _).alloc _ | assumption | exact Kept.alloc (by assumption) _) (yield_val (by rfl) ?_) ?_
            rotate_left
            · intro w hSw; go_simp <;> with_reducible rfl
            simp only [Act.put, List.setIfInBounds_toArray, List.set_cons_zero, List.set_cons_succ]
            refine reg_done (by kernel_rfl) ?_
            have hfin : Below W0.heap.size W0 w2 := ((Kept.ofBelow HB.out (fun _ => False)).trans hK2.undrew).toBelow
            go_wp2_with fail
            go_roundw
            case rel => exact ⟨k + 1, by omega, by go_num, hfin, fun j hj => by
              by_cases e : j = k
              · subst e
                rintro ⟨q', d', a1, a2, a3, a4, a5⟩
                rw [hq] at a1
                rw [hd] at a2
                injection a1 with a1
                injection a2 with a2
                subst a1; subst a2
                exact Hds.out a5
              · exact Hno.out j (by omega)⟩
            case measure => simp [intOf]; omega
        · have hdt : decide (q.2 = p.2) = false := decide_eq_false hdd
          have heq1 : ∀ W : World, (Op.equalIn 10000 27 (.agg (dc q.2).toArray) (.agg (dc p.2).toArray)).run Tryd.prog W = .ok false W := fun W => by rw [show (dc q.2).toArray = encA .u8 q.2 from rfl, show (dc p.2).toArray = encA .u8 p.2 from rfl, eq_D W _ _ hq2 hpl, hdt]
          have Hdd := Lib.hid hdd
          clear hdt hdd
          go_upto_region 4 with fail
          refine reg_start (fun w' => Kept wr.drew w' (fun _ => False)) (by kernel_rfl) ?_
          simp only [List.length_cons, List.length_nil, Nat.zero_add, Nat.reduceAdd]
          refine reg_take 0 (v := ?_) rfl (by kernel_rfl) (by kernel_rfl) (by kernel_rfl) (fun _ _ _ h => h) (by first | exact Kept.refl _ _ | exact (Kept.refl _ _).alloc _ | assumption | exact Kept.alloc (by assumption) _) (yield_val (by rfl) ?_) ?_
          rotate_left
          · intro w hSw; go_simp <;> with_reducible rfl
          simp only [Act.put, List.setIfInBounds_toArray, List.set_cons_zero, List.set_cons_succ]
          refine reg_take 1 (v := ?_) rfl (by kernel_rfl) (by kernel_rfl) (by kernel_rfl) (fun _ _ _ h => h) (by first | exact Kept.refl _ _ | exact (Kept.refl _ _).alloc _ | assumption | exact Kept.alloc (by assumption) _) (yield_val (by rfl) ?_) ?_
          rotate_left
          · intro w hSw; go_simp <;> with_reducible rfl
          simp only [Act.put, List.setIfInBounds_toArray, List.set_cons_zero, List.set_cons_succ]
          refine reg_take 2 (v := ?_) rfl (by kernel_rfl) (by kernel_rfl) (by kernel_rfl) (fun _ _ _ h => h) (by first | exact Kept.refl _ _ | exact (Kept.refl _ _).alloc _ | assumption | exact Kept.alloc (by assumption) _) (yield_val (by rfl) ?_) ?_
          rotate_left
          · intro w hSw; go_simp <;> with_reducible rfl
          simp only [Act.put, List.setIfInBounds_toArray, List.set_cons_zero, List.set_cons_succ]
          refine reg_take 3 (v := ?_) rfl (by kernel_rfl) (by kernel_rfl) (by kernel_rfl) (fun _ _ _ h => h) (by first | exact Kept.refl _ _ | exact (Kept.refl _ _).alloc _ | assumption | exact Kept.alloc (by assumption) _) (yield_val (by rfl) ?_) ?_
          rotate_left
          · intro w hSw; go_simp <;> with_reducible rfl
          simp only [Act.put, List.setIfInBounds_toArray, List.set_cons_zero, List.set_cons_succ]
          refine reg_take 6 (v := ?_) rfl (by kernel_rfl) (by kernel_rfl) (by kernel_rfl) (fun _ _ _ h => h) (by first | exact Kept.refl _ _ | exact (Kept.refl _ _).alloc _ | assumption | exact Kept.alloc (by assumption) _) (yield_val (by rfl) ?_) ?_
          rotate_left
          · intro w hSw; go_simp <;> with_reducible rfl
          simp only [Act.put, List.setIfInBounds_toArray, List.set_cons_zero, List.set_cons_succ]
          refine reg_take 4 (v := ?_) rfl (by kernel_rfl) (by kernel_rfl) (by kernel_rfl) (fun _ _ _ h => h) (by first | exact Kept.refl _ _ | exact (Kept.refl _ _).alloc _ | assumption | exact Kept.alloc (by assumption) _) (yield_val (by rfl) ?_) ?_
          rotate_left
          · intro w hSw; have hx0 := Hq0.out w hSw; go_simp <;> with_reducible rfl
          simp only [Act.put, List.setIfInBounds_toArray, List.set_cons_zero, List.set_cons_succ]
          refine reg_take 7 (v := ?_) rfl (by kernel_rfl) (by kernel_rfl) (by kernel_rfl) (fun _ _ _ h => h) (by first | exact Kept.refl _ _ | exact (Kept.refl _ _).alloc _ | assumption | exact Kept.alloc (by assumption) _) (yield_val (by rfl) ?_) ?_
          rotate_left
          · intro w hSw; have hx0 := Hp0.out w hSw; go_simp <;> with_reducible rfl
          simp only [Act.put, List.setIfInBounds_toArray, List.set_cons_zero, List.set_cons_succ]
          refine reg_one 5 (by kernel_rfl) (op_call (f := 10) (args := #[.int .i64 q.1]) rfl (by rfl) (by go_simp <;> rfl) _ (name_any _ _) ?_)
          rintro e w1 ⟨rfl, hK1b⟩
          have hK1 : Kept wr.drew w1 (fun _ => False) := (Kept.refl _ _).trans (Kept.ofBelow hK1b _)
          refine ⟨_, rfl, hK1, ?_⟩
          simp only [Act.put, List.setIfInBounds_toArray, List.set_cons_zero, List.set_cons_succ]
          refine reg_one 8 (by kernel_rfl) (op_call (f := 10) (args := #[.int .i64 p.1]) rfl (by rfl) (by go_simp <;> rfl) _ (name_any _ _) ?_)
          rintro e w2 ⟨rfl, hK2b⟩
          have hK2 : Kept wr.drew w2 (fun _ => False) := (hK1).trans (Kept.ofBelow hK2b _)
          refine ⟨_, rfl, hK2, ?_⟩
          simp only [Act.put, List.setIfInBounds_toArray, List.set_cons_zero, List.set_cons_succ]
          refine reg_take 9 (v := ?_) rfl (by kernel_rfl) (by kernel_rfl) (by kernel_rfl) (fun _ _ _ h => h) (by first | exact Kept.refl _ _ | exact (Kept.refl _ _).alloc _ | assumption | exact Kept.alloc (by assumption) _) (yield_val (by rfl) ?_) ?_
          rotate_left
          · intro w hSw; go_simp <;> with_reducible rfl
          simp only [Act.put, List.setIfInBounds_toArray, List.set_cons_zero, List.set_cons_succ]
          refine reg_take 10 (v := ?_) rfl (by kernel_rfl) (by kernel_rfl) (by kernel_rfl) (fun _ _ _ h => h) (by first | exact Kept.refl _ _ | exact (Kept.refl _ _).alloc _ | assumption | exact Kept.alloc (by assumption) _) (yield_val (by rfl) ?_) ?_
          rotate_left
          · intro w hSw; go_simp <;> with_reducible rfl
          simp only [Act.put, List.setIfInBounds_toArray, List.set_cons_zero, List.set_cons_succ]
          refine reg_take 11 (v := ?_) rfl (by kernel_rfl) (by kernel_rfl) (by kernel_rfl) (fun _ _ _ h => h) (by first | exact Kept.refl _ _ | exact (Kept.refl _ _).alloc _ | assumption | exact Kept.alloc (by assumption) _) (yield_val (by rfl) ?_) ?_
          rotate_left
          · intro w hSw; go_simp <;> with_reducible rfl
          simp only [Act.put, List.setIfInBounds_toArray, List.set_cons_zero, List.set_cons_succ]
          refine reg_take 12 (v := ?_) rfl (by kernel_rfl) (by kernel_rfl) (by kernel_rfl) (fun _ _ _ h => h) (by first | exact Kept.refl _ _ | exact (Kept.refl _ _).alloc _ | assumption | exact Kept.alloc (by assumption) _) (yield_val (by rfl) ?_) ?_
          rotate_left
          · intro w hSw; go_simp <;> with_reducible rfl
          simp only [Act.put, List.setIfInBounds_toArray, List.set_cons_zero, List.set_cons_succ]
          refine reg_take 13 (v := ?_) rfl (by kernel_rfl) (by kernel_rfl) (by kernel_rfl) (fun _ _ _ h => h) (by first | exact Kept.refl _ _ | exact (Kept.refl _ _).alloc _ | assumption | exact Kept.alloc (by assumption) _) (yield_val (by rfl) ?_) ?_
          rotate_left
          · intro w hSw; go_simp <;> with_reducible rfl
          simp only [Act.put, List.setIfInBounds_toArray, List.set_cons_zero, List.set_cons_succ]
          refine reg_take 14 (v := ?_) rfl (by kernel_rfl) (by kernel_rfl) (by kernel_rfl) (fun _ _ _ h => h) (by first | exact Kept.refl _ _ | exact (Kept.refl _ _).alloc _ | assumption | exact Kept.alloc (by assumption) _) (yield_val (by rfl) ?_) ?_
          rotate_left
          · intro w hSw; go_simp <;> with_reducible rfl
          simp only [Act.put, List.setIfInBounds_toArray, List.set_cons_zero, List.set_cons_succ]
          refine reg_take 15 rfl (by kernel_rfl) (by kernel_rfl) (by kernel_rfl) (fun _ _ _ h => h) (by first | exact Kept.refl _ _ | exact (Kept.refl _ _).alloc _ | assumption | exact Kept.alloc (by assumption) _) (yieldsIf_load_mid (by rfl) 27 _ rfl gb (ob + k * 33 + 1) rfl (dc q.2) _ Hqr.out Tryd.underlying27 rfl (by simp only [dc, List.length_map, hq2]; exact sz_d)) ?_
          simp only [Act.put, List.setIfInBounds_toArray, List.set_cons_zero, List.set_cons_succ]
          refine reg_take 16 (v := ?_) rfl (by kernel_rfl) (by kernel_rfl) (by kernel_rfl) (fun _ _ _ h => h) (by first | exact Kept.refl _ _ | exact (Kept.refl _ _).alloc _ | assumption | exact Kept.alloc (by assumption) _) (yield_val (by rfl) ?_) ?_
          rotate_left
          · intro w hSw; go_simp <;> with_reducible rfl
          simp only [Act.put, List.setIfInBounds_toArray, List.set_cons_zero, List.set_cons_succ]
          refine reg_take 17 rfl (by kernel_rfl) (by kernel_rfl) (by kernel_rfl) (fun _ _ _ h => h) (by first | exact Kept.refl _ _ | exact (Kept.refl _ _).alloc _ | assumption | exact Kept.alloc (by assumption) _) (yieldsIf_load_mid (by rfl) 27 _ rfl w.heap.size 1 rfl (dc p.2) _ Hpr.out Tryd.underlying27 rfl (by simp only [dc, List.length_map, hpl]; exact sz_d)) ?_
          simp only [Act.put, List.setIfInBounds_toArray, List.set_cons_zero, List.set_cons_succ]
          refine reg_take 18 (v := ?_) rfl (by kernel_rfl) (by kernel_rfl) (by kernel_rfl) (fun _ _ _ h => h) (by first | exact Kept.refl _ _ | exact (Kept.refl _ _).alloc _ | assumption | exact Kept.alloc (by assumption) _) (yield_val (by rfl) ?_) ?_
          rotate_left
          · intro w hSw; go_simp <;> with_reducible rfl
          simp only [Act.put, List.setIfInBounds_toArray, List.set_cons_zero, List.set_cons_succ]
          refine reg_take 19 (v := ?_) rfl (by kernel_rfl) (by kernel_rfl) (by kernel_rfl) (fun _ _ _ h => h) (by first | exact Kept.refl _ _ | exact (Kept.refl _ _).alloc _ | assumption | exact Kept.alloc (by assumption) _) (yield_val (by rfl) ?_) ?_
          rotate_left
          · intro w hSw; go_simp <;> with_reducible rfl
          simp only [Act.put, List.setIfInBounds_toArray, List.set_cons_zero, List.set_cons_succ]
          refine reg_take 20 (v := ?_) rfl (by kernel_rfl) (by kernel_rfl) (by kernel_rfl) (fun _ _ _ h => h) (by first | exact Kept.refl _ _ | exact (Kept.refl _ _).alloc _ | assumption | exact Kept.alloc (by assumption) _) (yield_val (by rfl) ?_) ?_
          rotate_left
          · intro w hSw; go_simp <;> with_reducible rfl
          simp only [Act.put, List.setIfInBounds_toArray, List.set_cons_zero, List.set_cons_succ]
          refine reg_take 21 rfl (by kernel_rfl) (by kernel_rfl) (by kernel_rfl) (fun _ _ _ h => h) (by first | exact Kept.refl _ _ | exact (Kept.refl _ _).alloc _ | assumption | exact Kept.alloc (by assumption) _) (yield_not (by rfl)) ?_
          simp only [Act.put, List.setIfInBounds_toArray, List.set_cons_zero, List.set_cons_succ]
          refine reg_take 22 rfl (by kernel_rfl) (by kernel_rfl) (by kernel_rfl) (fun _ _ _ h => h) (by first | exact Kept.refl _ _ | exact (Kept.refl _ _).alloc _ | assumption | exact Kept.alloc (by assumption) _) (yield_not (by rfl)) ?_
          simp only [Act.put, List.setIfInBounds_toArray, List.set_cons_zero, List.set_cons_succ]
          refine reg_take 23 rfl (by kernel_rfl) (by kernel_rfl) (by kernel_rfl) (fun _ _ _ h => h) (by first | exact Kept.refl _ _ | exact (Kept.refl _ _).alloc _ | assumption | exact Kept.alloc (by assumption) _) (yield_not (by rfl)) ?_
          simp only [Act.put, List.setIfInBounds_toArray, List.set_cons_zero, List.set_cons_succ]
          refine reg_take 24 rfl (by kernel_rfl) (by kernel_rfl) (by kernel_rfl) (fun _ _ _ h => h) (by first | exact Kept.refl _ _ | exact (Kept.refl _ _).alloc _ | assumption | exact Kept.alloc (by assumption) _) (yield_not (by rfl)) ?_
          simp only [Act.put, List.setIfInBounds_toArray, List.set_cons_zero, List.set_cons_succ]
          refine reg_take 25 rfl (by kernel_rfl) (by kernel_rfl) (by kernel_rfl) (fun _ _ _ h => h) (by first | exact Kept.refl _ _ | exact (Kept.refl _ _).alloc _ | assumption | exact Kept.alloc (by assumption) _) (yield_not (by rfl)) ?_
          simp only [Act.put, List.setIfInBounds_toArray, List.set_cons_zero, List.set_cons_succ]
          refine reg_take 26 rfl (by kernel_rfl) (by kernel_rfl) (by kernel_rfl) (fun _ _ _ h => h) (by first | exact Kept.refl _ _ | exact (Kept.refl _ _).alloc _ | assumption | exact Kept.alloc (by assumption) _) (yield_not (by rfl)) ?_
          simp only [Act.put, List.setIfInBounds_toArray, List.set_cons_zero, List.set_cons_succ]
          refine reg_take 27 (v := ?_) rfl (by kernel_rfl) (by kernel_rfl) (by kernel_rfl) (fun _ _ _ h => h) (by first | exact Kept.refl _ _ | exact (Kept.refl _ _).alloc _ | assumption | exact Kept.alloc (by assumption) _) (yield_val (by rfl) ?_) ?_
          rotate_left
          · intro w hSw; go_simp <;> with_reducible rfl
          simp only [Act.put, List.setIfInBounds_toArray, List.set_cons_zero, List.set_cons_succ]
          refine reg_done (by kernel_rfl) ?_
          have hfin : Below W0.heap.size W0 w2 := ((Kept.ofBelow HB.out (fun _ => False)).trans hK2.undrew).toBelow
          go_wp2_with fail
          go_roundw
          case rel => exact ⟨k + 1, by omega, by go_num, hfin, fun j hj => by
            by_cases e : j = k
            · subst e
              rintro ⟨q', d', a1, a2, a3, a4, a5⟩
              rw [hq] at a1
              rw [hd] at a2
              injection a1 with a1
              injection a2 with a2
              subst a1; subst a2
              exact Hdd.out a4
            · exact Hno.out j (by omega)⟩
          case measure => simp [intOf]; omega
      · have hnb : ((nm q.1).toList == (nm p.1).toList) = false := by simpa using hnm
        go_upto_region 4 with fail
        refine reg_start (fun w' => Kept wr.drew w' (fun _ => False)) (by kernel_rfl) ?_
        simp only [List.length_cons, List.length_nil, Nat.zero_add, Nat.reduceAdd]
        refine reg_take 0 (v := ?_) rfl (by kernel_rfl) (by kernel_rfl) (by kernel_rfl) (fun _ _ _ h => h) (by first | exact Kept.refl _ _ | exact (Kept.refl _ _).alloc _ | assumption | exact Kept.alloc (by assumption) _) (yield_val (by rfl) ?_) ?_
        rotate_left
        · intro w hSw; go_simp <;> with_reducible rfl
        simp only [Act.put, List.setIfInBounds_toArray, List.set_cons_zero, List.set_cons_succ]
        refine reg_take 1 (v := ?_) rfl (by kernel_rfl) (by kernel_rfl) (by kernel_rfl) (fun _ _ _ h => h) (by first | exact Kept.refl _ _ | exact (Kept.refl _ _).alloc _ | assumption | exact Kept.alloc (by assumption) _) (yield_val (by rfl) ?_) ?_
        rotate_left
        · intro w hSw; go_simp <;> with_reducible rfl
        simp only [Act.put, List.setIfInBounds_toArray, List.set_cons_zero, List.set_cons_succ]
        refine reg_take 2 (v := ?_) rfl (by kernel_rfl) (by kernel_rfl) (by kernel_rfl) (fun _ _ _ h => h) (by first | exact Kept.refl _ _ | exact (Kept.refl _ _).alloc _ | assumption | exact Kept.alloc (by assumption) _) (yield_val (by rfl) ?_) ?_
        rotate_left
        · intro w hSw; go_simp <;> with_reducible rfl
        simp only [Act.put, List.setIfInBounds_toArray, List.set_cons_zero, List.set_cons_succ]
        refine reg_take 3 (v := ?_) rfl (by kernel_rfl) (by kernel_rfl) (by kernel_rfl) (fun _ _ _ h => h) (by first | exact Kept.refl _ _ | exact (Kept.refl _ _).alloc _ | assumption | exact Kept.alloc (by assumption) _) (yield_val (by rfl) ?_) ?_
        rotate_left
        · intro w hSw; go_simp <;> with_reducible rfl
        simp only [Act.put, List.setIfInBounds_toArray, List.set_cons_zero, List.set_cons_succ]
        refine reg_take 6 (v := ?_) rfl (by kernel_rfl) (by kernel_rfl) (by kernel_rfl) (fun _ _ _ h => h) (by first | exact Kept.refl _ _ | exact (Kept.refl _ _).alloc _ | assumption | exact Kept.alloc (by assumption) _) (yield_val (by rfl) ?_) ?_
        rotate_left
        · intro w hSw; go_simp <;> with_reducible rfl
        simp only [Act.put, List.setIfInBounds_toArray, List.set_cons_zero, List.set_cons_succ]
        refine reg_take 4 (v := ?_) rfl (by kernel_rfl) (by kernel_rfl) (by kernel_rfl) (fun _ _ _ h => h) (by first | exact Kept.refl _ _ | exact (Kept.refl _ _).alloc _ | assumption | exact Kept.alloc (by assumption) _) (yield_val (by rfl) ?_) ?_
        rotate_left
        · intro w hSw; have hx0 := Hq0.out w hSw; go_simp <;> with_reducible rfl
        simp only [Act.put, List.setIfInBounds_toArray, List.set_cons_zero, List.set_cons_succ]
        refine reg_take 7 (v := ?_) rfl (by kernel_rfl) (by kernel_rfl) (by kernel_rfl) (fun _ _ _ h => h) (by first | exact Kept.refl _ _ | exact (Kept.refl _ _).alloc _ | assumption | exact Kept.alloc (by assumption) _) (yield_val (by rfl) ?_) ?_
        rotate_left
        · intro w hSw; have hx0 := Hp0.out w hSw; go_simp <;> with_reducible rfl
        simp only [Act.put, List.setIfInBounds_toArray, List.set_cons_zero, List.set_cons_succ]
        refine reg_one 5 (by kernel_rfl) (op_call (f := 10) (args := #[.int .i64 q.1]) rfl (by rfl) (by go_simp <;> rfl) _ (name_any _ _) ?_)
        rintro e w1 ⟨rfl, hK1b⟩
        have hK1 : Kept wr.drew w1 (fun _ => False) := (Kept.refl _ _).trans (Kept.ofBelow hK1b _)
        refine ⟨_, rfl, hK1, ?_⟩
        simp only [Act.put, List.setIfInBounds_toArray, List.set_cons_zero, List.set_cons_succ]
        refine reg_one 8 (by kernel_rfl) (op_call (f := 10) (args := #[.int .i64 p.1]) rfl (by rfl) (by go_simp <;> rfl) _ (name_any _ _) ?_)
        rintro e w2 ⟨rfl, hK2b⟩
        have hK2 : Kept wr.drew w2 (fun _ => False) := (hK1).trans (Kept.ofBelow hK2b _)
        refine ⟨_, rfl, hK2, ?_⟩
        simp only [Act.put, List.setIfInBounds_toArray, List.set_cons_zero, List.set_cons_succ]
        refine reg_take 9 (v := ?_) rfl (by kernel_rfl) (by kernel_rfl) (by kernel_rfl) (fun _ _ _ h => h) (by first | exact Kept.refl _ _ | exact (Kept.refl _ _).alloc _ | assumption | exact Kept.alloc (by assumption) _) (yield_val (by rfl) ?_) ?_
        rotate_left
        · intro w hSw; go_simp <;> with_reducible rfl
        simp only [Act.put, List.setIfInBounds_toArray, List.set_cons_zero, List.set_cons_succ]
        refine reg_take 10 (v := ?_) rfl (by kernel_rfl) (by kernel_rfl) (by kernel_rfl) (fun _ _ _ h => h) (by first | exact Kept.refl _ _ | exact (Kept.refl _ _).alloc _ | assumption | exact Kept.alloc (by assumption) _) (yield_val (by rfl) ?_) ?_
        rotate_left
        · intro w hSw; go_simp <;> with_reducible rfl
        simp only [Act.put, List.setIfInBounds_toArray, List.set_cons_zero, List.set_cons_succ]
        refine reg_take 11 rfl (by kernel_rfl) (by kernel_rfl) (by kernel_rfl) (fun _ _ _ h => h) (by first | exact Kept.refl _ _ | exact (Kept.refl _ _).alloc _ | assumption | exact Kept.alloc (by assumption) _) (yield_not (by rfl)) ?_
        simp only [Act.put, List.setIfInBounds_toArray, List.set_cons_zero, List.set_cons_succ]
        refine reg_take 12 rfl (by kernel_rfl) (by kernel_rfl) (by kernel_rfl) (fun _ _ _ h => h) (by first | exact Kept.refl _ _ | exact (Kept.refl _ _).alloc _ | assumption | exact Kept.alloc (by assumption) _) (yield_not (by rfl)) ?_
        simp only [Act.put, List.setIfInBounds_toArray, List.set_cons_zero, List.set_cons_succ]
        refine reg_take 13 rfl (by kernel_rfl) (by kernel_rfl) (by kernel_rfl) (fun _ _ _ h => h) (by first | exact Kept.refl _ _ | exact (Kept.refl _ _).alloc _ | assumption | exact Kept.alloc (by assumption) _) (yield_not (by rfl)) ?_
        simp only [Act.put, List.setIfInBounds_toArray, List.set_cons_zero, List.set_cons_succ]
        refine reg_take 14 rfl (by kernel_rfl) (by kernel_rfl) (by kernel_rfl) (fun _ _ _ h => h) (by first | exact Kept.refl _ _ | exact (Kept.refl _ _).alloc _ | assumption | exact Kept.alloc (by assumption) _) (yield_not (by rfl)) ?_
        simp only [Act.put, List.setIfInBounds_toArray, List.set_cons_zero, List.set_cons_succ]
        refine reg_take 15 rfl (by kernel_rfl) (by kernel_rfl) (by kernel_rfl) (fun _ _ _ h => h) (by first | exact Kept.refl _ _ | exact (Kept.refl _ _).alloc _ | assumption | exact Kept.alloc (by assumption) _) (yield_not (by rfl)) ?_
        simp only [Act.put, List.setIfInBounds_toArray, List.set_cons_zero, List.set_cons_succ]
        refine reg_take 16 rfl (by kernel_rfl) (by kernel_rfl) (by kernel_rfl) (fun _ _ _ h => h) (by first | exact Kept.refl _ _ | exact (Kept.refl _ _).alloc _ | assumption | exact Kept.alloc (by assumption) _) (yield_not (by rfl)) ?_
        simp only [Act.put, List.setIfInBounds_toArray, List.set_cons_zero, List.set_cons_succ]
        refine reg_take 17 rfl (by kernel_rfl) (by kernel_rfl) (by kernel_rfl) (fun _ _ _ h => h) (by first | exact Kept.refl _ _ | exact (Kept.refl _ _).alloc _ | assumption | exact Kept.alloc (by assumption) _) (yield_not (by rfl)) ?_
        simp only [Act.put, List.setIfInBounds_toArray, List.set_cons_zero, List.set_cons_succ]
        refine reg_take 18 rfl (by kernel_rfl) (by kernel_rfl) (by kernel_rfl) (fun _ _ _ h => h) (by first | exact Kept.refl _ _ | exact (Kept.refl _ _).alloc _ | assumption | exact Kept.alloc (by assumption) _) (yield_not (by rfl)) ?_
        simp only [Act.put, List.setIfInBounds_toArray, List.set_cons_zero, List.set_cons_succ]
        refine reg_take 19 (v := ?_) rfl (by kernel_rfl) (by kernel_rfl) (by kernel_rfl) (fun _ _ _ h => h) (by first | exact Kept.refl _ _ | exact (Kept.refl _ _).alloc _ | assumption | exact Kept.alloc (by assumption) _) (yield_val (by rfl) ?_) ?_
        rotate_left
        · intro w hSw; go_simp <;> with_reducible rfl
        simp only [Act.put, List.setIfInBounds_toArray, List.set_cons_zero, List.set_cons_succ]
        refine reg_take 20 (v := ?_) rfl (by kernel_rfl) (by kernel_rfl) (by kernel_rfl) (fun _ _ _ h => h) (by first | exact Kept.refl _ _ | exact (Kept.refl _ _).alloc _ | assumption | exact Kept.alloc (by assumption) _) (yield_val (by rfl) ?_) ?_
        rotate_left
        · intro w hSw; go_simp <;> with_reducible rfl
        simp only [Act.put, List.setIfInBounds_toArray, List.set_cons_zero, List.set_cons_succ]
        refine reg_take 21 rfl (by kernel_rfl) (by kernel_rfl) (by kernel_rfl) (fun _ _ _ h => h) (by first | exact Kept.refl _ _ | exact (Kept.refl _ _).alloc _ | assumption | exact Kept.alloc (by assumption) _) (yield_not (by rfl)) ?_
        simp only [Act.put, List.setIfInBounds_toArray, List.set_cons_zero, List.set_cons_succ]
        refine reg_take 22 rfl (by kernel_rfl) (by kernel_rfl) (by kernel_rfl) (fun _ _ _ h => h) (by first | exact Kept.refl _ _ | exact (Kept.refl _ _).alloc _ | assumption | exact Kept.alloc (by assumption) _) (yield_not (by rfl)) ?_
        simp only [Act.put, List.setIfInBounds_toArray, List.set_cons_zero, List.set_cons_succ]
        refine reg_take 23 rfl (by kernel_rfl) (by kernel_rfl) (by kernel_rfl) (fun _ _ _ h => h) (by first | exact Kept.refl _ _ | exact (Kept.refl _ _).alloc _ | assumption | exact Kept.alloc (by assumption) _) (yield_not (by rfl)) ?_
        simp only [Act.put, List.setIfInBounds_toArray, List.set_cons_zero, List.set_cons_succ]
        refine reg_take 24 rfl (by kernel_rfl) (by kernel_rfl) (by kernel_rfl) (fun _ _ _ h => h) (by first | exact Kept.refl _ _ | exact (Kept.refl _ _).alloc _ | assumption | exact Kept.alloc (by assumption) _) (yield_not (by rfl)) ?_
        simp only [Act.put, List.setIfInBounds_toArray, List.set_cons_zero, List.set_cons_succ]
        refine reg_take 25 rfl (by kernel_rfl) (by kernel_rfl) (by kernel_rfl) (fun _ _ _ h => h) (by first | exact Kept.refl _ _ | exact (Kept.refl _ _).alloc _ | assumption | exact Kept.alloc (by assumption) _) (yield_not (by rfl)) ?_
        simp only [Act.put, List.setIfInBounds_toArray, List.set_cons_zero, List.set_cons_succ]
        refine reg_take 26 rfl (by kernel_rfl) (by kernel_rfl) (by kernel_rfl) (fun _ _ _ h => h) (by first | exact Kept.refl _ _ | exact (Kept.refl _ _).alloc _ | assumption | exact Kept.alloc (by assumption) _) (yield_not (by rfl)) ?_
        simp only [Act.put, List.setIfInBounds_toArray, List.set_cons_zero, List.set_cons_succ]
        refine reg_take 27 (v := ?_) rfl (by kernel_rfl) (by kernel_rfl) (by kernel_rfl) (fun _ _ _ h => h) (by first | exact Kept.refl _ _ | exact (Kept.refl _ _).alloc _ | assumption | exact Kept.alloc (by assumption) _) (yield_val (by rfl) ?_) ?_
        rotate_left
        · intro w hSw; go_simp <;> with_reducible rfl
        simp only [Act.put, List.setIfInBounds_toArray, List.set_cons_zero, List.set_cons_succ]
        refine reg_done (by kernel_rfl) ?_
        have hfin : Below W0.heap.size W0 w2 := ((Kept.ofBelow HB.out (fun _ => False)).trans hK2.undrew).toBelow
        go_wp2_with fail
        go_roundw
        case rel => exact ⟨k + 1, by omega, by go_num, hfin, fun j hj => by
          by_cases e : j = k
          · subst e
            rintro ⟨q', d', a1, a2, a3, a4, a5⟩
            rw [hq] at a1
            rw [hd] at a2
            injection a1 with a1
            injection a2 with a2
            subst a1; subst a2
            exact hnm (by rw [a3])
          · exact Hno.out j (by omega)⟩
        case measure => simp [intOf]; omega
    · exfalso
      obtain ⟨j, hj⟩ := Hex.out
      have hjl : j < ps.length := by
        obtain ⟨q, d, h1, _⟩ := hj
        exact (List.getElem?_eq_some_iff.1 h1).1
      exact hno j (by omega) hj
end Go.Proofs.YthgebhndhilhkaaDoor
