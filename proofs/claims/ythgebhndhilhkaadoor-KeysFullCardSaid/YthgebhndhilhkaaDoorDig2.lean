/- digest: the schedule of a block. -/
import Derived.Test.YthgebhndhilhkaaDoorDig1
import Derived.Lib.Hide
import Derived.Laws.CopyOwn
import Derived.Laws.Rows
namespace Go.Proofs.YthgebhndhilhkaaDoor
open Go.RowKit

def zeros64 : Array Value := encA .u32 (List.replicate 64 0)
/-- The first sixteen words. -/
def word4 (bs : List Int) (k : Nat) : Int :=
  bits .or .u32 (bits .or .u32 (bits .or .u32 (bs[4 * k]?.getD 0 % 4294967296 * 16777216 % 4294967296) (bs[4 * k + 1]?.getD 0 % 4294967296 * 65536 % 4294967296)) (bs[4 * k + 2]?.getD 0 % 4294967296 * 256 % 4294967296)) (bs[4 * k + 3]?.getD 0 % 4294967296)
def sch1 (bs : List Int) : Nat → List Int
  | 0 => List.replicate 64 0
  | k + 1 => (sch1 bs k).set k (word4 bs k)
theorem sch1_length (bs : List Int) (k : Nat) : (sch1 bs k).length = 64 := by
  induction k with
  | zero => rfl
  | succ k ih => rw [sch1, List.length_set, ih]
/-- The further words. -/
def word2 (ws : List Int) (k : Nat) : Int :=
  let x := ws[k - 15]?.getD 0
  let y := ws[k - 2]?.getD 0
  let s0 := bits .xor .u32 (bits .xor .u32 (rotF x (-7)) (rotF x (-18))) (x / 8)
  let s1 := bits .xor .u32 (bits .xor .u32 (rotF y (-17)) (rotF y (-19))) (y / 1024)
  (ws[k - 16]?.getD 0 + s0 + ws[k - 7]?.getD 0 + s1) % 4294967296
def sch2 (bs : List Int) : Nat → List Int
  | 0 => sch1 bs 16
  | j + 1 => (sch2 bs j).set (16 + j) (word2 (sch2 bs j) (16 + j))
theorem sch2_length (bs : List Int) (k : Nat) : (sch2 bs k).length = 64 := by
  induction k with
  | zero => exact sch1_length _ _
  | succ k ih => rw [sch2, List.length_set, ih]
theorem setCell_drewN (w : World) (n : Nat) (a : Addr) (v : Value) : (w.drewN n).setCell a v = (w.setCell a v).drewN n := rfl
theorem set_second (w : World) (A : Obj) (k : IntKind) (xs : List Int) (T i : Nat) (v : Int) :
    ((w.alloc A).alloc (.cells (encA k xs) T)).setCell ⟨w.heap.size + 1, i, none⟩ (.int k v) = (w.alloc A).alloc (.cells (encA k (xs.set i v)) T) := by
  rw [World.setCell_alloc_at _ _ _ _ _ (by simp), encA_set]

theorem encA_one (k : IntKind) (xs : List Int) : (encA k xs).all (·.oneCell') = true := by
  rw [Array.all_eq_true_iff_forall_mem]
  intro v hv
  obtain ⟨x, _, rfl⟩ : ∃ x ∈ xs, Value.int k x = v := by simpa [encA] using hv
  rfl
theorem sz_w : (Tryd.prog.info? 165).map (·.size) = some 64 := by kernel_rfl
set_option maxRecDepth 100000 in
set_option maxHeartbeats 1000000 in
theorem sched_any (g o cap : Nat) (bs : List Int) (w : World) (hg : g < w.heap.size) (hc : ∀ i, i < 64 → w.cell? ⟨g, o + i, none⟩ = some (.int .u8 (bs.getD i 0))) :
    Calls Tryd.prog 122 #[.slice (some ⟨g, o, none⟩) 64 cap] w fun e w' => e = .returned (.agg (encA .u32 (sch2 bs 48))) ∧ Below w.heap.size w w' := by
  go_enter Tryd.func122, Tryd.ntmps122
  go_wp2
  go_loopw [4, 10] (fun _ i wr => ∃ k : Nat, k ≤ 16 ∧ i = .int .i64 k ∧ ∃ n, wr = ((w.alloc (.cells zeros64 165)).alloc (.cells (encA .u32 (sch1 bs k)) 165)).drewN n) (fun _ i _ => 16 - (intOf i).toNat)
  case atStart => exact ⟨0, by omega, rfl, 0, rfl⟩
  case round =>
    obtain ⟨k, hk, rfl, n, rfl⟩ := hrel
    by_cases hlt : k < 16
    · obtain ⟨x, hx⟩ := encA_some .u32 (sch1 bs k) k (by rw [sch1_length]; omega)
      have c0 := hc (4 * k) (by omega)
      have c1 := hc (4 * k + 1) (by omega)
      have c2 := hc (4 * k + 2) (by omega)
      have c3 := hc (4 * k + 3) (by omega)
      have hg1 : g < w.heap.size + 1 := by omega
      clear hc
      go_wp2
      have e0 : IntKind.i64.wrap (4 * (k : Int)) = 4 * k := IntWalk.i64_in _ (by omega)
      have e1 : IntKind.i64.wrap (4 * (k : Int) + 1) = 4 * k + 1 := IntWalk.i64_in _ (by omega)
      have e2 : IntKind.i64.wrap (4 * (k : Int) + 2) = 4 * k + 2 := IntWalk.i64_in _ (by omega)
      have e3 : IntKind.i64.wrap (4 * (k : Int) + 3) = 4 * k + 3 := IntWalk.i64_in _ (by omega)
      have t0 : (4 * (k : Int)).toNat = 4 * k := by omega
      have t1 : (4 * (k : Int) + 1).toNat = 4 * k + 1 := by omega
      have t2 : (4 * (k : Int) + 2).toNat = 4 * k + 2 := by omega
      have t3 : (4 * (k : Int) + 3).toNat = 4 * k + 3 := by omega
      have b0 : 0 ≤ 4 * (k : Int) ∧ 4 * (k : Int) < 64 := by omega
      have b1 : 0 ≤ 4 * (k : Int) + 1 ∧ 4 * (k : Int) + 1 < 64 := by omega
      have b2 : 0 ≤ 4 * (k : Int) + 2 ∧ 4 * (k : Int) + 2 < 64 := by omega
      have b3 : 0 ≤ 4 * (k : Int) + 3 ∧ 4 * (k : Int) + 3 < 64 := by omega
      have b4 : 0 ≤ (k : Int) ∧ (k : Int) < 64 := by omega
      refine still_tail 35 (by kernel_rfl) (by kernel_rfl) ?_
      simp only [List.take_succ_cons, List.take_zero, List.drop_succ_cons, List.drop_zero, World.drew_drewN]
      repeat still_step
      refine wpStill_nil ?_
      go_wp2
      go_roundw
      case rel => exact ⟨k + 1, by omega, by go_num, n + 1, by rw [setCell_drewN, set_second]; rfl⟩
      case measure => simp [intOf]; omega
    · obtain rfl : k = 16 := by omega
      rw [show ((16 : Nat) : Int) = 16 from rfl]
      go_wp2
      go_loopw [5] (fun i wr => ∃ k : Nat, k ≤ 48 ∧ i = .int .i64 (16 + k : Nat) ∧ ∃ n, wr = ((w.alloc (.cells zeros64 165)).alloc (.cells (encA .u32 (sch2 bs k)) 165)).drewN n) (fun i _ => 64 - (intOf i).toNat)
      case atStart => exact ⟨0, by omega, rfl, n, rfl⟩
      case round =>
        obtain ⟨k, hk, rfl, n, rfl⟩ := hrel
        by_cases hlt : k < 48
        · have c15 := encA_getD .u32 (sch2 bs k) (16 + k - 15) (by rw [sch2_length]; omega)
          have c2 := encA_getD .u32 (sch2 bs k) (16 + k - 2) (by rw [sch2_length]; omega)
          have c16 := encA_getD .u32 (sch2 bs k) (16 + k - 16) (by rw [sch2_length]; omega)
          have c7 := encA_getD .u32 (sch2 bs k) (16 + k - 7) (by rw [sch2_length]; omega)
          obtain ⟨x, hx⟩ := encA_some .u32 (sch2 bs k) (16 + k) (by rw [sch2_length]; omega)
          obtain ⟨m, hm⟩ : ∃ m, m = 16 + k := ⟨_, rfl⟩
          have hm1 : 16 ≤ m := by omega
          have hm2 : m < 64 := by omega
          rw [← hm] at c15 c2 c16 c7 hx ⊢
          have Hm := Lib.hid hm
          clear hm hlt
          go_wp2
          have e0 : IntKind.i64.wrap ((m : Int) - 15) = m - 15 := IntWalk.i64_in _ (by omega)
          have e1 : IntKind.i64.wrap ((m : Int) - 2) = m - 2 := IntWalk.i64_in _ (by omega)
          have e2 : IntKind.i64.wrap ((m : Int) - 16) = m - 16 := IntWalk.i64_in _ (by omega)
          have e3 : IntKind.i64.wrap ((m : Int) - 7) = m - 7 := IntWalk.i64_in _ (by omega)
          have t0 : ((m : Int) - 15).toNat = m - 15 := by omega
          have t1 : ((m : Int) - 2).toNat = m - 2 := by omega
          have t2 : ((m : Int) - 16).toNat = m - 16 := by omega
          have t3 : ((m : Int) - 7).toNat = m - 7 := by omega
          have b0 : 0 ≤ (m : Int) - 15 ∧ (m : Int) - 15 < 64 := by omega
          have b1 : 0 ≤ (m : Int) - 2 ∧ (m : Int) - 2 < 64 := by omega
          have b2 : 0 ≤ (m : Int) - 16 ∧ (m : Int) - 16 < 64 := by omega
          have b3 : 0 ≤ (m : Int) - 7 ∧ (m : Int) - 7 < 64 := by omega
          have b4 : 0 ≤ (m : Int) ∧ (m : Int) < 64 := by omega
          have b5 : (16 : Int) ≤ m ∧ (15 : Int) ≤ m ∧ (7 : Int) ≤ m ∧ (2 : Int) ≤ m := by omega
          go_quiet (fail)
          go_wp2_with (go_at_call 123; refine (right_any _ _ _ (by omega) (by omega)).mono ?_; rintro e w' ⟨rfl, rfl⟩)
          refine still_tail 15 (by kernel_rfl) (by kernel_rfl) ?_
          simp only [List.take_succ_cons, List.take_zero, List.drop_succ_cons, List.drop_zero, World.drew_drewN, World.drewN_drewN]
          repeat still_step
          refine wpStill_nil ?_
          go_wp2
          go_roundw
          case rel => exact ⟨k + 1, by have := Hm.out; omega, by rw [Hm.out]; go_num, _, by rw [setCell_drewN, set_second]; rw [Hm.out]; rfl⟩
          case measure => simp [intOf]; omega
        · obtain rfl : k = 48 := by omega
          have h3 : (((w.alloc (.cells zeros64 165)).alloc (.cells (encA .u32 (sch2 bs 48)) 165)).drewN n).heap[w.heap.size + 1]? = some (.cells (encA .u32 (sch2 bs 48)) 165 (0, 0)) := heap_alloc2_new _ _ _
          have h2 : (((w.alloc (.cells zeros64 165)).alloc (.cells (encA .u32 (sch2 bs 48)) 165)).drewN n).heap[w.heap.size]? = some (.cells zeros64 165 (0, 0)) := heap_alloc2_old _ _ _
          have hs : (encA .u32 (sch2 bs 48)).size = 64 := by rw [encA_size, sch2_length]
          have hB : Below w.heap.size w (((w.alloc (.cells zeros64 165)).alloc (.cells (encA .u32 (sch2 bs 48)) 165)).drewN n) :=
            below_drewN (((Below.refl _ _).alloc (Nat.le_refl _) _).alloc (by simp) _) n
          generalize ((w.alloc (.cells zeros64 165)).alloc (.cells (encA .u32 (sch2 bs 48)) 165)).drewN n = W at *
          have Hs := Lib.hid hs
          have H2 := Lib.hid h2
          have H3 := Lib.hid h3
          clear hs h2 h3
          go_wp2_with (first | (refine wpList_load_row rfl _ _ rfl _ rfl _ _ _ _ H3.out Tryd.underlying165 rfl (by rw [Hs.out]; exact sz_w) ?_) | (refine wpList_store_row rfl _ _ _ rfl _ _ rfl rfl _ _ H2.out (by rw [Hs.out]; exact sz_w) (by rw [Hs.out]; rfl) (encA_one _ _) ?_))
          refine bodyPost_ret (results_cell_row rfl _ _ _ _ _ _ _ rfl (setRow_heap _ _ _ _ _ _ H2.out) Tryd.underlying165 rfl (by rw [Hs.out]; exact sz_w)) rfl ⟨rfl, ?_⟩
          exact below_setRow hB (Nat.le_refl _) _
end Go.Proofs.YthgebhndhilhkaaDoor
