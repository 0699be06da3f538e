/- keys: Enroll, where the name is there. -/
import Derived.Test.YthgebhndhilhkaaDoorKey4
namespace Go.Proofs.YthgebhndhilhkaaDoor
open Go.RowKit Go.MuLone Go.Maps

set_option maxRecDepth 100000 in
set_option maxHeartbeats 1000000 in
theorem enroll_twice (r b1 b2 n1 n2 : Nat) (sv : Value) (sec : List Int) (D1 D2 : DataW Unit) (s : ByteArray) (ks : Lit) (w : World) (R : RingAt w 0 r b1 b2 sv sec n1 n2 D1 D2)
    (hs0 : 0 < s.size) (hs1 : s.size ≤ 64) (hks : keyOf Tryd.prog 9 (.string s) = some ks)
    (hhas : Maps.has D1 ks = true) :
    Calls Tryd.prog 30 #[.pointer (some ⟨r, 0, none⟩), .string s] w fun e w' => e = .returned (.int .i64 181) ∧ Below w.heap.size w w' := by
  have HR := Lib.hid R
  clear R
  have hemp : ¬ (s.toList = []) := fun e => by
    rw [ByteArray.toList_eq] at e
    have e1 := congrArg List.length e
    have e2 : s.data.toList.length = s.size := Array.length_toList
    rw [e2, List.length_nil] at e1
    omega
  have hempb : s.toList.isEmpty = false := by simpa using hemp
  have hs1i : ¬ ((64 : Int) < (s.size : Nat)) := by omega
  go_enter_defers Tryd.func30, Tryd.ntmps30
  go_wp2_with fail
  have hlt := HR.out.lt
  refine (lock_free muLib ⟨r, 0, none⟩ _ HR.out.cell0 HR.out.frozen0).mono ?_
  rintro e w1 ⟨rfl, rfl⟩
  have hk1 : Kept w (w.setCell ⟨r, 0, none⟩ (.int .i32 1)) (· = r) := (Kept.refl _ _).set rfl
  have R1 := HR.out.lock 1
  have hsz1 : (w.setCell ⟨r, 0, none⟩ (.int .i32 1)).heap.size = w.heap.size := by simp
  generalize w.setCell ⟨r, 0, none⟩ (.int .i32 1) = W1 at *
  have c3 := R1.cell3
  have h1 := Lib.hid (And.intro R1 (And.intro hk1 hsz1))
  obtain ⟨key', hkl2, hkat, hlk⟩ := look_D (t := 84) R1.keys lawS Tryd.underlying84 hks
  have hl := hlk W1 rfl
  rw [hhas] at hl
  have hksz : (encA .u8 key').size = 32 := by rw [encA_size, hkl2]
  have Hksz := Lib.hid hksz
  clear R1 hk1 hsz1 hlk hksz
  go_wp2_with (refine wpList_store_row rfl 27 _ _ rfl W1.heap.size _ rfl rfl _ _ (heap_alloc_new _ _) (by rw [Hksz.out]; exact sz_d) (by rw [Hksz.out]; rfl) (encA_one _ _) ?_; rw [World.setRow_alloc_new])
  refine leaves_cons (f := 40) (args := #[.pointer (some ⟨r, 0, none⟩)]) (by simp) (by simp [go_sem]) ?_
  have hVk : Kept w (W1.alloc (.cells (encA .u8 key') 27)) (· = r) := h1.out.2.1.alloc _
  have RV := h1.out.1.below ((Below.refl W1.heap.size W1).alloc (Nat.le_refl _) (.cells (encA .u8 key') 27))
  generalize W1.alloc (.cells (encA .u8 key') 27) = V at *
  refine (unlock_deferred muLib ⟨r, 0, none⟩ .returning _ RV.cell0 RV.frozen0).mono ?_
  rintro e u' w'' ⟨rfl, rfl, rfl⟩
  have hfin : Below w.heap.size w (V.setCell ⟨r, 0, none⟩ (.int .i32 0)) :=
    ((hVk.set rfl).same (T := fun _ => False) (g := r) (fun k hk => .inr hk) (by rw [(RV.lock 0).row, HR.out.row])).toBelow
  exact ⟨_, results_tmp rfl _ _ _, rfl, hfin⟩
end Go.Proofs.YthgebhndhilhkaaDoor
