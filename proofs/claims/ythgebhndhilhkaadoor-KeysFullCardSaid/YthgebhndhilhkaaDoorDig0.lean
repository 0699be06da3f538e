/- digest: rotations. -/
import Derived.Test.YthgebhndhilhkaaDoorProg
import Derived.WalkKit
import Derived.WalkLawsBesides
import Derived.Laws.BitsLemmas
namespace Go.Proofs.YthgebhndhilhkaaDoor
open Go.RowKit

theorem u64_wraps (n : Int) (h₀ : 0 ≤ n) (h₁ : n < 2 ^ 64) : IntKind.u64.wrap n = n := by rw [IntKind.wrap_u64]; omega
theorem and31 (k : Int) : ∃ s, 0 ≤ s ∧ s ≤ 31 ∧ bits .and .u64 (IntKind.u64.wrap k) 31 = s := by
  have hb : 0 ≤ IntKind.u64.wrap k ∧ IntKind.u64.wrap k < 2 ^ 64 := by rw [IntKind.wrap_u64]; omega
  exact ⟨(IntKind.u64.wrap k) % 32, by omega, by omega, bits_mask .u64 64 (by decide) u64_wraps 5 (by decide) _ hb.1 hb.2⟩

/-- A word turned left by k bits. -/
def rotF (x k : Int) : Int :=
  let s := bits .and .u64 (IntKind.u64.wrap k) 31
  bits .or .u32 (x * 2 ^ s.toNat % 4294967296) (x / 2 ^ (32 - s).toNat)
theorem ret_int {k : IntKind} {a b : Int} (h : a = b) : Ending.returned (.int k a) = .returned (.int k b) := by rw [h]

set_option maxHeartbeats 400000 in
theorem rot_any (x k : Int) (w : World) :
    Calls Tryd.prog 162 #[.int .u32 x, .int .i64 k] w fun e w' => e = .returned (.int .u32 (rotF x k)) ∧ w = w' := by
  obtain ⟨s, h0, h1, hm⟩ := and31 k
  go_enter Tryd.func162, Tryd.ntmps162
  go_wp2
  go_ret
  exact ⟨ret_int (by unfold rotF; simp only [hm]), rfl⟩
set_option maxHeartbeats 400000 in
theorem right_any (x k : Int) (w : World) (h0 : 0 ≤ k) (h1 : k ≤ 100) :
    Calls Tryd.prog 123 #[.int .u32 x, .int .i64 k] w fun e w' => e = .returned (.int .u32 (rotF x (-k))) ∧ w = w' := by
  go_enter Tryd.func123, Tryd.ntmps123
  go_wp2_with (go_at_call 162; refine (rot_any _ _ _).mono ?_; rintro e w' ⟨rfl, rfl⟩)
  go_ret
  exact ⟨rfl, rfl⟩
theorem right_q (x k : Int) (w : World) (h0 : 0 ≤ k) (h1 : k ≤ 100) :
    Calls Tryd.prog 123 #[.int .u32 x, .int .i64 k] w fun e w' => e = .returned (.int .u32 (rotF x (-k))) ∧ w' = w :=
  (right_any x k w h0 h1).mono fun _ _ ⟨a, b⟩ => ⟨a, b.symm⟩
end Go.Proofs.YthgebhndhilhkaaDoor
