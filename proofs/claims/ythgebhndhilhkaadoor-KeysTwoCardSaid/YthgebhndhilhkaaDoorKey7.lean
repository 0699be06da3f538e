/- keys: Signed, where at most one pair is signed. -/
import Derived.Test.YthgebhndhilhkaaDoorKeyInv
import Derived.Maps.RangeWalk
namespace Go.Proofs.YthgebhndhilhkaaDoor
open Go.RowKit Go.MuLone Go.Maps

set_option maxRecDepth 100000 in
theorem len64_0 (w : World) : Calls Tryd.prog 153 #[.int .u64 0] w fun e w' => e = .returned (.int .i64 0) ∧ w = w' := by
  go_enter Tryd.func153, Tryd.ntmps153
  go_wp2
  go_ret
  exact ⟨by kernel_rfl, rfl⟩
set_option maxRecDepth 100000 in
theorem len64_1 (w : World) : Calls Tryd.prog 153 #[.int .u64 1] w fun e w' => e = .returned (.int .i64 1) ∧ w = w' := by
  go_enter Tryd.func153, Tryd.ntmps153
  go_wp2
  go_ret
  exact ⟨by kernel_rfl, rfl⟩
set_option maxRecDepth 100000 in
set_option maxHeartbeats 1000000 in
theorem sortD_small (A : Option Addr) (n c : Nat) (fv : Value) (w : World) (hn : n ≤ 1) : Calls Tryd.prog 69 #[.slice A n c, fv] w fun e w' => e = .returned (.tuple #[]) ∧ w = w' := by
  have hn2 : n = 0 ∨ n = 1 := by omega
  rcases hn2 with rfl | rfl
  · go_enter Tryd.func69, Tryd.ntmps69
    go_wp2_with (first | (go_at_call 153; refine (len64_0 _).mono ?_; rintro e w' ⟨rfl, rfl⟩) | go_in)
    refine wp_loop_rounds 1 ?_
    rw [rounds_succ]
    go_wp2_with go_in
    refine wp_loop_rounds 1 ?_
    rw [rounds_succ]
    go_wp2_with go_in
    first | go_end0 | refine bodyPost_ret (results_none rfl _ _ _) rfl ?_
    go_wp2_with go_in
    first | go_end0 | refine bodyPost_ret (results_none rfl _ _ _) rfl ?_
    go_wp2_with go_in
    first | go_end0 | refine bodyPost_ret (results_none rfl _ _ _) rfl ?_
    exact ⟨rfl, rfl⟩
  · go_enter Tryd.func69, Tryd.ntmps69
    go_wp2_with (first | (go_at_call 153; refine (len64_1 _).mono ?_; rintro e w' ⟨rfl, rfl⟩) | go_in)
    refine wp_loop_rounds 1 ?_
    rw [rounds_succ]
    go_wp2_with go_in
    refine wp_loop_rounds 1 ?_
    rw [rounds_succ]
    go_wp2_with go_in
    first | go_end0 | refine bodyPost_ret (results_none rfl _ _ _) rfl ?_
    go_wp2_with go_in
    first | go_end0 | refine bodyPost_ret (results_none rfl _ _ _) rfl ?_
    go_wp2_with go_in
    first | go_end0 | refine bodyPost_ret (results_none rfl _ _ _) rfl ?_
    exact ⟨rfl, rfl⟩
end Go.Proofs.YthgebhndhilhkaaDoor
