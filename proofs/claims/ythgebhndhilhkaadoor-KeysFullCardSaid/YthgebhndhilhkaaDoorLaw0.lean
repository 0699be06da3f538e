/- hearsaylaw18: name. -/
import Derived.Test.YthgebhndhilhkaaDoorKey5
namespace Go.Proofs.YthgebhndhilhkaaDoor
open Go.RowKit Go.MuLone Go.Maps

def names : List ByteArray := [⟨#[97, 108, 105, 99, 101]⟩, ⟨#[98, 111, 98]⟩, ⟨#[97]⟩, ⟨#[97, 97]⟩, ⟨#[115, 97, 121, 115]⟩, ⟨#[120, 32, 121]⟩, ⟨#[0]⟩, ⟨#[97, 108]⟩]
/-- The name of a number. -/
def nm (n : Int) : ByteArray := names.getD (n % 8).toNat ⟨#[]⟩
theorem names_ok : ∀ s ∈ names, 0 < s.size ∧ s.size ≤ 64 := by decide
theorem nm_mem (n : Int) : nm n ∈ names := by
  have h : (n % 8).toNat < names.length := by show _ < 8; omega
  unfold nm
  rw [List.getD_eq_getElem?_getD, List.getElem?_eq_getElem h]
  exact List.getElem_mem _

set_option maxRecDepth 100000 in
set_option maxHeartbeats 1000000 in
theorem name_any (n : Int) (w : World) :
    Calls Tryd.prog 10 #[.int .i64 n] w fun e w' => e = .returned (.string (nm n)) ∧ Below w.heap.size w w' := by
  have hb : ∀ o, Below w.heap.size w (w.alloc o) := fun o => (Below.refl _ _).alloc (Nat.le_refl _) o
  have q1 := Int.tmod_lt_of_pos n (b := 8) (by decide)
  have q2 := Int.lt_tmod_of_pos n (b := 8) (by decide)
  have q3 := Int.mul_tdiv_add_tmod n 8
  have hc : n.tmod 8 = -7 ∨ n.tmod 8 = -6 ∨ n.tmod 8 = -5 ∨ n.tmod 8 = -4 ∨ n.tmod 8 = -3 ∨ n.tmod 8 = -2 ∨ n.tmod 8 = -1 ∨ n.tmod 8 = 0 ∨ n.tmod 8 = 1 ∨ n.tmod 8 = 2 ∨ n.tmod 8 = 3 ∨ n.tmod 8 = 4 ∨ n.tmod 8 = 5 ∨ n.tmod 8 = 6 ∨ n.tmod 8 = 7 := by omega
  have hm : ∀ k : Int, n.tmod 8 = k → n % 8 = k % 8 := fun k h => by omega
  rcases hc with h | h | h | h | h | h | h | h | h | h | h | h | h | h | h <;>
  · have h2 := hm _ h
    have h3 : nm n = names.getD (n % 8).toNat ⟨#[]⟩ := rfl
    rw [h2] at h3
    rw [h3]
    clear h3 h2 hm q1 q2 q3
    go_enter Tryd.func10, Tryd.ntmps10
    go_wp2
    go_ret
    exact ⟨rfl, hb _⟩
end Go.Proofs.YthgebhndhilhkaaDoor
