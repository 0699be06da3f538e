/- hearsaylaw18: enrolled. -/
import Derived.Test.YthgebhndhilhkaaDoorLaw0
import Derived.Test.YthgebhndhilhkaaDoorKey6
import Derived.Test.YthgebhndhilhkaaDoorFlat0
namespace Go.Proofs.YthgebhndhilhkaaDoor
open Go.RowKit Go.MuLone Go.Maps

def kls (s : ByteArray) : Lit := .string s.data.toList
theorem kls_key (s : ByteArray) (h : s.size ≤ maxLen) : keyOf Tryd.prog 9 (.string s) = some (kls s) := WideMaps.keyOf_string_mk (P := Tryd.prog) Tryd.underlying9 h
def enD (rc fc sec : List Int) : Nat → DataW Unit
  | 0 => .map []
  | k + 1 => (enD rc fc sec k).put (kls (nm k)) (dat (macF rc fc sec (byt (nm k))))
theorem nm_inj : ∀ i, i < 8 → ∀ j, j < 8 → (nm (i : Nat)).data.toList = (nm (j : Nat)).data.toList → i = j := by decide
theorem kls_ne {i j : Nat} (hi : i < 8) (hj : j < 8) (h : i ≠ j) : kls (nm i) ≠ kls (nm j) := fun e => h (nm_inj i hi j hj (by injection e))
theorem enD_tidy (rc fc sec : List Int) : ∀ k, Maps.Tidy (enD rc fc sec k)
  | 0 => Maps.tidy_empty
  | k + 1 => (enD_tidy rc fc sec k).put (k := kls (nm k)) trivial _
theorem enD_has (rc fc sec : List Int) : ∀ (k j : Nat), j < 8 → k ≤ 8 → Maps.has (enD rc fc sec k) (kls (nm j)) = decide (j < k)
  | 0, j, _, _ => rfl
  | k + 1, j, hj, hk => by
    rw [enD]
    by_cases e : j = k
    · subst e
      rw [Maps.has_put_same (enD_tidy rc fc sec j).isMap (show WideAt.IsKeyLit (kls (nm j)) from trivial)]
      simp
    · rw [Maps.has_put_other (kls_ne hj (by omega) e), enD_has rc fc sec k j hj (by omega)]
      exact decide_eq_decide.2 (by omega)
theorem enD_at (rc fc sec : List Int) (z : DataW Unit) : ∀ (k j : Nat), j < k → k ≤ 8 → (enD rc fc sec k).atKey (kls (nm j)) z = dat (macF rc fc sec (byt (nm j)))
  | 0, j, h, _ => absurd h (Nat.not_lt_zero _)
  | k + 1, j, hj, hk => by
    rw [enD]
    by_cases e : j = k
    · subst e
      rw [Maps.atKey_put_same (enD_tidy rc fc sec j).isMap (show WideAt.IsKeyLit (kls (nm j)) from trivial)]
    · rw [Maps.atKey_put_other (kls_ne (by omega) (by omega) e), enD_at rc fc sec z k j (by omega) (by omega)]
theorem enD_size (rc fc sec : List Int) : ∀ k, k ≤ 8 → Maps.size (enD rc fc sec k) = k
  | 0, _ => rfl
  | k + 1, hk => by
    rw [enD, Maps.size_put (enD_tidy rc fc sec k), enD_has rc fc sec k k (by omega) (by omega)]
    simp [enD_size rc fc sec k (by omega)]
theorem nm_mod (n : Int) : nm n = nm (((n % 8).toNat : Nat) : Int) := by
  unfold nm
  congr 2
  omega
/-- All names have their keys. -/
theorem en8 (rc fc sec : List Int) (n : Int) : Maps.has (enD rc fc sec 8) (kls (nm n)) = true ∧ ∀ z, (enD rc fc sec 8).atKey (kls (nm n)) z = dat (macF rc fc sec (byt (nm n))) := by
  rw [nm_mod]
  have h : (n % 8).toNat < 8 := by omega
  exact ⟨by rw [enD_has _ _ _ _ _ h (Nat.le_refl _)]; exact decide_eq_true h, fun z => enD_at _ _ _ _ _ _ h (Nat.le_refl _)⟩

set_option maxRecDepth 100000 in
set_option maxHeartbeats 1000000 in
theorem enrolled_any (v : Value) (sec rc fc : List Int) (w : World) (G : Glob w rc fc) (h : FlatIn w v 1 (sec.map (Value.int .u8))) (hbytes : sec.length ≤ 140737488355328) :
    Calls Tryd.prog 8 #[v] w fun e w' => ∃ r b1 b2 sv, e = .returned (.pointer (some ⟨r, 0, none⟩)) ∧ RingAt w' 0 r b1 b2 sv sec 8 0 (enD rc fc sec 8) (.map []) ∧ Below w.heap.size w w' ∧ w.heap.size ≤ r ∧ w.heap.size ≤ b1 ∧ w.heap.size ≤ b2 := by
  obtain ⟨i0, hi, hz0, hz1, hz2⟩ := info_parts infoB
  have hown0 : (w.alloc (.cells #[] 5)).ownsRow w.heap.size 5 1 (.slice (some ⟨w.heap.size, 0, none⟩) 0 0) 0 [] :=
    ⟨rfl, .inr ⟨w.heap.size, 0, #[], rfl, Nat.le_refl _, by show (w.heap.push _)[w.heap.size]? = _; simp, Nat.le_refl _, by unfold maxLen; omega, rfl, rfl⟩⟩
  have hb0 : Below w.heap.size w (w.alloc (.cells #[] 5)) := (Below.refl _ _).alloc (Nat.le_refl _) _
  have HG := Lib.hid G
  have H := Lib.hid (h.below hb0)
  clear G h
  go_enter Tryd.func8, Tryd.ntmps8
  go_wp2_with (at_builtin; refine wpList_append_flat rfl _ _ 22 rfl w.heap.size 5 i0 (.int .u8 0) 1 1 Tryd.underlying22 hi hz0 hz1 hz2 rfl (by decide) _ _ _ rfl hown0 _ sec.length (sec.map (Value.int .u8)) rfl H.out (by simp) (map_one _ _) (by unfold maxLen; omega) (by omega) (by simp) ?_; intro v1 w1 hown1 hgrow1)
  have hb1 : Below w.heap.size w w1 := hb0.grown hgrow1 (by simp) (fun k hk => by have hk2 : some w.heap.size = some k := hk; injection hk2 with hk2; omega)
  refine (rnew_any v1 sec w1 (BytesIn.ofOwn (n := sec.length) (by simpa using hown1)) hbytes).mono ?_
  rintro e w2 ⟨r, b1, b2, sv, rfl, R, hb2, hr, h1, h2⟩
  have hbw : Below w.heap.size w w2 := hb1.trans (hb2.mono hb1.size)
  have hs1 := hb1.size
  have HR := Lib.hid R
  have HB := Lib.hid hbw
  clear R hb2 hbw hown1 hgrow1 hb1 hown0 hb0 H
  go_wp2_with fail
  go_loopw [4] (fun i wr => ∃ k : Nat, k ≤ 8 ∧ i = .int .i64 k ∧ RingAt wr 0 r b1 b2 sv sec k 0 (enD rc fc sec k) (.map []) ∧ Below w.heap.size w wr) (fun i _ => 8 - (intOf i).toNat)
  case atStart => exact ⟨0, by omega, rfl, HR.out, HB.out⟩
  case round =>
    obtain ⟨k, hk, rfl, hR, hB⟩ := hrel
    by_cases hlt : k < 8
    · have hn := names_ok _ (nm_mem k)
      have hh := enD_has rc fc sec k k hlt hk
      have hsz := enD_size rc fc sec k hk
      have HRr := Lib.hid hR
      have HBr := Lib.hid hB
      clear hR hB
      go_wp2_with fail
      refine (name_any _ _).mono ?_
      rintro e w3 ⟨rfl, hb3⟩
      have hb3w : Below w.heap.size w w3 := HBr.out.trans (hb3.mono HBr.out.size)
      go_wp2_with fail
      refine (enroll_ok r b1 b2 k 0 sv sec _ _ (nm k) rc fc (kls (nm k)) w3 (HRr.out.below hb3) (HG.out.below hb3w) hn.1 hn.2 (kls_key _ (by unfold maxLen; omega)) (by unfold maxLen; omega) (by rw [hh]; simp) (by omega)).mono ?_
      rintro e w4 ⟨rfl, R4, hg4⟩
      have hb4w : Below w.heap.size w w4 := hb3w.trans (below_ofGrown hg4 hb3w.size (by omega))
      go_wp2_with fail
      refine (name_any _ _).mono ?_
      rintro e w5 ⟨rfl, hb5⟩
      have hb5w : Below w.heap.size w w5 := hb4w.trans (hb5.mono hb4w.size)
      go_wp2_with fail
      refine (enroll_twice r b1 b2 (k + 1) 0 sv sec _ _ (nm k) (kls (nm k)) w5 (R4.below hb5) hn.1 hn.2 (kls_key _ (by unfold maxLen; omega)) (by rw [show (enD rc fc sec k).put (kls (nm k)) (dat (macF rc fc sec (byt (nm k)))) = enD rc fc sec (k + 1) from rfl, enD_has rc fc sec (k + 1) k hlt (by omega)]; simp)).mono ?_
      rintro e w6 ⟨rfl, hb6⟩
      go_wp2_with fail
      go_roundw
      case rel => exact ⟨k + 1, by omega, by go_num, (R4.below hb5).below hb6, hb5w.trans (hb6.mono hb5w.size)⟩
      case measure => simp [intOf]; omega
    · obtain rfl : k = 8 := by omega
      go_wp2_with fail
      go_ret
      exact ⟨r, b1, b2, sv, rfl, hR, hB, by omega, by omega, by omega⟩
end Go.Proofs.YthgebhndhilhkaaDoor
