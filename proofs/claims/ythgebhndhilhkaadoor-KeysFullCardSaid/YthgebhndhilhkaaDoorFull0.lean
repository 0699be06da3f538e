/- KeysFull: the names, and the ring with all of them. -/
import Derived.Test.YthgebhndhilhkaaDoorKey9
import Derived.Test.YthgebhndhilhkaaDoorLaw1
namespace Go.Proofs.YthgebhndhilhkaaDoor
open Go.RowKit Go.MuLone Go.Maps

def kn (i : Nat) : ByteArray := ⟨#[107, UInt8.ofNat (65 + i / 16), UInt8.ofNat (65 + i % 16)]⟩
theorem kn_size (i : Nat) : (kn i).size = 3 := rfl
theorem kn_inj {i j : Nat} (hi : i < 256) (hj : j < 256) (h : (kn i).data.toList = (kn j).data.toList) : i = j := by
  simp only [kn, List.cons.injEq, and_true, true_and] at h
  obtain ⟨h1, h2⟩ := h
  have e1 := congrArg UInt8.toNat h1
  have e2 := congrArg UInt8.toNat h2
  simp only [UInt8.toNat_ofNat'] at e1 e2
  omega
theorem kn_ne {i j : Nat} (hi : i < 256) (hj : j < 256) (h : i ≠ j) : kls (kn i) ≠ kls (kn j) := fun e => h (kn_inj hi hj (by injection e))
def enF (rc fc sec : List Int) : Nat → DataW Unit
  | 0 => .map []
  | k + 1 => (enF rc fc sec k).put (kls (kn k)) (dat (macF rc fc sec (byt (kn k))))
theorem enF_tidy (rc fc sec : List Int) : ∀ k, Maps.Tidy (enF rc fc sec k)
  | 0 => Maps.tidy_empty
  | k + 1 => (enF_tidy rc fc sec k).put (k := kls (kn k)) trivial _
theorem enF_has (rc fc sec : List Int) : ∀ (k j : Nat), j < 256 → k ≤ 256 → Maps.has (enF rc fc sec k) (kls (kn j)) = decide (j < k)
  | 0, j, _, _ => rfl
  | k + 1, j, hj, hk => by
    rw [enF]
    by_cases e : j = k
    · subst e
      rw [Maps.has_put_same (enF_tidy rc fc sec j).isMap (show WideAt.IsKeyLit (kls (kn j)) from trivial)]
      simp
    · rw [Maps.has_put_other (kn_ne hj (by omega) e), enF_has rc fc sec k j hj (by omega)]
      exact decide_eq_decide.2 (by omega)
theorem enF_size (rc fc sec : List Int) : ∀ k, k ≤ 256 → Maps.size (enF rc fc sec k) = k
  | 0, _ => rfl
  | k + 1, hk => by
    rw [enF, Maps.size_put (enF_tidy rc fc sec k), enF_has rc fc sec k k (by omega) (by omega)]
    simp [enF_size rc fc sec k (by omega)]
theorem enF_map (rc fc sec : List Int) (k : Nat) : ∃ es, enF rc fc sec k = .map es := by
  obtain ⟨es, h⟩ := (enF_tidy rc fc sec k).isMap
  exact ⟨es, h⟩

set_option maxRecDepth 100000 in
set_option maxHeartbeats 4000000 in
theorem full_any (v : Value) (late : ByteArray) (sec rc fc : List Int) (w : World) (G : Glob w rc fc) (h : FlatIn w v 1 (sec.map (Value.int .u8))) (hbytes : sec.length ≤ 140737488355328) (hlate : late.size ≤ 140737488355328) :
    Calls Tryd.prog 6 #[v, .string late] w fun e w' => e = .returned (.bool true) ∧ Below w.heap.size w w' := by
  obtain ⟨i0, hi, hz0, hz1, hz2⟩ := info_parts infoB
  have hown0 : (w.alloc (.cells #[] 5)).ownsRow w.heap.size 5 1 (.slice (some ⟨w.heap.size, 0, none⟩) 0 0) 0 [] :=
    ⟨rfl, .inr ⟨w.heap.size, 0, #[], rfl, Nat.le_refl _, by show (w.heap.push _)[w.heap.size]? = _; simp, Nat.le_refl _, by unfold maxLen; omega, rfl, rfl⟩⟩
  have hb0 : Below w.heap.size w (w.alloc (.cells #[] 5)) := (Below.refl _ _).alloc (Nat.le_refl _) _
  have HG := Lib.hid G
  have H := Lib.hid (h.below hb0)
  clear G h
  go_enter Tryd.func6, Tryd.ntmps6
  go_wp2_with (at_builtin; refine wpList_append_flat rfl _ _ 22 rfl w.heap.size 5 i0 (.int .u8 0) 1 1 Tryd.underlying22 hi hz0 hz1 hz2 rfl (by decide) _ _ _ rfl hown0 _ sec.length (sec.map (Value.int .u8)) rfl H.out (by simp) (map_one _ _) (by unfold maxLen; omega) (by omega) (by simp) ?_; intro v1 w1 hown1 hgrow1)
  have hb1 : Below w.heap.size w w1 := hb0.grown hgrow1 (by simp) (fun k hk => by have hk2 : some w.heap.size = some k := hk; injection hk2 with hk2; omega)
  refine (rnew_any v1 sec w1 (BytesIn.ofOwn (n := sec.length) (by simpa using hown1)) hbytes).mono ?_
  rintro e w2 ⟨r, b1, b2, sv, rfl, R, hb2, hr, h1, h2⟩
  have hbw : Below w.heap.size w w2 := hb1.trans (hb2.mono hb1.size)
  have hs1 := hb1.size
  have HR := Lib.hid R
  have HB := Lib.hid hbw
  clear R hb2 hbw hown1 hgrow1 hb1 hown0 hb0 H hi hz0 hz1 hz2
  go_wp2_with fail
  go_loopw [6] (fun i wr => ∃ k : Nat, k ≤ 256 ∧ i = .int .i64 k ∧ RingAt wr 0 r b1 b2 sv sec k 0 (enF rc fc sec k) (.map []) ∧ Below w.heap.size w wr) (fun i _ => 256 - (intOf i).toNat)
  case atStart => exact ⟨0, by omega, rfl, HR.out, HB.out⟩
  case round =>
    obtain ⟨k, hk, rfl, hR, hB⟩ := hrel
    have HRr := Lib.hid hR
    have HBr := Lib.hid hB
    clear hR hB
    by_cases hlt : k < 256
    · have hh := enF_has rc fc sec k k hlt hk
      have hsz := enF_size rc fc sec k hk
      have Hh := Lib.hid (And.intro hh hsz)
      clear hh hsz
      have hcv := run_convert_bytes_arg (P := Tryd.prog) (wr.alloc (.cells #[.int .u8 (65 + (k : Int) / 16), .int .u8 (65 + (k : Int) % 16)] 5)) 22 5 Tryd.underlying22 Tryd.underlying5 wr.heap.size 0 2 2 [65 + (k : Int) / 16, 65 + (k : Int) % 16] rfl (fun i hi => by
        have h2 : i = 0 ∨ i = 1 := by have : i < 2 := hi; omega
        rcases h2 with rfl | rfl <;> rw [cell_of_row _ _ _ _ _ _ (heap_alloc_new _ _)] <;> rfl) 9 Tryd.underlying9
      have hkn : (⟨#[107]⟩ : ByteArray) ++ strOfNums [65 + (k : Int) / 16, 65 + (k : Int) % 16] = kn k := by
        have e1 : (65 + (k : Int) / 16).toNat = 65 + k / 16 := by omega
        have e2 : (65 + (k : Int) % 16).toNat = 65 + k % 16 := by omega
        apply ByteArray.ext
        rw [ByteArray.data_append]
        simp only [strOfNums, List.map_cons, List.map_nil, e1, e2, kn]
        rfl
      have Hkn := Lib.hid hkn
      have hYb : Below wr.heap.size wr (wr.alloc (.cells #[.int .u8 (65 + (k : Int) / 16), .int .u8 (65 + (k : Int) % 16)] 5)) := (Below.refl _ _).alloc (Nat.le_refl _) _
      clear hkn
      go_upto_region 8 with fail
      rw [Hkn.out]
      clear hcv
      generalize wr.alloc (.cells #[.int .u8 (65 + (k : Int) / 16), .int .u8 (65 + (k : Int) % 16)] 5) = Y at *
      have HY := Lib.hid (And.intro (HRr.out.below hYb) (HBr.out.trans (hYb.mono HBr.out.size)))
      clear hYb
      go_wp2_with fail
      refine (enroll_ok r b1 b2 k 0 sv sec _ _ (kn k) rc fc (kls (kn k)) Y HY.out.1 (HG.out.below HY.out.2) (by rw [kn_size]; decide) (by rw [kn_size]; decide) (kls_key _ (by rw [kn_size]; unfold maxLen; decide)) (by unfold maxLen; omega) (by rw [Hh.out.1]; simp) (by rw [Hh.out.2]; omega)).mono ?_
      rintro e w4 ⟨rfl, R4, hg4⟩
      have hb4 : Below w.heap.size w w4 := HY.out.2.trans (below_ofGrown hg4 HY.out.2.size (by omega))
      have H4 := Lib.hid (And.intro R4 hb4)
      clear R4 hg4 hb4
      go_wp2_with fail
      refine (enroll_bad r b1 b2 (k + 1) 0 sv sec _ _ _ w4 H4.out.1 (.inl rfl)).mono ?_
      rintro e w5 ⟨rfl, hb5⟩
      have H5 := Lib.hid (And.intro (H4.out.1.below hb5) (H4.out.2.trans (hb5.mono H4.out.2.size)))
      clear hb5
      go_wp2_with fail
      go_roundw
      case rel => exact ⟨k + 1, by omega, by go_num, H5.out.1, H5.out.2⟩
      case measure => simp [intOf]; omega
    · obtain rfl : k = 256 := by omega
      clear hlt
      have hsz := enF_size rc fc sec 256 (Nat.le_refl _)
      have Hsz := Lib.hid hsz
      have hka : Maps.has (enF rc fc sec 256) (kls ⟨#[107, 65, 65]⟩) = true := by
        have e := enF_has rc fc sec 256 0 (by decide) (Nat.le_refl _)
        rw [show kn 0 = ⟨#[107, 65, 65]⟩ from rfl] at e
        rw [e]; rfl
      have Hka := Lib.hid hka
      clear hsz hka
      by_cases l0 : late.size = 0
      · have hempb : late.toList.isEmpty = true := isEmpty_true l0
        have L0 := Lib.hid l0
        clear l0
        have HY1 := Lib.hid (And.intro HRr.out HBr.out)
        go_wp2_with fail
        refine (enroll_bad r b1 b2 256 0 sv sec _ _ late _ HY1.out.1 (.inl L0.out)).mono ?_
        rintro e y2 ⟨rfl, hb2⟩
        have HY2 := Lib.hid (And.intro (HY1.out.1.below hb2) (HY1.out.2.trans (hb2.mono HY1.out.2.size)))
        clear hb2
        go_wp2_with fail
        have hnm := names_any r b1 b2 256 0 sv sec _ _ y2 HY2.out.1 (by rw [Hsz.out]; decide) (by rw [Hsz.out]; decide) (enF_map rc fc sec 256)
        rw [Hsz.out] at hnm
        refine hnm.mono ?_
        rintro e y3 ⟨A3, c3, rfl, hb3⟩
        have HY3 := Lib.hid (And.intro (HY2.out.1.below hb3) (HY2.out.2.trans (hb3.mono HY2.out.2.size)))
        clear hb3 hnm
        go_wp2_with fail
        refine (enroll_twice r b1 b2 256 0 sv sec _ _ ⟨#[107, 65, 65]⟩ (kls ⟨#[107, 65, 65]⟩) y3 HY3.out.1 (by decide) (by decide) (kls_key _ (by unfold maxLen; decide)) Hka.out).mono ?_
        rintro e y4 ⟨rfl, hb4⟩
        have hfin : Below w.heap.size w y4 := HY3.out.2.trans (hb4.mono HY3.out.2.size)
        clear hb4
        go_wp2_with fail
        go_ret
        exact ⟨rfl, hfin⟩
      · have hempb : late.toList.isEmpty = false := isEmpty_false (by omega)
        by_cases l64 : 64 < late.size
        · have hli : (64 : Int) < (late.size : Nat) := by omega
          have L0 := Lib.hid l64
          clear l0 l64
          have HY1 := Lib.hid (And.intro HRr.out HBr.out)
          go_wp2_with fail
          refine (enroll_bad r b1 b2 256 0 sv sec _ _ late _ HY1.out.1 (.inr L0.out)).mono ?_
          rintro e y2 ⟨rfl, hb2⟩
          have HY2 := Lib.hid (And.intro (HY1.out.1.below hb2) (HY1.out.2.trans (hb2.mono HY1.out.2.size)))
          clear hb2
          go_wp2_with fail
          have hnm := names_any r b1 b2 256 0 sv sec _ _ y2 HY2.out.1 (by rw [Hsz.out]; decide) (by rw [Hsz.out]; decide) (enF_map rc fc sec 256)
          rw [Hsz.out] at hnm
          refine hnm.mono ?_
          rintro e y3 ⟨A3, c3, rfl, hb3⟩
          have HY3 := Lib.hid (And.intro (HY2.out.1.below hb3) (HY2.out.2.trans (hb3.mono HY2.out.2.size)))
          clear hb3 hnm
          go_wp2_with fail
          refine (enroll_twice r b1 b2 256 0 sv sec _ _ ⟨#[107, 65, 65]⟩ (kls ⟨#[107, 65, 65]⟩) y3 HY3.out.1 (by decide) (by decide) (kls_key _ (by unfold maxLen; decide)) Hka.out).mono ?_
          rintro e y4 ⟨rfl, hb4⟩
          have hfin : Below w.heap.size w y4 := HY3.out.2.trans (hb4.mono HY3.out.2.size)
          clear hb4
          go_wp2_with fail
          go_ret
          exact ⟨rfl, hfin⟩
        · have hli : ¬ ((64 : Int) < (late.size : Nat)) := by omega
          have hkl := kls_key late (by unfold maxLen; omega)
          have L0 := Lib.hid (And.intro (show 0 < late.size by omega) (show late.size ≤ 64 by omega))
          have Hkl := Lib.hid hkl
          clear hkl l0 l64
          cases hb : Maps.has (enF rc fc sec 256) (kls late)
          · have Hb := Lib.hid hb
            clear hb
            go_wp2_with fail
            refine (has_any r b1 b2 256 0 sv sec _ _ late (kls late) _ HRr.out Hkl.out).mono ?_
            rintro e y1 ⟨rfl, hb1⟩
            rw [Hb.out]
            have HY1 := Lib.hid (And.intro (HRr.out.below hb1) (HBr.out.trans (hb1.mono HBr.out.size)))
            clear hb1
            go_wp2_with fail
            refine (enroll_full r b1 b2 256 0 sv sec _ _ late (kls late) _ HY1.out.1 L0.out.1 L0.out.2 Hkl.out Hb.out (by rw [Hsz.out]; exact Nat.le_refl _)).mono ?_
            rintro e y2 ⟨rfl, hb2⟩
            have HY2 := Lib.hid (And.intro (HY1.out.1.below hb2) (HY1.out.2.trans (hb2.mono HY1.out.2.size)))
            clear hb2
            go_wp2_with fail
            have hnm := names_any r b1 b2 256 0 sv sec _ _ y2 HY2.out.1 (by rw [Hsz.out]; decide) (by rw [Hsz.out]; decide) (enF_map rc fc sec 256)
            rw [Hsz.out] at hnm
            refine hnm.mono ?_
            rintro e y3 ⟨A3, c3, rfl, hb3⟩
            have HY3 := Lib.hid (And.intro (HY2.out.1.below hb3) (HY2.out.2.trans (hb3.mono HY2.out.2.size)))
            clear hb3 hnm
            go_wp2_with fail
            refine (enroll_twice r b1 b2 256 0 sv sec _ _ ⟨#[107, 65, 65]⟩ (kls ⟨#[107, 65, 65]⟩) y3 HY3.out.1 (by decide) (by decide) (kls_key _ (by unfold maxLen; decide)) Hka.out).mono ?_
            rintro e y4 ⟨rfl, hb4⟩
            have hfin : Below w.heap.size w y4 := HY3.out.2.trans (hb4.mono HY3.out.2.size)
            clear hb4
            go_wp2_with fail
            go_ret
            exact ⟨rfl, hfin⟩
          · have Hb := Lib.hid hb
            clear hb
            go_wp2_with fail
            refine (has_any r b1 b2 256 0 sv sec _ _ late (kls late) _ HRr.out Hkl.out).mono ?_
            rintro e y1 ⟨rfl, hb1⟩
            rw [Hb.out]
            have HY1 := Lib.hid (And.intro (HRr.out.below hb1) (HBr.out.trans (hb1.mono HBr.out.size)))
            clear hb1
            go_wp2_with fail
            refine (enroll_twice r b1 b2 256 0 sv sec _ _ late (kls late) _ HY1.out.1 L0.out.1 L0.out.2 Hkl.out Hb.out).mono ?_
            rintro e y2 ⟨rfl, hb2⟩
            have HY2 := Lib.hid (And.intro (HY1.out.1.below hb2) (HY1.out.2.trans (hb2.mono HY1.out.2.size)))
            clear hb2
            go_wp2_with fail
            have hnm := names_any r b1 b2 256 0 sv sec _ _ y2 HY2.out.1 (by rw [Hsz.out]; decide) (by rw [Hsz.out]; decide) (enF_map rc fc sec 256)
            rw [Hsz.out] at hnm
            refine hnm.mono ?_
            rintro e y3 ⟨A3, c3, rfl, hb3⟩
            have HY3 := Lib.hid (And.intro (HY2.out.1.below hb3) (HY2.out.2.trans (hb3.mono HY2.out.2.size)))
            clear hb3 hnm
            go_wp2_with fail
            refine (enroll_twice r b1 b2 256 0 sv sec _ _ ⟨#[107, 65, 65]⟩ (kls ⟨#[107, 65, 65]⟩) y3 HY3.out.1 (by decide) (by decide) (kls_key _ (by unfold maxLen; decide)) Hka.out).mono ?_
            rintro e y4 ⟨rfl, hb4⟩
            have hfin : Below w.heap.size w y4 := HY3.out.2.trans (hb4.mono HY3.out.2.size)
            clear hb4
            go_wp2_with fail
            go_ret
            exact ⟨rfl, hfin⟩
end Go.Proofs.YthgebhndhilhkaaDoor
