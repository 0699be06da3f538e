/- keys: Enroll's refusals, Has, Names. -/
import Derived.Test.YthgebhndhilhkaaDoorKey6
import Derived.Test.YthgebhndhilhkaaDoorShelfD
import Derived.Maps.RangeWalk
import Derived.Maps.AppendAt
import Derived.Sort.KeysCollected
import Derived.Sort.OwnSorted
namespace Go.Proofs.YthgebhndhilhkaaDoor
open Go.RowKit Go.MuLone Go.Maps Go.Sort

theorem isEmpty_true {s : ByteArray} (h : s.size = 0) : s.toList.isEmpty = true := by
  have e2 : s.data.toList.length = s.size := Array.length_toList
  rw [ByteArray.toList_eq, List.isEmpty_iff]
  exact List.eq_nil_of_length_eq_zero (by omega)
theorem isEmpty_false {s : ByteArray} (h : 0 < s.size) : s.toList.isEmpty = false := by
  have e2 : s.data.toList.length = s.size := Array.length_toList
  rw [ByteArray.toList_eq]
  cases hl : s.data.toList with
  | nil => rw [hl] at e2; simp at e2; omega
  | cons a l => rfl
set_option maxRecDepth 100000 in
set_option maxHeartbeats 1000000 in
theorem enroll_bad (r b1 b2 n1 n2 : Nat) (sv : Value) (sec : List Int) (D1 D2 : DataW Unit) (s : ByteArray) (w : World) (R : RingAt w 0 r b1 b2 sv sec n1 n2 D1 D2) (hbad : s.size = 0 ∨ 64 < s.size) :
    Calls Tryd.prog 30 #[.pointer (some ⟨r, 0, none⟩), .string s] w fun e w' => e = .returned (.int .i64 36) ∧ Below w.heap.size w w' := by
  have HR := Lib.hid R
  clear R
  rcases hbad with hs | hs
  all_goals
    first
      | have hempb : s.toList.isEmpty = true := isEmpty_true hs
      | (have hempb : s.toList.isEmpty = false := isEmpty_false (by omega)
         have hs1i : (64 : Int) < (s.size : Nat) := by omega)
    have Hs := Lib.hid hs
    clear hs
    go_enter_defers Tryd.func30, Tryd.ntmps30
    go_wp2_with fail
    have hlt := HR.out.lt
    refine (lock_free muLib ⟨r, 0, none⟩ _ HR.out.cell0 HR.out.frozen0).mono ?_
    rintro e w1 ⟨rfl, rfl⟩
    have hk1 : Kept w (w.setCell ⟨r, 0, none⟩ (.int .i32 1)) (· = r) := (Kept.refl _ _).set rfl
    have R1 := HR.out.lock 1
    generalize w.setCell ⟨r, 0, none⟩ (.int .i32 1) = W1 at *
    have h1 := Lib.hid (And.intro R1 hk1)
    clear R1 hk1
    go_wp2_with fail
    refine leaves_cons (f := 40) (args := #[.pointer (some ⟨r, 0, none⟩)]) (by simp) (by simp [go_sem]) ?_
    refine (unlock_deferred muLib ⟨r, 0, none⟩ .returning _ h1.out.1.cell0 h1.out.1.frozen0).mono ?_
    rintro e u' w'' ⟨rfl, rfl, rfl⟩
    have hfin : Below w.heap.size w (W1.setCell ⟨r, 0, none⟩ (.int .i32 0)) :=
      ((h1.out.2.set rfl).same (T := fun _ => False) (g := r) (fun k hk => .inr hk) (by rw [(h1.out.1.lock 0).row, HR.out.row])).toBelow
    exact ⟨_, results_tmp rfl _ _ _, rfl, hfin⟩

set_option maxRecDepth 100000 in
set_option maxHeartbeats 1000000 in
theorem enroll_full (r b1 b2 n1 n2 : Nat) (sv : Value) (sec : List Int) (D1 D2 : DataW Unit) (s : ByteArray) (ks : Lit) (w : World) (R : RingAt w 0 r b1 b2 sv sec n1 n2 D1 D2)
    (hs0 : 0 < s.size) (hs1 : s.size ≤ 64) (hks : keyOf Tryd.prog 9 (.string s) = some ks)
    (hhas : Maps.has D1 ks = false) (hlen : 256 ≤ Maps.size D1) :
    Calls Tryd.prog 30 #[.pointer (some ⟨r, 0, none⟩), .string s] w fun e w' => e = .returned (.int .i64 183) ∧ Below w.heap.size w w' := by
  have HR := Lib.hid R
  clear R
  have hempb : s.toList.isEmpty = false := isEmpty_false hs0
  have hs1i : ¬ ((64 : Int) < (s.size : Nat)) := by omega
  go_enter_defers Tryd.func30, Tryd.ntmps30
  go_wp2_with fail
  have hlt := HR.out.lt
  refine (lock_free muLib ⟨r, 0, none⟩ _ HR.out.cell0 HR.out.frozen0).mono ?_
  rintro e w1 ⟨rfl, rfl⟩
  have hk1 : Kept w (w.setCell ⟨r, 0, none⟩ (.int .i32 1)) (· = r) := (Kept.refl _ _).set rfl
  have R1 := HR.out.lock 1
  have hsz1 : (w.setCell ⟨r, 0, none⟩ (.int .i32 1)).heap.size = w.heap.size := by simp
  generalize w.setCell ⟨r, 0, none⟩ (.int .i32 1) = W1 at *
  have c3 := R1.cell3
  have h1 := Lib.hid (And.intro R1 (And.intro hk1 hsz1))
  obtain ⟨key', hkl2, hkat, hlk⟩ := look_D (t := 84) R1.keys lawS Tryd.underlying84 hks
  have hl := hlk W1 rfl
  rw [hhas] at hl
  have hksz : (encA .u8 key').size = 32 := by rw [encA_size, hkl2]
  have Hksz := Lib.hid hksz
  clear R1 hk1 hsz1 hlk hksz
  go_upto_region 8 with (refine wpList_store_row rfl 27 _ _ rfl W1.heap.size _ rfl rfl _ _ (heap_alloc_new _ _) (by rw [Hksz.out]; exact sz_d) (by rw [Hksz.out]; rfl) (encA_one _ _) ?_; rw [World.setRow_alloc_new])
  have hVk : Kept w (W1.alloc (.cells (encA .u8 key') 27)) (· = r) := h1.out.2.1.alloc _
  have hVR := h1.out.1.below ((Below.refl W1.heap.size W1).alloc (Nat.le_refl _) (.cells (encA .u8 key') 27))
  generalize W1.alloc (.cells (encA .u8 key') 27) = V at *
  have cV3 := hVR.cell3
  have hown := hVR.keys
  have HV := Lib.hid (And.intro hVk hVR)
  have hli : (256 : Int) ≤ (Maps.size D1 : Nat) := by omega
  clear hVk hVR h1
  go_wp2_with (at_len; refine wpList_len_own _ rfl _ 84 rfl 9 27 Tryd.underlying84 digR b1 n1 D1 rfl hown ?_)
  refine leaves_cons (f := 40) (args := #[.pointer (some ⟨r, 0, none⟩)]) (by simp) (by simp [go_sem]) ?_
  refine (unlock_deferred muLib ⟨r, 0, none⟩ .returning _ HV.out.2.cell0 HV.out.2.frozen0).mono ?_
  rintro e u' w'' ⟨rfl, rfl, rfl⟩
  have hfin : Below w.heap.size w (V.setCell ⟨r, 0, none⟩ (.int .i32 0)) :=
    ((HV.out.1.set rfl).same (T := fun _ => False) (g := r) (fun k hk => .inr hk) (by rw [(HV.out.2.lock 0).row, HR.out.row])).toBelow
  exact ⟨_, results_tmp rfl _ _ _, rfl, hfin⟩

set_option maxRecDepth 100000 in
set_option maxHeartbeats 1000000 in
theorem has_any (r b1 b2 n1 n2 : Nat) (sv : Value) (sec : List Int) (D1 D2 : DataW Unit) (s : ByteArray) (ks : Lit) (w : World) (R : RingAt w 0 r b1 b2 sv sec n1 n2 D1 D2)
    (hks : keyOf Tryd.prog 9 (.string s) = some ks) :
    Calls Tryd.prog 31 #[.pointer (some ⟨r, 0, none⟩), .string s] w fun e w' => e = .returned (.bool (Maps.has D1 ks)) ∧ Below w.heap.size w w' := by
  have HR := Lib.hid R
  clear R
  go_enter_defers Tryd.func31, Tryd.ntmps31
  go_wp2_with fail
  have hlt := HR.out.lt
  refine (lock_free muLib ⟨r, 0, none⟩ _ HR.out.cell0 HR.out.frozen0).mono ?_
  rintro e w1 ⟨rfl, rfl⟩
  have hk1 : Kept w (w.setCell ⟨r, 0, none⟩ (.int .i32 1)) (· = r) := (Kept.refl _ _).set rfl
  have R1 := HR.out.lock 1
  generalize w.setCell ⟨r, 0, none⟩ (.int .i32 1) = W1 at *
  have c3 := R1.cell3
  have h1 := Lib.hid (And.intro R1 hk1)
  obtain ⟨key', hkl2, hkat, hlk⟩ := look_D (t := 84) R1.keys lawS Tryd.underlying84 hks
  have hl := hlk W1 rfl
  have hksz : (encA .u8 key').size = 32 := by rw [encA_size, hkl2]
  have Hksz := Lib.hid hksz
  clear R1 hk1 hlk hksz
  go_wp2_with (refine wpList_store_row rfl 27 _ _ rfl W1.heap.size _ rfl rfl _ _ (heap_alloc_new _ _) (by rw [Hksz.out]; exact sz_d) (by rw [Hksz.out]; rfl) (encA_one _ _) ?_; rw [World.setRow_alloc_new])
  refine leaves_cons (f := 40) (args := #[.pointer (some ⟨r, 0, none⟩)]) (by simp) (by simp [go_sem]) ?_
  have hVk : Kept w (W1.alloc (.cells (encA .u8 key') 27)) (· = r) := h1.out.2.alloc _
  have RV := h1.out.1.below ((Below.refl W1.heap.size W1).alloc (Nat.le_refl _) (.cells (encA .u8 key') 27))
  generalize W1.alloc (.cells (encA .u8 key') 27) = V at *
  refine (unlock_deferred muLib ⟨r, 0, none⟩ .returning _ RV.cell0 RV.frozen0).mono ?_
  rintro e u' w'' ⟨rfl, rfl, rfl⟩
  have hfin : Below w.heap.size w (V.setCell ⟨r, 0, none⟩ (.int .i32 0)) :=
    ((hVk.set rfl).same (T := fun _ => False) (g := r) (fun k hk => .inr hk) (by rw [(RV.lock 0).row, HR.out.row])).toBelow
  exact ⟨_, results_tmp rfl _ _ _, rfl, hfin⟩

theorem infoS : (Tryd.prog.info? 9).map (fun i => (i.zero, i.size, i.bytes)) = some (some (.string ⟨#[]⟩), 1, 16) := by kernel_rfl
def SliceIs (n : Nat) (w : World) (e : Ending) (w' : World) : Prop := ∃ A c, e = .returned (.slice A n c) ∧ Below w.heap.size w w'
theorem strKeys_length {D : DataW Unit} (h : ∃ es, D = .map es) : (strKeys D).length = Maps.size D := by
  obtain ⟨es, rfl⟩ := h
  simp [strKeys, Maps.size]
set_option maxRecDepth 100000 in
set_option maxHeartbeats 4000000 in
theorem names_any (r b1 b2 n1 n2 : Nat) (sv : Value) (sec : List Int) (D1 D2 : DataW Unit) (w : World) (R : RingAt w 0 r b1 b2 sv sec n1 n2 D1 D2) (h0 : 0 < Maps.size D1) (h256 : Maps.size D1 ≤ 256) (hD : ∃ es, D1 = .map es) :
    Calls Tryd.prog 32 #[.pointer (some ⟨r, 0, none⟩)] w (SliceIs (Maps.size D1) w) := by
  have HR := Lib.hid R
  have HD := Lib.hid hD
  clear R hD
  obtain ⟨i0, hi, hz0, hz1, hz2⟩ := info_parts infoS
  go_enter_defers Tryd.func32, Tryd.ntmps32
  go_wp2_with fail
  refine (lock_free muLib ⟨r, 0, none⟩ _ HR.out.cell0 HR.out.frozen0).mono ?_
  rintro e w1 ⟨rfl, rfl⟩
  have R1 := HR.out.lock 1
  have hk1 : Kept w (w.setCell ⟨r, 0, none⟩ (.int .i32 1)) (· = r) := (Kept.refl _ _).set rfl
  generalize w.setCell ⟨r, 0, none⟩ (.int .i32 1) = W1 at *
  have c3 := R1.cell3
  have hown := R1.keys
  have H1 := Lib.hid (And.intro R1 hk1)
  have Hi := Lib.hid (And.intro hi (And.intro hz0 (And.intro hz1 hz2)))
  have Hown := Lib.hid hown
  clear R1 hk1 hi hz0 hz1 hz2 hown
  go_wp2_with (at_range; refine wpList_range_own _ rfl _ 84 rfl 9 27 lawS Tryd.underlying84 digR b1 _ D1 rfl Hown.out ?_; intro w0 hrg0 hg0 hs0)
  go_frame
  obtain ⟨rr, hrr⟩ : ∃ rr, rr = W1.heap.size := ⟨_, rfl⟩
  rw [← hrr] at hrg0 ⊢
  have hb0 : Below rr W1 w0 := ⟨hg0.os, hg0.tape, hg0.output, by omega, fun k hk => hg0.block k (by omega) (by simp)⟩
  have hs0' : rr + 1 ≤ w0.heap.size := by omega
  have hb2 : b1 < rr := by rw [hrr]; exact Hown.out.lt
  have Hrr := Lib.hid hrr
  have H0 := Lib.hid (And.intro hrg0 (And.intro hb0 hs0'))
  clear hrr hrg0 hb0 hs0' hs0 hg0 c3
  go_loopw [3] (fun v wr => ∃ (left : Lit → Bool) (cnt : Nat) (ss : List (List UInt8)), wr.ranges Tryd.prog 9 digR b1 rr n1 D1 left cnt ∧ wr.ownsRow (rr + 1) 9 1 v ss.length (ss.map encStr) ∧ Collected D1 left ss ∧ ss.length + cnt ≤ Maps.size D1 ∧ (ss = [] ∨ v ≠ .slice none 0 0) ∧ Below rr W1 wr ∧ rr + 1 ≤ wr.heap.size) (fun _ wr => wr.rangeLeft b1 rr)
  case atStart => exact ⟨Maps.has D1, _, [], H0.out.1, ⟨rfl, .inl ⟨rfl, rfl⟩⟩, Collected.start D1, by simp, .inl rfl, H0.out.2.1, H0.out.2.2⟩
  case round =>
    obtain ⟨left, cnt, ss, hrg, hv, hC, hcs, hnn, hB, hsz⟩ := hrel
    have Hrg := Lib.hid hrg
    have Hv := Lib.hid (And.intro hv (And.intro hC (And.intro hnn hB)))
    clear hrg hv hC hnn hB
    go_wp2_with (at_next; refine wpList_next_ranges wr rfl _ rfl 9 lawS digR encStr (fun c : List Int => .agg (encA .u8 c)) (fun key kl hk => by obtain ⟨x, hx, _⟩ := Maps.keyOf_str Tryd.underlying9 hk; exact ⟨x, hx⟩) (fun v y h => by obtain ⟨ds, _, h2, _⟩ := digR_inv (d := y.1) (ps := y.2) h; exact ⟨ds, h2⟩) b1 rr _ D1 left cnt rfl Hrg.out ?_ ?_)
    · intro hc0 hl0
      have hlen : ss.length = Maps.size D1 := by
        rw [← strKeys_length HD.out]
        exact (Hv.out.2.1.perm Hown.out lawS Tryd.underlying9 hl0).length_eq
      have hnn2 : u3 ≠ .slice none 0 0 := by
        rcases Hv.out.2.2.1 with e | e
        · rw [e] at hlen; simp at hlen; omega
        · exact e
      rcases Hv.out.1.2 with ⟨hnil, _⟩ | ⟨g, cap, cur, hvv, hbase, hb, k1, k2, k3, k4⟩
      · exact absurd hnil hnn2
      subst hvv
      have hH : Holds encStr wr g 0 ss.toArray := holds_of_block hb (by simpa using k4)
      have hgl : g < wr.heap.size := (Array.getElem?_eq_some_iff.1 hb).1
      have hsort := Tryd.slices_Sort_string g 0 cap ss wr hH hgl (by omega)
      have hfk : Kept W1 wr (fun _ => False) := Kept.ofBelow (by rw [← Hrr.out]; exact Hv.out.2.2.2) _
      have HX := Lib.hid (And.intro hsort (And.intro hfk (And.intro hbase hlen)))
      clear hc0 hl0 hsort hfk hbase hlen hb k1 k2 k3 k4 hH hgl hnn2
      go_wp2_with (go_at_call 68; refine HX.out.1.mono ?_; rintro e w' ⟨rfl, nn, os, rfl⟩)
      have hB9 : Below rr W1 (Sort.grow (Sort.putRow encStr (Sort.ahead wr nn) g 0 (ss.mergeSort fun x y => decide (x ≤ y)).toArray) os) := Hv.out.2.2.2.grown (grownBy_sorted _) (by omega) (fun j hj => by cases hj; have := HX.out.2.2.1; omega)
      generalize Sort.grow (Sort.putRow encStr (Sort.ahead wr nn) g 0 (ss.mergeSort fun x y => decide (x ≤ y)).toArray) os = W9 at *
      have hfk : Kept W1 W9 (fun _ => False) := Kept.ofBelow (by rw [← Hrr.out]; exact hB9) _
      have RV : RingAt W9 1 r b1 b2 sv sec n1 n2 D1 D2 := H1.out.1.kept hfk (fun e => e) (fun e => e) (fun e => e) (fun _ _ _ _ e => e)
      have hfin : Below w.heap.size w (W9.setCell ⟨r, 0, none⟩ (.int .i32 0)) :=
        (((H1.out.2.trans (hfk.mono fun _ e => e.elim)).set rfl).same (T := fun _ => False) (g := r) (fun k hk => .inr hk) (by rw [(RV.lock 0).row, HR.out.row])).toBelow
      refine leaves_cons (f := 40) (args := #[.pointer (some ⟨r, 0, none⟩)]) (by simp) (by simp [go_sem]) ?_
      refine (unlock_deferred muLib ⟨r, 0, none⟩ .returning _ RV.cell0 RV.frozen0).mono ?_
      rintro e u' w'' ⟨rfl, rfl, rfl⟩
      exact ⟨_, results_tmp rfl _ _ _, ⟨_, cap, by rw [← HX.out.2.2.2]; rfl, hfin⟩⟩
    · intro x c kl yd yp w2 cnt1 hkey hlk hvv hat hrg1 hlt hg1 hs1 hen
      obtain ⟨x', ex, rfl, _⟩ := Maps.keyOf_str Tryd.underlying9 hkey
      obtain rfl : x = x' := encStr_inj ex
      have hrow2 := Hv.out.1.kept hg1 (Or.inr (row_ne_iter Hv.out.1 Hrg.out).symm)
      have hC2 := Hv.out.2.1.step hlk hat
      have hw2 : w2.heap.size = wr.heap.size := hs1
      have hB2 : Below rr W1 w2 := Hv.out.2.2.2.grown hg1 (by omega) (fun k hk => by injection hk with hk; omega)
      have Hw2 := Lib.hid hw2
      have HX := Lib.hid (And.intro hrg1 (And.intro hrow2 (And.intro hC2 (And.intro hB2 hlt))))
      clear hrg1 hrow2 hC2 hB2 hlt hs1 hw2 hkey hlk hvv hat hg1 ex
      go_wp2_with (at_builtin; go_loud (refine wpList_append_own_at _ rfl _ _ 65 rfl (rr + 1) 9 i0 (.string ⟨#[]⟩) 1 16 Tryd.underlying65 Hi.out.1 Hi.out.2.1 Hi.out.2.2.1 Hi.out.2.2.2 rfl (by decide) _ _ _ rfl (HX.out.2.1.alloc _) ⟨w2.heap.size, 0, none⟩ 1 1 [encStr x] rfl rfl (cell_one_new _ _ _) (by simp [Value.oneCell', encStr]) (by unfold maxLen; have := HX.out.2.2.2.2; omega) (by have := HX.out.2.2.2.2; omega) (by have := Hw2.out; simp; omega) ?_); intro v3 w3 hown3 hg3 hnil3 hat3)
      have hrg3 := (HX.out.1.alloc (.cells #[encStr x] 9)).kept hg3 (row_ne_low HX.out.2.1 (by omega)) (row_ne_iter HX.out.2.1 HX.out.1)
      have hs3 := hg3.size
      have hs4 : w2.heap.size + 1 ≤ w3.heap.size := by simpa using hs3
      have hB3 : Below rr W1 w3 := (HX.out.2.2.2.1.alloc (by have := Hw2.out; omega) _).grown hg3 (by have := Hw2.out; simp; omega) (fun k hk => by have := (HX.out.2.1.lt k hk).1; omega)
      have hnn3 : v3 ≠ .slice none 0 0 := fun hv' => by have := (hnil3.1 hv').2; omega
      have HF := Lib.hid (And.intro hown3 (And.intro hrg3 (And.intro hB3 hnn3)))
      have Hs := Lib.hid hs4
      clear hown3 hg3 hnil3 hat3 hrg3 hB3 hs3 hnn3 hs4
      go_roundw
      case rel => exact ⟨_, cnt1, ss ++ [x], HF.out.2.1, by simpa using HF.out.1, HX.out.2.2.1, by have := HX.out.2.2.2.2; simp; omega, .inr HF.out.2.2.2, HF.out.2.2.1, by have := Hs.out; have := Hw2.out; omega⟩
      case measure => rw [HF.out.2.1.left_eq, Hrg.out.left_eq]; exact HX.out.2.2.2.2
end Go.Proofs.YthgebhndhilhkaaDoor
