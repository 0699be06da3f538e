/- keys: Signed, where one pair is signed. -/
import Derived.Test.YthgebhndhilhkaaDoorKey7
import Derived.Test.YthgebhndhilhkaaDoorBuild0
namespace Go.Proofs.YthgebhndhilhkaaDoor
open Go.RowKit Go.MuLone Go.Maps

/-- What is left of a map with one entry. -/
theorem sg1_has (rc fc sec : List Int) (p : Pr) (hp : PrOk p) (kl : Lit) (h : Maps.has (sgD rc fc sec [p]) kl = true) : kl = klp (nm p.1) p.2 := by
  by_cases e : kl = klp (nm p.1) p.2
  · exact e
  · rw [sgD, Maps.has_put_other e] at h
    simp [sgD, Maps.has] at h
set_option maxRecDepth 100000 in
theorem sg1_self (rc fc sec : List Int) (p : Pr) (hp : PrOk p) : Maps.has (sgD rc fc sec [p]) (klp (nm p.1) p.2) = true :=
  ((sgD_spec rc fc sec (dat zer32) [p] (fun q hq => by obtain rfl := List.mem_singleton.1 hq; exact hp) p hp).1).2 ⟨p, by simp, rfl, rfl⟩
theorem sz_P : (Tryd.prog.info? 90).map (·.size) = some 33 := by kernel_rfl
theorem pairC_size (s : ByteArray) (ds : List Int) (h : ds.length = 32) : (pairC s ds).size = 33 := by simp [pairC, h]
theorem pairC_one (s : ByteArray) (ds : List Int) : (pairC s ds).all (·.oneCell') = true := by
  rw [Array.all_eq_true']
  intro v hv
  have hv : v ∈ Value.string s :: ds.map (Value.int .u8) := by simpa [pairC] using hv
  rcases List.mem_cons.1 hv with rfl | hv
  · rfl
  · exact map_one _ _ v hv
theorem sameKey_self {k : Lit} (h : WideAt.IsKeyLit k) : k.sameKey k = true := by
  cases k <;> simp_all [Lit.sameKey, WideAt.IsKeyLit]
def SliceLen (n : Nat) (w : World) (e : Ending) (w' : World) : Prop := ∃ A c, e = .returned (.slice A n c) ∧ Below w.heap.size w w'
def left1 (left : Lit → Bool) (K : Lit) : Nat := if left K = true then 0 else 1
theorem left1_false {left : Lit → Bool} {K : Lit} (h : left K = false) : left1 left K = 1 := by rw [left1, h]; rfl

set_option maxRecDepth 100000 in
set_option maxHeartbeats 4000000 in
theorem signed_one (r b1 b2 : Nat) (sv : Value) (sec rc fc : List Int) (p : Pr) (w : World) (R : RG w r b1 b2 sv sec rc fc [p]) :
    Calls Tryd.prog 33 #[.pointer (some ⟨r, 0, none⟩), .string (nm p.1)] w (SliceLen 1 w) := by
  have HR := Lib.hid R
  have hpo := R.ok p (by simp)
  clear R
  go_enter_defers Tryd.func33, Tryd.ntmps33
  go_wp2_with fail
  refine (lock_free muLib ⟨r, 0, none⟩ _ HR.out.ring.cell0 HR.out.ring.frozen0).mono ?_
  rintro e w1 ⟨rfl, rfl⟩
  have R1 := HR.out.ring.lock 1
  have hk1 : Kept w (w.setCell ⟨r, 0, none⟩ (.int .i32 1)) (· = r) := (Kept.refl _ _).set rfl
  generalize w.setCell ⟨r, 0, none⟩ (.int .i32 1) = W1 at *
  have c4 := R1.cell4
  have hown := R1.signed
  have H1 := Lib.hid (And.intro R1 hk1)
  clear R1 hk1
  obtain ⟨D, hD⟩ : ∃ D, D = sgD rc fc sec [p] := ⟨_, rfl⟩
  obtain ⟨K, hK⟩ : ∃ K, K = klp (nm p.1) p.2 := ⟨_, rfl⟩
  have hsub : ∀ kl, Maps.has D kl = true → kl = K := fun kl h => by rw [hD] at h; rw [hK]; exact sg1_has rc fc sec p hpo kl h
  have hself : Maps.has D K = true := by rw [hD, hK]; exact sg1_self rc fc sec p hpo
  have hKp : keyOf Tryd.prog 90 (.agg (pairC (nm p.1) p.2)) = some K := by rw [hK]; exact klp_pr hpo
  rw [← hD] at hown
  have HK := Lib.hid (And.intro hsub (And.intro hself hKp))
  have Hown := Lib.hid hown
  clear hsub hself hKp hD hK hown
  go_wp2_with (at_range; refine wpList_range_own _ rfl _ 85 rfl 90 27 lawP Tryd.underlying85 digR b2 _ D rfl Hown.out ?_; intro w0 hrg0 hg0 hs0)
  go_frame
  obtain ⟨rr, hrr⟩ : ∃ rr, rr = W1.heap.size := ⟨_, rfl⟩
  rw [← hrr] at hrg0 ⊢
  have hb0 : Below rr W1 w0 := ⟨hg0.os, hg0.tape, hg0.output, by omega, fun k hk => hg0.block k (by omega) (by simp)⟩
  have hs0' : rr + 1 ≤ w0.heap.size := by omega
  have hb2 : b2 < rr := by rw [hrr]; exact Hown.out.lt
  have Hrr := Lib.hid hrr
  have H0 := Lib.hid (And.intro hrg0 (And.intro hb0 hs0'))
  clear hrr hrg0 hb0 hs0' hs0 hg0 c4
  go_loopw [5] (fun v wr => ∃ left cnt m xs, wr.ranges Tryd.prog 90 digR b2 rr 1 D left cnt ∧ wr.ownsRow (rr + 1) 27 32 v m xs ∧ m = left1 left K ∧ (∀ kl, left kl = true → kl = K) ∧ Below rr W1 wr ∧ rr + 1 ≤ wr.heap.size) (fun _ wr => wr.rangeLeft b2 rr)
  case atStart => exact ⟨Maps.has D, _, 0, [], H0.out.1, ⟨rfl, .inl ⟨rfl, rfl⟩⟩, by simp [left1, HK.out.2.1], HK.out.1, H0.out.2.1, H0.out.2.2⟩
  case round =>
    obtain ⟨left, cnt, m, xs, hrg, hv, hm, hsubl, hB, hsz⟩ := hrel
    have Hrg := Lib.hid hrg
    have Hv := Lib.hid (And.intro hv (And.intro hm (And.intro hsubl hB)))
    clear hrg hv hm hsubl hB
    go_wp2_with (at_next; refine wpList_next_ranges wr rfl _ rfl 90 lawP digR (fun x : ByteArray × List Int => .agg (pairC x.1 x.2)) (fun c : List Int => .agg (encA .u8 c)) (fun key kl h => by obtain ⟨x, e, _⟩ := pair_key_inv h; exact ⟨x, e⟩) (fun v y h => digR_shape v y h) b2 rr _ D left cnt rfl Hrg.out ?_ ?_)
    · intro hc0 hl0
      have hm1 : m = 1 := by rw [Hv.out.2.1, left1, hl0 K]; rfl
      subst hm1
      obtain ⟨A, c, hvs⟩ : ∃ A c, u5 = .slice A 1 c := by
        obtain ⟨A, c, e, _⟩ := (FlatIn.own Hv.out.1).shape (m := 1) Hv.out.1.1 (by decide)
        exact ⟨A, c, e⟩
      subst hvs
      have hfk : Kept W1 wr (fun _ => False) := Kept.ofBelow (by rw [← Hrr.out]; exact Hv.out.2.2.2) _
      have RV : RingAt wr 1 r b1 b2 sv sec 8 1 (enD rc fc sec 8) (sgD rc fc sec [p]) := H1.out.1.kept hfk (fun e => e) (fun e => e) (fun e => e) (fun _ _ _ _ e => e)
      have hfin : Below w.heap.size w (wr.setCell ⟨r, 0, none⟩ (.int .i32 0)) :=
        (((H1.out.2.trans (hfk.mono fun _ e => e.elim)).set rfl).same (T := fun _ => False) (g := r) (fun k hk => .inr hk) (by rw [(RV.lock 0).row, HR.out.ring.row])).toBelow
      have HRV := Lib.hid (And.intro RV hfin)
      clear hc0 hl0 hfk RV hfin
      go_wp2_with (go_at_call 69; refine (sortD_small A 1 c _ _ (by omega)).mono ?_; rintro e w' ⟨rfl, rfl⟩)
      refine leaves_cons (f := 40) (args := #[.pointer (some ⟨r, 0, none⟩)]) (by simp) (by simp [go_sem]) ?_
      refine (unlock_deferred muLib ⟨r, 0, none⟩ .returning _ HRV.out.1.cell0 HRV.out.1.frozen0).mono ?_
      rintro e u' w'' ⟨rfl, rfl, rfl⟩
      exact ⟨_, results_tmp rfl _ _ _, ⟨A, c, rfl, HRV.out.2⟩⟩
    · intro s' d' c kl yd yp w2 cnt1 hkey hlk hvv hat hrg1 hlt hg1 hs1 hen
      obtain rfl : kl = K := Hv.out.2.2.1 kl hlk
      obtain ⟨rfl, rfl⟩ := pairC_inj (lawP.inj (a := .agg (pairC s' d')) (b := .agg (pairC (nm p.1) p.2)) hkey HK.out.2.2)
      have hm0 : m = 0 := by rw [Hv.out.2.1, left1, if_pos hlk]
      subst hm0
      have hw2 : w2.heap.size = wr.heap.size := hs1
      have hB2 : Below rr W1 w2 := Hv.out.2.2.2.grown hg1 (by omega) (fun k hk => by injection hk with hk; omega)
      have hv2 := Hv.out.1.kept hg1 (.inr (fun e => by have := (Hv.out.1.lt rr e).1; omega))
      have hlk2 : ∀ z, (left z && !z.sameKey kl) = true → z = kl := fun z hz => Hv.out.2.2.1 z (by rw [Bool.and_eq_true] at hz; exact hz.1)
      have hself2 : (left kl && !kl.sameKey kl) = false := by
        have : kl.sameKey kl = true := sameKey_self (lawP.key (v := .agg (pairC (nm p.1) p.2)) HK.out.2.2)
        rw [this]; simp
      have HX := Lib.hid (And.intro hrg1 (And.intro hB2 (And.intro hv2 (And.intro hlk2 (And.intro hself2 hlt)))))
      have Hw2 := Lib.hid hw2
      have hps := pairC_size (nm p.1) p.2 hpo.1
      have Hps := Lib.hid hps
      clear hrg1 hB2 hv2 hlk2 hself2 hw2 hs1 hg1 hkey hlk hvv hat hps hlt
      go_upto_region 7 with (refine wpList_store_row rfl 90 _ _ rfl w2.heap.size (pairC (nm p.1) p.2) rfl rfl _ _ (heap_alloc_new _ _) (by rw [Hps.out]; exact sz_P) (by rw [Hps.out]; rfl) (pairC_one _ _) ?_; rw [World.setRow_alloc_new])
      have hV0 : (w2.alloc (.cells (pairC (nm p.1) p.2) 90)).heap[w2.heap.size]? = some (.cells (pairC (nm p.1) p.2) 90 (0, 0)) := heap_alloc_new _ _
      have hVB : Below rr W1 (w2.alloc (.cells (pairC (nm p.1) p.2) 90)) := HX.out.2.1.alloc (by have := Hw2.out; omega) _
      have hVr := HX.out.1.alloc (.cells (pairC (nm p.1) p.2) 90)
      have hVv := HX.out.2.2.1.alloc (.cells (pairC (nm p.1) p.2) 90)
      have hVs : (w2.alloc (.cells (pairC (nm p.1) p.2) 90)).heap.size = w2.heap.size + 1 := by simp
      generalize w2.alloc (.cells (pairC (nm p.1) p.2) 90) = V at *
      obtain ⟨gv, hgv⟩ : ∃ gv, gv = w2.heap.size := ⟨_, rfl⟩
      rw [← hgv] at hV0 hVs ⊢
      have hVs2 : rr + 1 ≤ V.heap.size := by have := Hw2.out; omega
      have c0 : V.cell? ⟨gv, 0, none⟩ = some (.string (nm p.1)) := by rw [cell_of_row _ _ _ _ _ _ hV0]; rfl
      have hra : V.rangeAt gv 1 (dc p.2) := fun j v hv => by
        rw [cell_of_row _ _ _ _ _ _ hV0, Nat.add_comm]
        simpa [pairC, dc] using hv
      obtain ⟨iD, zD, hiD, hzD, hzsD, hsD, hbD⟩ := info_parts_n infoD
      have HV := Lib.hid (And.intro hV0 (And.intro hVB (And.intro hVr (And.intro hVv hra))))
      have HD := Lib.hid (And.intro hiD (And.intro hzD (And.intro hsD (And.intro hbD hzsD))))
      have hid : (Tryd.prog.info? 27).map (·.size) = some (dc p.2).length := by simp only [dc, List.length_map, hpo.1]; exact sz_d
      have Hid2 := Lib.hid hid
      clear hV0 hVB hVr hVv hra hiD hzD hzsD hsD hbD hid hgv hVs
      go_wp2_with (first | (refine wpList_load_mid rfl 27 _ rfl gv 1 rfl (dc p.2) _ HV.out.2.2.2.2 Tryd.underlying27 rfl Hid2.out ?_) | (refine wpList_build1 rfl 36 27 _ rfl (.agg (encA .u8 p.2)) rfl (encA .u8 p.2) Tryd.underlying36 (fill_dig p.2 hpo.1) ?_) | (at_builtin; go_loud (refine wpList_append_own_at _ rfl _ _ 36 rfl (rr + 1) 27 iD zD 32 32 Tryd.underlying36 HD.out.1 HD.out.2.1 HD.out.2.2.1 HD.out.2.2.2.1 HD.out.2.2.2.2 (by decide) _ _ _ rfl (HV.out.2.2.2.1.alloc _) ⟨V.heap.size, 0, none⟩ 1 1 (dc p.2) rfl (by simp [dc, hpo.1]) (cells_new _ _ _) (map_one _ _) (by unfold maxLen; omega) (by omega) (by simp; omega) ?_); intro v3 w3 hown3 hgrow3 hnil3 hat3))
      have hs3 := hgrow3.size
      have hs4 : V.heap.size + 1 ≤ w3.heap.size := by simpa using hs3
      have hur : ∀ x, u5.ownBlock = some x → rr + 1 ≤ x := fun x e => (Hv.out.1.lt x e).1
      have hrg3 := (HV.out.2.2.1.alloc (.cells (encA .u8 p.2) 27)).kept hgrow3 (fun e => by have := hur _ e.symm; omega) (fun e => by have := hur _ e.symm; omega)
      have hB3 : Below rr W1 w3 := (HV.out.2.1.alloc (by omega) _).grown hgrow3 (by simp; omega) (fun k hk => by have := hur k hk; omega)
      have HF := Lib.hid (And.intro hown3 (And.intro hrg3 hB3))
      clear hown3 hgrow3 hnil3 hat3 hrg3 hB3 hs3
      go_roundw
      case rel => exact ⟨_, cnt1, 1, _, HF.out.2.1, HF.out.1, (left1_false HX.out.2.2.2.2.1).symm, HX.out.2.2.2.1, HF.out.2.2, by omega⟩
      case measure => rw [HF.out.2.1.left_eq, Hrg.out.left_eq]; exact HX.out.2.2.2.2.2
set_option maxRecDepth 100000 in
set_option maxHeartbeats 4000000 in
theorem signed_none (r b1 b2 : Nat) (sv : Value) (sec rc fc : List Int) (s : ByteArray) (w : World) (R : RG w r b1 b2 sv sec rc fc []) :
    Calls Tryd.prog 33 #[.pointer (some ⟨r, 0, none⟩), .string s] w (SliceLen 0 w) := by
  have HR := Lib.hid R
  clear R
  go_enter_defers Tryd.func33, Tryd.ntmps33
  go_wp2_with fail
  refine (lock_free muLib ⟨r, 0, none⟩ _ HR.out.ring.cell0 HR.out.ring.frozen0).mono ?_
  rintro e w1 ⟨rfl, rfl⟩
  have R1 := HR.out.ring.lock 1
  have hk1 : Kept w (w.setCell ⟨r, 0, none⟩ (.int .i32 1)) (· = r) := (Kept.refl _ _).set rfl
  generalize w.setCell ⟨r, 0, none⟩ (.int .i32 1) = W1 at *
  have c4 := R1.cell4
  have hown := R1.signed
  have H1 := Lib.hid (And.intro R1 hk1)
  clear R1 hk1
  obtain ⟨D, hD⟩ : ∃ D, D = sgD rc fc sec [] := ⟨_, rfl⟩
  have hsub : ∀ kl, Maps.has D kl = false := fun kl => by rw [hD]; simp [sgD, Maps.has]
  rw [← hD] at hown
  have HK := Lib.hid hsub
  have Hown := Lib.hid hown
  clear hsub hD hown
  go_wp2_with (at_range; refine wpList_range_own _ rfl _ 85 rfl 90 27 lawP Tryd.underlying85 digR b2 _ D rfl Hown.out ?_; intro w0 hrg0 hg0 hs0)
  go_frame
  obtain ⟨rr, hrr⟩ : ∃ rr, rr = W1.heap.size := ⟨_, rfl⟩
  rw [← hrr] at hrg0 ⊢
  have hb0 : Below rr W1 w0 := ⟨hg0.os, hg0.tape, hg0.output, by omega, fun k hk => hg0.block k (by omega) (by simp)⟩
  have hs0' : rr + 1 ≤ w0.heap.size := by omega
  have hb2 : b2 < rr := by rw [hrr]; exact Hown.out.lt
  have Hrr := Lib.hid hrr
  have H0 := Lib.hid (And.intro hrg0 (And.intro hb0 hs0'))
  clear hrr hrg0 hb0 hs0' hs0 hg0 c4
  go_loopw [5] (fun v wr => ∃ left cnt, wr.ranges Tryd.prog 90 digR b2 rr 0 D left cnt ∧ v = .slice none 0 0 ∧ (∀ kl, left kl = false) ∧ Below rr W1 wr ∧ rr + 1 ≤ wr.heap.size) (fun _ wr => wr.rangeLeft b2 rr)
  case atStart => exact ⟨Maps.has D, _, H0.out.1, rfl, HK.out, H0.out.2.1, H0.out.2.2⟩
  case round =>
    obtain ⟨left, cnt, hrg, rfl, hsubl, hB, hsz⟩ := hrel
    have Hrg := Lib.hid hrg
    have Hv := Lib.hid (And.intro hsubl hB)
    clear hrg hsubl hB
    go_wp2_with (at_next; refine wpList_next_ranges wr rfl _ rfl 90 lawP digR (fun x : ByteArray × List Int => .agg (pairC x.1 x.2)) (fun c : List Int => .agg (encA .u8 c)) (fun key kl h => by obtain ⟨x, e, _⟩ := pair_key_inv h; exact ⟨x, e⟩) (fun v y h => digR_shape v y h) b2 rr _ D left cnt rfl Hrg.out ?_ ?_)
    · intro hc0 hl0
      have hfk : Kept W1 wr (fun _ => False) := Kept.ofBelow (by rw [← Hrr.out]; exact Hv.out.2) _
      have RV : RingAt wr 1 r b1 b2 sv sec 8 0 (enD rc fc sec 8) (sgD rc fc sec []) := H1.out.1.kept hfk (fun e => e) (fun e => e) (fun e => e) (fun _ _ _ _ e => e)
      have hfin : Below w.heap.size w (wr.setCell ⟨r, 0, none⟩ (.int .i32 0)) :=
        (((H1.out.2.trans (hfk.mono fun _ e => e.elim)).set rfl).same (T := fun _ => False) (g := r) (fun k hk => .inr hk) (by rw [(RV.lock 0).row, HR.out.ring.row])).toBelow
      have HRV := Lib.hid (And.intro RV hfin)
      clear hc0 hl0 hfk RV hfin
      go_wp2_with (go_at_call 69; refine (sortD_small none 0 0 _ _ (by omega)).mono ?_; rintro e w' ⟨rfl, rfl⟩)
      refine leaves_cons (f := 40) (args := #[.pointer (some ⟨r, 0, none⟩)]) (by simp) (by simp [go_sem]) ?_
      refine (unlock_deferred muLib ⟨r, 0, none⟩ .returning _ HRV.out.1.cell0 HRV.out.1.frozen0).mono ?_
      rintro e u' w'' ⟨rfl, rfl, rfl⟩
      exact ⟨_, results_tmp rfl _ _ _, ⟨none, 0, rfl, HRV.out.2⟩⟩
    · intro s' d' c kl yd yp w2 cnt1 hkey hlk hvv hat hrg1 hlt hg1 hs1 hen
      exfalso
      rw [Hv.out.1 kl] at hlk
      cases hlk
end Go.Proofs.YthgebhndhilhkaaDoor
