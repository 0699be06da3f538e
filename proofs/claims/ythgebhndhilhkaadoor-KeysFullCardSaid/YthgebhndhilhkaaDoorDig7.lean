/- digest: Mac. -/
import Derived.Test.YthgebhndhilhkaaDoorDig6
namespace Go.Proofs.YthgebhndhilhkaaDoor
open Go.RowKit

def zeros64b : Array Value := encA .u8 (List.replicate 64 0)
/-- The key's block. -/
def keyF (rc fc key : List Int) : List Int := if 64 < key.length then shaF rc fc key ++ List.replicate 32 0 else key ++ List.replicate (64 - key.length) 0
theorem keyF_length (rc fc key : List Int) : (keyF rc fc key).length = 64 := by
  unfold keyF
  split
  · rw [List.length_append, shaF_length, List.length_replicate]
  · rw [List.length_append, List.length_replicate]; omega
theorem splice_enc (n : Nat) (xs : List Int) (hx : xs.length ≤ n) : (splice (encA .u8 (List.replicate n 0)).toList 0 (xs.map (Value.int .u8))).toArray = encA .u8 (xs ++ List.replicate (n - xs.length) 0) := by
  simp [splice, encA]
theorem sz_k : (Tryd.prog.info? 70).map (·.size) = some 64 := by kernel_rfl
theorem BytesIn.cells {w : World} {A : Option Addr} {n cap : Nat} {bs : List Int} (h : BytesIn w (.slice A n cap) bs) : bs.length = n ∧ (0 < (bs.map (Value.int .u8)).length → ∃ ad, A = some ad ∧ ∀ j v, (bs.map (Value.int .u8))[j]? = some v → w.cell? (ad.add j) = some v) := by
  obtain ⟨A', cap', he, h1, h2, h3⟩ := h
  injection he with e1 e2 e3
  subst e1; subst e2; subst e3
  refine ⟨rfl, fun hp => ?_⟩
  obtain ⟨gb, ob, rfl, hc⟩ := h3 (by simpa using hp)
  refine ⟨_, rfl, fun j v hv => ?_⟩
  have hj : j < bs.length := by simpa using (List.getElem?_eq_some_iff.1 hv).1
  rw [add_off, hc j hj, ← hv, List.getElem?_map, List.getElem?_eq_getElem hj]
  rfl
theorem map_one (k : IntKind) (xs : List Int) : ∀ v ∈ xs.map (Value.int k), v.oneCell' = true := by
  intro v hv
  obtain ⟨x, _, rfl⟩ := List.mem_map.1 hv
  rfl

/-- The state behind the key's mask and the bytes. -/
def innerF (rc fc key b : List Int) (m : Int) : HS :=
  let s1 := writeF rc 64 (hs0 fc) (maskTo (keyF rc fc key) m 64)
  writeF rc b.length s1 b
def macF (rc fc key b : List Int) : List Int :=
  sumF rc (innerF rc fc key (sumF rc (innerF rc fc key b 54)) 92)
theorem macF_length (rc fc key b : List Int) : (macF rc fc key b).length = 32 := sumF_length _ _

set_option maxRecDepth 100000 in
set_option maxHeartbeats 1000000 in
theorem mac_long (kv v : Value) (key bs rc fc : List Int) (w : World) (G : Glob w rc fc) (hk : BytesIn w kv key) (hkl : key.length ≤ 281474976710656) (hb : BytesIn w v bs) (hl : bs.length ≤ 281474976710656) (hlong : 64 < key.length) :
    Calls Tryd.prog 9 #[kv, v] w fun e w' => e = .returned (.agg (encA .u8 (macF rc fc key bs))) ∧ Below w.heap.size w w' := by
  obtain ⟨A, kcap, rfl⟩ : ∃ A kcap, kv = .slice A key.length kcap := by obtain ⟨A, cap, h, _⟩ := hk; exact ⟨A, cap, h⟩
  have HG := Lib.hid G
  have Hk := Lib.hid hk
  have Hb := Lib.hid hb
  clear G hb hk
  go_enter Tryd.func9, Tryd.ntmps9
  go_wp2_with fail
  rw [show (#[.int .u8 0, .int .u8 0, .int .u8 0, .int .u8 0, .int .u8 0, .int .u8 0, .int .u8 0, .int .u8 0, .int .u8 0, .int .u8 0, .int .u8 0, .int .u8 0, .int .u8 0, .int .u8 0, .int .u8 0, .int .u8 0, .int .u8 0, .int .u8 0, .int .u8 0, .int .u8 0, .int .u8 0, .int .u8 0, .int .u8 0, .int .u8 0, .int .u8 0, .int .u8 0, .int .u8 0, .int .u8 0, .int .u8 0, .int .u8 0, .int .u8 0, .int .u8 0] : Array Value) = zeros32 from rfl]
  rw [show (#[.int .u8 0, .int .u8 0, .int .u8 0, .int .u8 0, .int .u8 0, .int .u8 0, .int .u8 0, .int .u8 0, .int .u8 0, .int .u8 0, .int .u8 0, .int .u8 0, .int .u8 0, .int .u8 0, .int .u8 0, .int .u8 0, .int .u8 0, .int .u8 0, .int .u8 0, .int .u8 0, .int .u8 0, .int .u8 0, .int .u8 0, .int .u8 0, .int .u8 0, .int .u8 0, .int .u8 0, .int .u8 0, .int .u8 0, .int .u8 0, .int .u8 0, .int .u8 0, .int .u8 0, .int .u8 0, .int .u8 0, .int .u8 0, .int .u8 0, .int .u8 0, .int .u8 0, .int .u8 0, .int .u8 0, .int .u8 0, .int .u8 0, .int .u8 0, .int .u8 0, .int .u8 0, .int .u8 0, .int .u8 0, .int .u8 0, .int .u8 0, .int .u8 0, .int .u8 0, .int .u8 0, .int .u8 0, .int .u8 0, .int .u8 0, .int .u8 0, .int .u8 0, .int .u8 0, .int .u8 0, .int .u8 0, .int .u8 0, .int .u8 0, .int .u8 0] : Array Value) = zeros64b from rfl]
  have hB0 : Below w.heap.size w ((w.alloc (.cells zeros32 27)).alloc (.cells zeros64b 70)) := ((Below.refl w.heap.size w).alloc (Nat.le_refl _) _).alloc (by simp) _
  have hR0 : ((w.alloc (.cells zeros32 27)).alloc (.cells zeros64b 70)).heap[w.heap.size]? = some (.cells zeros32 27 (0, 0)) := heap_alloc2_old _ _ _
  have hR1 : ((w.alloc (.cells zeros32 27)).alloc (.cells zeros64b 70)).heap[w.heap.size + 1]? = some (.cells zeros64b 70 (0, 0)) := heap_alloc2_new _ _ _
  generalize (w.alloc (.cells zeros32 27)).alloc (.cells zeros64b 70) = W at *
  refine (sum_any _ _ rc fc _ (HG.out.below hB0) (Hk.out.below hB0) hkl).mono ?_
  rintro e w1 ⟨rfl, hbel0⟩
  obtain ⟨sk, hsk⟩ : ∃ sk, sk = shaF rc fc key := ⟨_, rfl⟩
  have hskl : (encA .u8 sk).size = 32 := by rw [encA_size, hsk, shaF_length]
  rw [← hsk]
  have Hskl := Lib.hid hskl
  have Hsk := Lib.hid hsk
  have HB0 := Lib.hid (hB0.trans (hbel0.mono hB0.size))
  have HR0 : Hid (w1.heap[w.heap.size]? = some (.cells zeros32 27 (0, 0))) := by show _ = _; rw [hbel0.block _ (Array.getElem?_eq_some_iff.1 hR0).1]; exact hR0
  have HR1 : Hid (w1.heap[w.heap.size + 1]? = some (.cells zeros64b 70 (0, 0))) := by show _ = _; rw [hbel0.block _ (Array.getElem?_eq_some_iff.1 hR1).1]; exact hR1
  clear hskl hsk hB0 hR0 hR1 hbel0
  go_wp2_with (refine wpList_store_row rfl 27 _ _ rfl w1.heap.size _ rfl rfl _ _ (heap_alloc_new _ _) (by rw [Hskl.out]; exact sz_d) (by rw [Hskl.out]; rfl) (encA_one _ _) ?_)
  rw [World.setRow_alloc_new]
  have hsc := cells_enc w1 .u8 sk 27
  have hB2 : Below w.heap.size w (w1.alloc (.cells (encA .u8 sk) 27)) := HB0.out.alloc HB0.out.size _
  have hR0 : (w1.alloc (.cells (encA .u8 sk) 27)).heap[w.heap.size]? = some (.cells zeros32 27 (0, 0)) := by rw [heap_alloc_old _ _ (Array.getElem?_eq_some_iff.1 HR0.out).1]; exact HR0.out
  have hR1 : (w1.alloc (.cells (encA .u8 sk) 27)).heap[w.heap.size + 1]? = some (.cells zeros64b 70 (0, 0)) := by rw [heap_alloc_old _ _ (Array.getElem?_eq_some_iff.1 HR1.out).1]; exact HR1.out
  generalize w1.alloc (.cells (encA .u8 sk) 27) = W2 at *
  have Hsc := Lib.hid hsc
  have HB2 := Lib.hid hB2
  have HS0 := Lib.hid hR0
  have HS1 := Lib.hid hR1
  have Hsl : Hid (sk.length = 32) := by show _ = _; rw [Hsk.out, shaF_length]
  clear hsc hB2 hR0 hR1
  refine still_tail 2 (by kernel_rfl) (by kernel_rfl) ?_
  simp only [List.take_succ_cons, List.take_zero, List.drop_succ_cons, List.drop_zero]
  repeat still_step
  refine wpStill_nil ?_
  go_wp2_with (refine wpList_copy_own rfl _ _ _ _ rfl 5 Tryd.underlying22 (by kernel_rfl) (w.heap.size + 1) 0 64 64 ⟨w1.heap.size, 0, none⟩ 32 32 rfl rfl zeros64b 70 HS1.out (sk.map (Value.int .u8)) (by rw [List.length_map, Hsl.out]; rfl) Hsc.out (by rw [List.length_map, Hsl.out]; decide) (map_one _ _) ?_)
  have hT1 : (W2.drew.setRow (w.heap.size + 1) (sk.map (Value.int .u8) ++ zeros64b.toList.drop sk.length).toArray).heap[w.heap.size + 1]? = some (.cells (encA .u8 (keyF rc fc key)) 70 (0, 0)) := by
    rw [setRow_heap W2.drew _ _ _ _ _ HS1.out, keyF, if_pos hlong, ← Hsk.out, Hsl.out]
    simp [encA, zeros64b]
  have hT0 : (W2.drew.setRow (w.heap.size + 1) (sk.map (Value.int .u8) ++ zeros64b.toList.drop sk.length).toArray).heap[w.heap.size]? = some (.cells zeros32 27 (0, 0)) := by
    rw [setRow_other W2.drew _ _ _ (by omega)]; exact HS0.out
  have hTB : Below w.heap.size w (W2.drew.setRow (w.heap.size + 1) (sk.map (Value.int .u8) ++ zeros64b.toList.drop sk.length).toArray) := by
    have hd : Below w.heap.size w W2.drew := HB2.out.trans ⟨rfl, rfl, rfl, Nat.le_refl _, fun _ _ => rfl⟩
    exact below_setRow hd (by omega) _
  generalize W2.drew.setRow (w.heap.size + 1) (sk.map (Value.int .u8) ++ zeros64b.toList.drop sk.length).toArray = W3 at *
  have HT0 := Lib.hid hT0
  have HT1 := Lib.hid hT1
  have HTB := Lib.hid hTB
  clear hT0 hT1 hTB
  have hkbl := keyF_length rc fc key
  obtain ⟨kb, hkb⟩ : ∃ kb, kb = keyF rc fc key := ⟨_, rfl⟩
  rw [← hkb] at HT1 hkbl
  have hkbs : (encA .u8 kb).size = 64 := by rw [encA_size, hkbl]
  have Hkb := Lib.hid hkb
  have Hkbs := Lib.hid hkbs
  have Hkbl := Lib.hid hkbl
  clear hkb hkbs hkbl
  refine (dnew_any rc fc _ (HG.out.below HTB.out)).mono ?_
  rintro e w4 ⟨rfl, rfl⟩
  go_wp2_with fail
  refine (dnew_any rc fc _ ((HG.out.below HTB.out).below ((Below.refl _ _).alloc (Nat.le_refl _) _))).mono ?_
  rintro e w5 ⟨rfl, rfl⟩
  have hU1 : ((W3.alloc (.cells (hs0 fc).cells 124)).alloc (.cells (hs0 fc).cells 124)).heap[w.heap.size + 1]? = some (.cells (encA .u8 kb) 70 (0, 0)) := by
    have := (Array.getElem?_eq_some_iff.1 HT1.out).1
    rw [heap_alloc_old _ _ (by simp; omega), heap_alloc_old _ _ (by omega)]; exact HT1.out
  have HU1 := Lib.hid hU1
  clear hU1
  go_wp2_with (refine wpList_load_row rfl 70 _ rfl (w.heap.size + 1) rfl _ _ _ _ HU1.out Tryd.underlying70 rfl (by rw [Hkbs.out]; exact sz_k) ?_)
  refine (masked_any kb 54 _ Hkbl.out).mono ?_
  rintro e w6 ⟨rfl, rfl⟩
  obtain ⟨C, hC⟩ : ∃ C, C = W3.heap.size := ⟨_, rfl⟩
  have hBC : w.heap.size + 1 < C := by rw [hC]; exact (Array.getElem?_eq_some_iff.1 HT1.out).1
  have hml := maskTo_length kb 54 64
  have X1 : (((W3.alloc (.cells (hs0 fc).cells 124)).alloc (.cells (hs0 fc).cells 124)).alloc (.cells (encA .u8 (maskTo kb 54 64)) 70)).heap[C]? = some (.cells (hs0 fc).cells 124 (0, 0)) := by
    rw [hC, heap_alloc_old _ _ (by simp; omega), heap_alloc2_old]
  have X2 : (((W3.alloc (.cells (hs0 fc).cells 124)).alloc (.cells (hs0 fc).cells 124)).alloc (.cells (encA .u8 (maskTo kb 54 64)) 70)).heap[C + 1]? = some (.cells (hs0 fc).cells 124 (0, 0)) := by
    rw [hC, heap_alloc_old _ _ (by simp), heap_alloc2_new]
  have X3 : ∀ i, i < (maskTo kb 54 64).length → (((W3.alloc (.cells (hs0 fc).cells 124)).alloc (.cells (hs0 fc).cells 124)).alloc (.cells (encA .u8 (maskTo kb 54 64)) 70)).cell? ⟨C + 1 + 1, 0 + i, none⟩ = some (.int .u8 ((maskTo kb 54 64)[i]?.getD 0)) := fun i hi => by
    have := cells_enc ((W3.alloc (.cells (hs0 fc).cells 124)).alloc (.cells (hs0 fc).cells 124)) .u8 (maskTo kb 54 64) 70 i (.int .u8 ((maskTo kb 54 64)[i]?.getD 0)) (by rw [List.getElem?_map, List.getElem?_eq_getElem hi]; rfl)
    rw [add_off] at this
    rw [hC]
    simpa using this
  have X4 : Below w.heap.size w (((W3.alloc (.cells (hs0 fc).cells 124)).alloc (.cells (hs0 fc).cells 124)).alloc (.cells (encA .u8 (maskTo kb 54 64)) 70)) :=
    ((HTB.out.alloc (by omega) _).alloc (by simp; omega) _).alloc (by simp; omega) _
  have X5 : (((W3.alloc (.cells (hs0 fc).cells 124)).alloc (.cells (hs0 fc).cells 124)).alloc (.cells (encA .u8 (maskTo kb 54 64)) 70)).heap[w.heap.size]? = some (.cells zeros32 27 (0, 0)) := by
    rw [heap_alloc_old _ _ (by simp; omega), heap_alloc_old _ _ (by simp; omega), heap_alloc_old _ _ (by omega)]; exact HT0.out
  have X6 : (((W3.alloc (.cells (hs0 fc).cells 124)).alloc (.cells (hs0 fc).cells 124)).alloc (.cells (encA .u8 (maskTo kb 54 64)) 70)).heap[w.heap.size + 1]? = some (.cells (encA .u8 kb) 70 (0, 0)) := by
    rw [heap_alloc_old _ _ (by simp; omega)]; exact HU1.out
  have X7 : (((W3.alloc (.cells (hs0 fc).cells 124)).alloc (.cells (hs0 fc).cells 124)).alloc (.cells (encA .u8 (maskTo kb 54 64)) 70)).heap.size = C + 3 := by
    rw [hC]; simp
  subst hC
  go_wp2_with fail
  generalize ((W3.alloc (.cells (hs0 fc).cells 124)).alloc (.cells (hs0 fc).cells 124)).alloc (.cells (encA .u8 (maskTo kb 54 64)) 70) = W6 at *
  clear HU1
  have hne := HG.out.ne (show w.heap.size ≤ W3.heap.size by omega)
  have hne' := HG.out.ne (show w.heap.size ≤ W3.heap.size + 1 by omega)
  refine (write_any W3.heap.size (hs0 fc) (maskTo kb 54 64) _ rc fc _ (hs0_ok _ HG.out.fl) (HG.out.below X4) X1 ⟨_, 64, by rw [hml, Hkbl.out], by rw [hml, Hkbl.out]; decide, by decide, fun _ => ⟨_, 0, rfl, by omega, X3⟩⟩ (by rw [hml, Hkbl.out]; show (0 : Int) + _ ≤ _; omega) hne.1 hne.2).mono ?_
  rintro e w7 ⟨rfl, hrow7, hgr7⟩
  have hok7 := writeF_ok rc 64 (hs0 fc) (maskTo kb 54 64) (hs0_ok _ HG.out.fl)
  have hn7 := writeF_n rc 64 (hs0 fc) (maskTo kb 54 64) (by rw [hml, Hkbl.out]; exact Nat.le_refl _)
  rw [hml, Hkbl.out] at hrow7 hn7
  obtain ⟨s1, hs1⟩ : ∃ s1, s1 = writeF rc 64 (hs0 fc) (maskTo kb 54 64) := ⟨_, rfl⟩
  rw [← hs1] at hrow7 hok7 hn7
  have Y0 : Below w.heap.size w w7 := X4.trans (below_ofGrown hgr7 (by omega) (by omega))
  have Y2 : w7.heap[W3.heap.size + 1]? = some (.cells (hs0 fc).cells 124 (0, 0)) := by rw [hgr7.block _ (by omega) (by simp)]; exact X2
  have Y5 : w7.heap[w.heap.size]? = some (.cells zeros32 27 (0, 0)) := by rw [hgr7.block _ (by omega) (by simp; omega)]; exact X5
  have Y6 : w7.heap[w.heap.size + 1]? = some (.cells (encA .u8 kb) 70 (0, 0)) := by rw [hgr7.block _ (by omega) (by simp; omega)]; exact X6
  have Y7 := hgr7.size
  rw [X7] at Y7
  clear X1 X2 X3 X4 X5 X6 X7 hgr7 HT0 HT1 HTB
  have HY := Lib.hid (And.intro hrow7 (And.intro hok7 (And.intro Y0 (And.intro Y2 (And.intro Y5 Y6)))))
  clear hrow7 hok7 Y0 Y2 Y5 Y6
  go_wp2_with fail
  refine (write_any W3.heap.size s1 bs v rc fc _ HY.out.2.1 (HG.out.below HY.out.2.2.1) HY.out.1 (Hb.out.new HY.out.2.2.1 (by omega)) (by rw [hn7]; show (0 : Int) + _ + _ ≤ _; omega) hne.1 hne.2).mono ?_
  rintro e w8 ⟨rfl, hrow8, hgr8⟩
  have hok8 := writeF_ok rc bs.length s1 bs HY.out.2.1
  have hn8 := writeF_n rc bs.length s1 bs (Nat.le_refl _)
  obtain ⟨s2, hs2⟩ : ∃ s2, s2 = writeF rc bs.length s1 bs := ⟨_, rfl⟩
  rw [← hs2] at hrow8 hok8 hn8
  have hin : s2 = innerF rc fc key bs 54 := by rw [hs2, hs1, Hkb.out]; rfl
  have Z0 : Below w.heap.size w w8 := HY.out.2.2.1.trans (below_ofGrown hgr8 (by omega) (by omega))
  have Z2 : w8.heap[W3.heap.size + 1]? = some (.cells (hs0 fc).cells 124 (0, 0)) := by rw [hgr8.block _ (by omega) (by simp)]; exact HY.out.2.2.2.1
  have Z5 : w8.heap[w.heap.size]? = some (.cells zeros32 27 (0, 0)) := by rw [hgr8.block _ (by omega) (by simp; omega)]; exact HY.out.2.2.2.2.1
  have Z6 : w8.heap[w.heap.size + 1]? = some (.cells (encA .u8 kb) 70 (0, 0)) := by rw [hgr8.block _ (by omega) (by simp; omega)]; exact HY.out.2.2.2.2.2
  have Z7 := hgr8.size
  have hin8 : s2.n ≤ 1000000000000000000 := by rw [hn8, hn7]; show (0 : Int) + _ + _ ≤ _; omega
  clear HY hgr8 hs1 hs2 hn7 hn8
  have HZ := Lib.hid (And.intro Z0 (And.intro Z2 (And.intro Z5 Z6)))
  have HR8 := Lib.hid hrow8
  have HO8 := Lib.hid hok8
  have Hin := Lib.hid hin
  have Hin8 := Lib.hid hin8
  clear Z0 Z2 Z5 Z6 hrow8 hok8 hin hin8
  go_wp2_with fail
  refine (hsum_any W3.heap.size s2 rc fc w8 HO8.out (HG.out.below HZ.out.1) Hin8.out HR8.out).mono ?_
  rintro e w9 ⟨rfl, hbel9⟩
  obtain ⟨di, hdi⟩ : ∃ di, di = sumF rc s2 := ⟨_, rfl⟩
  have hdil : di.length = 32 := by rw [hdi, sumF_length]
  rw [← hdi]
  have U0 : Below w.heap.size w w9 := HZ.out.1.trans (hbel9.mono (by omega))
  have U2 : w9.heap[W3.heap.size + 1]? = some (.cells (hs0 fc).cells 124 (0, 0)) := by rw [hbel9.block _ (by omega)]; exact HZ.out.2.1
  have U5 : w9.heap[w.heap.size]? = some (.cells zeros32 27 (0, 0)) := by rw [hbel9.block _ (by omega)]; exact HZ.out.2.2.1
  have U6 : w9.heap[w.heap.size + 1]? = some (.cells (encA .u8 kb) 70 (0, 0)) := by rw [hbel9.block _ (by omega)]; exact HZ.out.2.2.2
  have U7 := hbel9.size
  have Hdi := Lib.hid hdi
  have Hdil : Hid ((encA .u8 di).size = 32) := by show _ = _; rw [encA_size, hdil]
  have HU := Lib.hid (And.intro U0 (And.intro U2 (And.intro U5 U6)))
  clear hdi HZ HR8 HO8 U0 U2 U5 U6 hbel9 Hin8
  go_wp2_with (first | (refine wpList_store_row rfl 27 _ _ rfl w9.heap.size _ rfl rfl _ _ (heap_alloc_new _ _) (by rw [Hdil.out]; exact sz_d) (by rw [Hdil.out]; rfl) (encA_one _ _) ?_; rw [World.setRow_alloc_new]) | (refine wpList_load_row rfl 70 _ rfl (w.heap.size + 1) rfl _ _ _ _ (by rw [heap_alloc_old _ _ (by omega)]; exact HU.out.2.2.2) Tryd.underlying70 rfl (by rw [Hkbs.out]; exact sz_k) ?_))
  refine (masked_any kb 92 _ Hkbl.out).mono ?_
  rintro e w10 ⟨rfl, rfl⟩
  have hml2 := maskTo_length kb 92 64
  have T0 : Below w.heap.size w ((w9.alloc (.cells (encA .u8 di) 27)).alloc (.cells (encA .u8 (maskTo kb 92 64)) 70)) := (HU.out.1.alloc (by omega) _).alloc (by simp; omega) _
  have T2 : ((w9.alloc (.cells (encA .u8 di) 27)).alloc (.cells (encA .u8 (maskTo kb 92 64)) 70)).heap[W3.heap.size + 1]? = some (.cells (hs0 fc).cells 124 (0, 0)) := by
    rw [heap_alloc_old _ _ (by simp; omega), heap_alloc_old _ _ (by omega)]; exact HU.out.2.1
  have T5 : ((w9.alloc (.cells (encA .u8 di) 27)).alloc (.cells (encA .u8 (maskTo kb 92 64)) 70)).heap[w.heap.size]? = some (.cells zeros32 27 (0, 0)) := by
    rw [heap_alloc_old _ _ (by simp; omega), heap_alloc_old _ _ (by omega)]; exact HU.out.2.2.1
  have T8 : ∀ i, i < (maskTo kb 92 64).length → ((w9.alloc (.cells (encA .u8 di) 27)).alloc (.cells (encA .u8 (maskTo kb 92 64)) 70)).cell? ⟨w9.heap.size + 1, 0 + i, none⟩ = some (.int .u8 ((maskTo kb 92 64)[i]?.getD 0)) := fun i hi => by
    have := cells_enc (w9.alloc (.cells (encA .u8 di) 27)) .u8 (maskTo kb 92 64) 70 i (.int .u8 ((maskTo kb 92 64)[i]?.getD 0)) (by rw [List.getElem?_map, List.getElem?_eq_getElem hi]; rfl)
    rw [add_off] at this
    simpa using this
  have T9 : ∀ i, i < di.length → ((w9.alloc (.cells (encA .u8 di) 27)).alloc (.cells (encA .u8 (maskTo kb 92 64)) 70)).cell? ⟨w9.heap.size, 0 + i, none⟩ = some (.int .u8 (di[i]?.getD 0)) := fun i hi => by
    have h := cells_enc w9 .u8 di 27 i (.int .u8 (di[i]?.getD 0)) (by rw [List.getElem?_map, List.getElem?_eq_getElem hi]; rfl)
    rw [add_off] at h
    have hb := World.block_lt_of_cell? _ _ h
    rw [← h]
    exact World.cell?_of_block (w := w9.alloc (.cells (encA .u8 di) 27)) (heap_alloc_old _ _ hb)
  have T7 : ((w9.alloc (.cells (encA .u8 di) 27)).alloc (.cells (encA .u8 (maskTo kb 92 64)) 70)).heap.size = w9.heap.size + 2 := by simp
  have HT := Lib.hid (And.intro T0 (And.intro T2 (And.intro T5 (And.intro T8 T9))))
  clear T0 T2 T5 T8 T9 HU
  go_wp2_with fail
  generalize (w9.alloc (.cells (encA .u8 di) 27)).alloc (.cells (encA .u8 (maskTo kb 92 64)) 70) = W10 at *
  refine (write_any (W3.heap.size + 1) (hs0 fc) (maskTo kb 92 64) _ rc fc _ (hs0_ok _ HG.out.fl) (HG.out.below HT.out.1) HT.out.2.1 ⟨_, 64, by rw [hml2, Hkbl.out], by rw [hml2, Hkbl.out]; decide, by decide, fun _ => ⟨_, 0, rfl, by omega, HT.out.2.2.2.1⟩⟩ (by rw [hml2, Hkbl.out]; show (0 : Int) + _ ≤ _; omega) hne'.1 hne'.2).mono ?_
  rintro e w11 ⟨rfl, hrow11, hgr11⟩
  have hok11 := writeF_ok rc 64 (hs0 fc) (maskTo kb 92 64) (hs0_ok _ HG.out.fl)
  have hn11 := writeF_n rc 64 (hs0 fc) (maskTo kb 92 64) (by rw [hml2, Hkbl.out]; exact Nat.le_refl _)
  rw [hml2, Hkbl.out] at hrow11 hn11
  obtain ⟨s3, hs3⟩ : ∃ s3, s3 = writeF rc 64 (hs0 fc) (maskTo kb 92 64) := ⟨_, rfl⟩
  rw [← hs3] at hrow11 hok11 hn11
  have A0 : Below w.heap.size w w11 := HT.out.1.trans (below_ofGrown hgr11 (by omega) (by omega))
  have A5 : w11.heap[w.heap.size]? = some (.cells zeros32 27 (0, 0)) := by rw [hgr11.block _ (by omega) (by simp; omega)]; exact HT.out.2.2.1
  have A9 : ∀ i, i < di.length → w11.cell? ⟨w9.heap.size, 0 + i, none⟩ = some (.int .u8 (di[i]?.getD 0)) := fun i hi => cell_grown hgr11 (by show w9.heap.size ≠ _; omega) (HT.out.2.2.2.2 i hi)
  have A7 := hgr11.size
  have HA := Lib.hid (And.intro A0 (And.intro A5 (And.intro A9 (And.intro hrow11 hok11))))
  clear A0 A5 A9 hrow11 hok11 HT hgr11
  go_wp2_with fail
  have hdl : di.length = 32 := by have := Hdil.out; rwa [encA_size] at this
  refine (write_any (W3.heap.size + 1) s3 di _ rc fc _ HA.out.2.2.2.2 (HG.out.below HA.out.1) HA.out.2.2.2.1 ⟨_, 32, by rw [hdl], by rw [hdl]; decide, by decide, fun _ => ⟨_, 0, rfl, by omega, HA.out.2.2.1⟩⟩ (by rw [hn11, hdl]; show (0 : Int) + _ + _ ≤ _; omega) hne'.1 hne'.2).mono ?_
  rintro e w12 ⟨rfl, hrow12, hgr12⟩
  have hok12 := writeF_ok rc di.length s3 di HA.out.2.2.2.2
  have hn12 := writeF_n rc di.length s3 di (Nat.le_refl _)
  obtain ⟨s4, hs4⟩ : ∃ s4, s4 = writeF rc di.length s3 di := ⟨_, rfl⟩
  rw [← hs4] at hrow12 hok12 hn12
  have hin4 : s4 = innerF rc fc key di 92 := by rw [hs4, hs3, Hkb.out]; rfl
  have B0 : Below w.heap.size w w12 := HA.out.1.trans (below_ofGrown hgr12 (by omega) (by omega))
  have B5 : w12.heap[w.heap.size]? = some (.cells zeros32 27 (0, 0)) := by rw [hgr12.block _ (by omega) (by simp; omega)]; exact HA.out.2.1
  have B7 := hgr12.size
  have hn4 : s4.n ≤ 1000000000000000000 := by rw [hn12, hn11, hdl]; show (0 : Int) + _ + _ ≤ _; omega
  have HBb := Lib.hid (And.intro B0 B5)
  have HR12 := Lib.hid hrow12
  have HO12 := Lib.hid hok12
  have Hin4 := Lib.hid hin4
  have Hn4 := Lib.hid hn4
  clear B0 B5 hrow12 hok12 HA hgr12 hs3 hs4 hin4 hn4 hn11 hn12
  go_wp2_with fail
  refine (hsum_any (W3.heap.size + 1) s4 rc fc w12 HO12.out (HG.out.below HBb.out.1) Hn4.out HR12.out).mono ?_
  rintro e w13 ⟨rfl, hbel13⟩
  have V5 : w13.heap[w.heap.size]? = some (.cells zeros32 27 (0, 0)) := by rw [hbel13.block _ (by omega)]; exact HBb.out.2
  have V0 : Below w.heap.size w w13 := HBb.out.1.trans (hbel13.mono (by omega))
  have hfin : (encA .u8 (sumF rc s4)).size = 32 := by rw [encA_size, sumF_length]
  have hmac : sumF rc s4 = macF rc fc key bs := by rw [Hin4.out, Hdi.out, Hin.out]; rfl
  rw [hmac] at hfin ⊢
  have Hfin := Lib.hid hfin
  have HV := Lib.hid (And.intro V0 V5)
  clear hfin V0 V5 hmac hbel13 HBb HR12 HO12 Hn4
  go_wp2_with (refine wpList_store_row rfl 27 _ _ rfl w.heap.size _ rfl rfl _ _ HV.out.2 (by rw [Hfin.out]; exact sz_d) (by rw [Hfin.out]; rfl) (encA_one _ _) ?_)
  refine bodyPost_ret (results_cell_row rfl _ _ _ _ _ _ _ rfl (setRow_heap _ _ _ _ _ _ HV.out.2) Tryd.underlying27 rfl (by rw [Hfin.out]; exact sz_d)) rfl ⟨rfl, below_setRow HV.out.1 (Nat.le_refl _) _⟩
set_option maxRecDepth 100000 in
set_option maxHeartbeats 1000000 in
theorem mac_short (kv v : Value) (key bs rc fc : List Int) (w : World) (G : Glob w rc fc) (hk : BytesIn w kv key) (hb : BytesIn w v bs) (hl : bs.length ≤ 281474976710656) (hlong : ¬ 64 < key.length) :
    Calls Tryd.prog 9 #[kv, v] w fun e w' => e = .returned (.agg (encA .u8 (macF rc fc key bs))) ∧ Below w.heap.size w w' := by
  obtain ⟨A, kcap, rfl⟩ : ∃ A kcap, kv = .slice A key.length kcap := by obtain ⟨A, cap, h, _⟩ := hk; exact ⟨A, cap, h⟩
  have Hkc := Lib.hid hk.cells
  have HG := Lib.hid G
  have Hb := Lib.hid hb
  clear G hb hk
  go_enter Tryd.func9, Tryd.ntmps9
  go_wp2_with (refine wpList_copy_splice rfl _ _ _ _ rfl 5 Tryd.underlying22 (by kernel_rfl) (some ⟨w.heap.size + 1, 0, none⟩) A 64 64 key.length kcap rfl rfl (w.heap.size + 1) 0 zeros64b.toList 70 (heap_alloc2_new _ _ _) (key.map (Value.int .u8)) (by rw [List.length_map]; exact (Nat.min_eq_left (by omega)).symm) (fun hp => ⟨rfl, by obtain ⟨ad, h1, h2⟩ := Hkc.out.2 hp; exact ⟨ad, h1, fun j u hu => by rw [Below.cell (((Below.refl w.heap.size w).alloc (Nat.le_refl _) _).alloc (by simp) _) (World.block_lt_of_cell? _ _ (h2 j u hu))]; exact h2 j u hu⟩⟩) (by rw [List.length_map]; show 0 + _ ≤ 64; omega) (map_one _ _) (w.heap.size + 1) _ (Below.refl _ _) (Nat.le_refl _) ?_; intro W3 hrow1 hbel1)
  have hT1 : W3.heap[w.heap.size + 1]? = some (.cells (encA .u8 (keyF rc fc key)) 70 (0, 0)) := by
    rw [hrow1.out, keyF, if_neg hlong, zeros64b, splice_enc 64 key (by omega)]
  have hT0 : W3.heap[w.heap.size]? = some (.cells zeros32 27 (0, 0)) := by
    rw [hbel1.block _ (by omega), heap_alloc2_old]; rfl
  have hTB : Below w.heap.size w W3 := (((Below.refl w.heap.size w).alloc (Nat.le_refl _) _).alloc (by simp) _).trans (hbel1.mono (by omega))
  have HT0 := Lib.hid hT0
  have HT1 := Lib.hid hT1
  have HTB := Lib.hid hTB
  clear hT0 hT1 hTB hrow1 hbel1
  have hkbl := keyF_length rc fc key
  obtain ⟨kb, hkb⟩ : ∃ kb, kb = keyF rc fc key := ⟨_, rfl⟩
  rw [← hkb] at HT1 hkbl
  have hkbs : (encA .u8 kb).size = 64 := by rw [encA_size, hkbl]
  have Hkb := Lib.hid hkb
  have Hkbs := Lib.hid hkbs
  have Hkbl := Lib.hid hkbl
  clear hkb hkbs hkbl
  refine (dnew_any rc fc _ (HG.out.below HTB.out)).mono ?_
  rintro e w4 ⟨rfl, rfl⟩
  go_wp2_with fail
  refine (dnew_any rc fc _ ((HG.out.below HTB.out).below ((Below.refl _ _).alloc (Nat.le_refl _) _))).mono ?_
  rintro e w5 ⟨rfl, rfl⟩
  have hU1 : ((W3.alloc (.cells (hs0 fc).cells 124)).alloc (.cells (hs0 fc).cells 124)).heap[w.heap.size + 1]? = some (.cells (encA .u8 kb) 70 (0, 0)) := by
    have := (Array.getElem?_eq_some_iff.1 HT1.out).1
    rw [heap_alloc_old _ _ (by simp; omega), heap_alloc_old _ _ (by omega)]; exact HT1.out
  have HU1 := Lib.hid hU1
  clear hU1
  go_wp2_with (refine wpList_load_row rfl 70 _ rfl (w.heap.size + 1) rfl _ _ _ _ HU1.out Tryd.underlying70 rfl (by rw [Hkbs.out]; exact sz_k) ?_)
  refine (masked_any kb 54 _ Hkbl.out).mono ?_
  rintro e w6 ⟨rfl, rfl⟩
  obtain ⟨C, hC⟩ : ∃ C, C = W3.heap.size := ⟨_, rfl⟩
  have hBC : w.heap.size + 1 < C := by rw [hC]; exact (Array.getElem?_eq_some_iff.1 HT1.out).1
  have hml := maskTo_length kb 54 64
  have X1 : (((W3.alloc (.cells (hs0 fc).cells 124)).alloc (.cells (hs0 fc).cells 124)).alloc (.cells (encA .u8 (maskTo kb 54 64)) 70)).heap[C]? = some (.cells (hs0 fc).cells 124 (0, 0)) := by
    rw [hC, heap_alloc_old _ _ (by simp; omega), heap_alloc2_old]
  have X2 : (((W3.alloc (.cells (hs0 fc).cells 124)).alloc (.cells (hs0 fc).cells 124)).alloc (.cells (encA .u8 (maskTo kb 54 64)) 70)).heap[C + 1]? = some (.cells (hs0 fc).cells 124 (0, 0)) := by
    rw [hC, heap_alloc_old _ _ (by simp), heap_alloc2_new]
  have X3 : ∀ i, i < (maskTo kb 54 64).length → (((W3.alloc (.cells (hs0 fc).cells 124)).alloc (.cells (hs0 fc).cells 124)).alloc (.cells (encA .u8 (maskTo kb 54 64)) 70)).cell? ⟨C + 1 + 1, 0 + i, none⟩ = some (.int .u8 ((maskTo kb 54 64)[i]?.getD 0)) := fun i hi => by
    have := cells_enc ((W3.alloc (.cells (hs0 fc).cells 124)).alloc (.cells (hs0 fc).cells 124)) .u8 (maskTo kb 54 64) 70 i (.int .u8 ((maskTo kb 54 64)[i]?.getD 0)) (by rw [List.getElem?_map, List.getElem?_eq_getElem hi]; rfl)
    rw [add_off] at this
    rw [hC]
    simpa using this
  have X4 : Below w.heap.size w (((W3.alloc (.cells (hs0 fc).cells 124)).alloc (.cells (hs0 fc).cells 124)).alloc (.cells (encA .u8 (maskTo kb 54 64)) 70)) :=
    ((HTB.out.alloc (by omega) _).alloc (by simp; omega) _).alloc (by simp; omega) _
  have X5 : (((W3.alloc (.cells (hs0 fc).cells 124)).alloc (.cells (hs0 fc).cells 124)).alloc (.cells (encA .u8 (maskTo kb 54 64)) 70)).heap[w.heap.size]? = some (.cells zeros32 27 (0, 0)) := by
    rw [heap_alloc_old _ _ (by simp; omega), heap_alloc_old _ _ (by simp; omega), heap_alloc_old _ _ (by omega)]; exact HT0.out
  have X6 : (((W3.alloc (.cells (hs0 fc).cells 124)).alloc (.cells (hs0 fc).cells 124)).alloc (.cells (encA .u8 (maskTo kb 54 64)) 70)).heap[w.heap.size + 1]? = some (.cells (encA .u8 kb) 70 (0, 0)) := by
    rw [heap_alloc_old _ _ (by simp; omega)]; exact HU1.out
  have X7 : (((W3.alloc (.cells (hs0 fc).cells 124)).alloc (.cells (hs0 fc).cells 124)).alloc (.cells (encA .u8 (maskTo kb 54 64)) 70)).heap.size = C + 3 := by
    rw [hC]; simp
  subst hC
  go_wp2_with fail
  generalize ((W3.alloc (.cells (hs0 fc).cells 124)).alloc (.cells (hs0 fc).cells 124)).alloc (.cells (encA .u8 (maskTo kb 54 64)) 70) = W6 at *
  clear HU1
  have hne := HG.out.ne (show w.heap.size ≤ W3.heap.size by omega)
  have hne' := HG.out.ne (show w.heap.size ≤ W3.heap.size + 1 by omega)
  refine (write_any W3.heap.size (hs0 fc) (maskTo kb 54 64) _ rc fc _ (hs0_ok _ HG.out.fl) (HG.out.below X4) X1 ⟨_, 64, by rw [hml, Hkbl.out], by rw [hml, Hkbl.out]; decide, by decide, fun _ => ⟨_, 0, rfl, by omega, X3⟩⟩ (by rw [hml, Hkbl.out]; show (0 : Int) + _ ≤ _; omega) hne.1 hne.2).mono ?_
  rintro e w7 ⟨rfl, hrow7, hgr7⟩
  have hok7 := writeF_ok rc 64 (hs0 fc) (maskTo kb 54 64) (hs0_ok _ HG.out.fl)
  have hn7 := writeF_n rc 64 (hs0 fc) (maskTo kb 54 64) (by rw [hml, Hkbl.out]; exact Nat.le_refl _)
  rw [hml, Hkbl.out] at hrow7 hn7
  obtain ⟨s1, hs1⟩ : ∃ s1, s1 = writeF rc 64 (hs0 fc) (maskTo kb 54 64) := ⟨_, rfl⟩
  rw [← hs1] at hrow7 hok7 hn7
  have Y0 : Below w.heap.size w w7 := X4.trans (below_ofGrown hgr7 (by omega) (by omega))
  have Y2 : w7.heap[W3.heap.size + 1]? = some (.cells (hs0 fc).cells 124 (0, 0)) := by rw [hgr7.block _ (by omega) (by simp)]; exact X2
  have Y5 : w7.heap[w.heap.size]? = some (.cells zeros32 27 (0, 0)) := by rw [hgr7.block _ (by omega) (by simp; omega)]; exact X5
  have Y6 : w7.heap[w.heap.size + 1]? = some (.cells (encA .u8 kb) 70 (0, 0)) := by rw [hgr7.block _ (by omega) (by simp; omega)]; exact X6
  have Y7 := hgr7.size
  rw [X7] at Y7
  clear X1 X2 X3 X4 X5 X6 X7 hgr7 HT0 HT1 HTB
  have HY := Lib.hid (And.intro hrow7 (And.intro hok7 (And.intro Y0 (And.intro Y2 (And.intro Y5 Y6)))))
  clear hrow7 hok7 Y0 Y2 Y5 Y6
  go_wp2_with fail
  refine (write_any W3.heap.size s1 bs v rc fc _ HY.out.2.1 (HG.out.below HY.out.2.2.1) HY.out.1 (Hb.out.new HY.out.2.2.1 (by omega)) (by rw [hn7]; show (0 : Int) + _ + _ ≤ _; omega) hne.1 hne.2).mono ?_
  rintro e w8 ⟨rfl, hrow8, hgr8⟩
  have hok8 := writeF_ok rc bs.length s1 bs HY.out.2.1
  have hn8 := writeF_n rc bs.length s1 bs (Nat.le_refl _)
  obtain ⟨s2, hs2⟩ : ∃ s2, s2 = writeF rc bs.length s1 bs := ⟨_, rfl⟩
  rw [← hs2] at hrow8 hok8 hn8
  have hin : s2 = innerF rc fc key bs 54 := by rw [hs2, hs1, Hkb.out]; rfl
  have Z0 : Below w.heap.size w w8 := HY.out.2.2.1.trans (below_ofGrown hgr8 (by omega) (by omega))
  have Z2 : w8.heap[W3.heap.size + 1]? = some (.cells (hs0 fc).cells 124 (0, 0)) := by rw [hgr8.block _ (by omega) (by simp)]; exact HY.out.2.2.2.1
  have Z5 : w8.heap[w.heap.size]? = some (.cells zeros32 27 (0, 0)) := by rw [hgr8.block _ (by omega) (by simp; omega)]; exact HY.out.2.2.2.2.1
  have Z6 : w8.heap[w.heap.size + 1]? = some (.cells (encA .u8 kb) 70 (0, 0)) := by rw [hgr8.block _ (by omega) (by simp; omega)]; exact HY.out.2.2.2.2.2
  have Z7 := hgr8.size
  have hin8 : s2.n ≤ 1000000000000000000 := by rw [hn8, hn7]; show (0 : Int) + _ + _ ≤ _; omega
  clear HY hgr8 hs1 hs2 hn7 hn8
  have HZ := Lib.hid (And.intro Z0 (And.intro Z2 (And.intro Z5 Z6)))
  have HR8 := Lib.hid hrow8
  have HO8 := Lib.hid hok8
  have Hin := Lib.hid hin
  have Hin8 := Lib.hid hin8
  clear Z0 Z2 Z5 Z6 hrow8 hok8 hin hin8
  go_wp2_with fail
  refine (hsum_any W3.heap.size s2 rc fc w8 HO8.out (HG.out.below HZ.out.1) Hin8.out HR8.out).mono ?_
  rintro e w9 ⟨rfl, hbel9⟩
  obtain ⟨di, hdi⟩ : ∃ di, di = sumF rc s2 := ⟨_, rfl⟩
  have hdil : di.length = 32 := by rw [hdi, sumF_length]
  rw [← hdi]
  have U0 : Below w.heap.size w w9 := HZ.out.1.trans (hbel9.mono (by omega))
  have U2 : w9.heap[W3.heap.size + 1]? = some (.cells (hs0 fc).cells 124 (0, 0)) := by rw [hbel9.block _ (by omega)]; exact HZ.out.2.1
  have U5 : w9.heap[w.heap.size]? = some (.cells zeros32 27 (0, 0)) := by rw [hbel9.block _ (by omega)]; exact HZ.out.2.2.1
  have U6 : w9.heap[w.heap.size + 1]? = some (.cells (encA .u8 kb) 70 (0, 0)) := by rw [hbel9.block _ (by omega)]; exact HZ.out.2.2.2
  have U7 := hbel9.size
  have Hdi := Lib.hid hdi
  have Hdil : Hid ((encA .u8 di).size = 32) := by show _ = _; rw [encA_size, hdil]
  have HU := Lib.hid (And.intro U0 (And.intro U2 (And.intro U5 U6)))
  clear hdi HZ HR8 HO8 U0 U2 U5 U6 hbel9 Hin8
  go_wp2_with (first | (refine wpList_store_row rfl 27 _ _ rfl w9.heap.size _ rfl rfl _ _ (heap_alloc_new _ _) (by rw [Hdil.out]; exact sz_d) (by rw [Hdil.out]; rfl) (encA_one _ _) ?_; rw [World.setRow_alloc_new]) | (refine wpList_load_row rfl 70 _ rfl (w.heap.size + 1) rfl _ _ _ _ (by rw [heap_alloc_old _ _ (by omega)]; exact HU.out.2.2.2) Tryd.underlying70 rfl (by rw [Hkbs.out]; exact sz_k) ?_))
  refine (masked_any kb 92 _ Hkbl.out).mono ?_
  rintro e w10 ⟨rfl, rfl⟩
  have hml2 := maskTo_length kb 92 64
  have T0 : Below w.heap.size w ((w9.alloc (.cells (encA .u8 di) 27)).alloc (.cells (encA .u8 (maskTo kb 92 64)) 70)) := (HU.out.1.alloc (by omega) _).alloc (by simp; omega) _
  have T2 : ((w9.alloc (.cells (encA .u8 di) 27)).alloc (.cells (encA .u8 (maskTo kb 92 64)) 70)).heap[W3.heap.size + 1]? = some (.cells (hs0 fc).cells 124 (0, 0)) := by
    rw [heap_alloc_old _ _ (by simp; omega), heap_alloc_old _ _ (by omega)]; exact HU.out.2.1
  have T5 : ((w9.alloc (.cells (encA .u8 di) 27)).alloc (.cells (encA .u8 (maskTo kb 92 64)) 70)).heap[w.heap.size]? = some (.cells zeros32 27 (0, 0)) := by
    rw [heap_alloc_old _ _ (by simp; omega), heap_alloc_old _ _ (by omega)]; exact HU.out.2.2.1
  have T8 : ∀ i, i < (maskTo kb 92 64).length → ((w9.alloc (.cells (encA .u8 di) 27)).alloc (.cells (encA .u8 (maskTo kb 92 64)) 70)).cell? ⟨w9.heap.size + 1, 0 + i, none⟩ = some (.int .u8 ((maskTo kb 92 64)[i]?.getD 0)) := fun i hi => by
    have := cells_enc (w9.alloc (.cells (encA .u8 di) 27)) .u8 (maskTo kb 92 64) 70 i (.int .u8 ((maskTo kb 92 64)[i]?.getD 0)) (by rw [List.getElem?_map, List.getElem?_eq_getElem hi]; rfl)
    rw [add_off] at this
    simpa using this
  have T9 : ∀ i, i < di.length → ((w9.alloc (.cells (encA .u8 di) 27)).alloc (.cells (encA .u8 (maskTo kb 92 64)) 70)).cell? ⟨w9.heap.size, 0 + i, none⟩ = some (.int .u8 (di[i]?.getD 0)) := fun i hi => by
    have h := cells_enc w9 .u8 di 27 i (.int .u8 (di[i]?.getD 0)) (by rw [List.getElem?_map, List.getElem?_eq_getElem hi]; rfl)
    rw [add_off] at h
    have hb := World.block_lt_of_cell? _ _ h
    rw [← h]
    exact World.cell?_of_block (w := w9.alloc (.cells (encA .u8 di) 27)) (heap_alloc_old _ _ hb)
  have T7 : ((w9.alloc (.cells (encA .u8 di) 27)).alloc (.cells (encA .u8 (maskTo kb 92 64)) 70)).heap.size = w9.heap.size + 2 := by simp
  have HT := Lib.hid (And.intro T0 (And.intro T2 (And.intro T5 (And.intro T8 T9))))
  clear T0 T2 T5 T8 T9 HU
  go_wp2_with fail
  generalize (w9.alloc (.cells (encA .u8 di) 27)).alloc (.cells (encA .u8 (maskTo kb 92 64)) 70) = W10 at *
  refine (write_any (W3.heap.size + 1) (hs0 fc) (maskTo kb 92 64) _ rc fc _ (hs0_ok _ HG.out.fl) (HG.out.below HT.out.1) HT.out.2.1 ⟨_, 64, by rw [hml2, Hkbl.out], by rw [hml2, Hkbl.out]; decide, by decide, fun _ => ⟨_, 0, rfl, by omega, HT.out.2.2.2.1⟩⟩ (by rw [hml2, Hkbl.out]; show (0 : Int) + _ ≤ _; omega) hne'.1 hne'.2).mono ?_
  rintro e w11 ⟨rfl, hrow11, hgr11⟩
  have hok11 := writeF_ok rc 64 (hs0 fc) (maskTo kb 92 64) (hs0_ok _ HG.out.fl)
  have hn11 := writeF_n rc 64 (hs0 fc) (maskTo kb 92 64) (by rw [hml2, Hkbl.out]; exact Nat.le_refl _)
  rw [hml2, Hkbl.out] at hrow11 hn11
  obtain ⟨s3, hs3⟩ : ∃ s3, s3 = writeF rc 64 (hs0 fc) (maskTo kb 92 64) := ⟨_, rfl⟩
  rw [← hs3] at hrow11 hok11 hn11
  have A0 : Below w.heap.size w w11 := HT.out.1.trans (below_ofGrown hgr11 (by omega) (by omega))
  have A5 : w11.heap[w.heap.size]? = some (.cells zeros32 27 (0, 0)) := by rw [hgr11.block _ (by omega) (by simp; omega)]; exact HT.out.2.2.1
  have A9 : ∀ i, i < di.length → w11.cell? ⟨w9.heap.size, 0 + i, none⟩ = some (.int .u8 (di[i]?.getD 0)) := fun i hi => cell_grown hgr11 (by show w9.heap.size ≠ _; omega) (HT.out.2.2.2.2 i hi)
  have A7 := hgr11.size
  have HA := Lib.hid (And.intro A0 (And.intro A5 (And.intro A9 (And.intro hrow11 hok11))))
  clear A0 A5 A9 hrow11 hok11 HT hgr11
  go_wp2_with fail
  have hdl : di.length = 32 := by have := Hdil.out; rwa [encA_size] at this
  refine (write_any (W3.heap.size + 1) s3 di _ rc fc _ HA.out.2.2.2.2 (HG.out.below HA.out.1) HA.out.2.2.2.1 ⟨_, 32, by rw [hdl], by rw [hdl]; decide, by decide, fun _ => ⟨_, 0, rfl, by omega, HA.out.2.2.1⟩⟩ (by rw [hn11, hdl]; show (0 : Int) + _ + _ ≤ _; omega) hne'.1 hne'.2).mono ?_
  rintro e w12 ⟨rfl, hrow12, hgr12⟩
  have hok12 := writeF_ok rc di.length s3 di HA.out.2.2.2.2
  have hn12 := writeF_n rc di.length s3 di (Nat.le_refl _)
  obtain ⟨s4, hs4⟩ : ∃ s4, s4 = writeF rc di.length s3 di := ⟨_, rfl⟩
  rw [← hs4] at hrow12 hok12 hn12
  have hin4 : s4 = innerF rc fc key di 92 := by rw [hs4, hs3, Hkb.out]; rfl
  have B0 : Below w.heap.size w w12 := HA.out.1.trans (below_ofGrown hgr12 (by omega) (by omega))
  have B5 : w12.heap[w.heap.size]? = some (.cells zeros32 27 (0, 0)) := by rw [hgr12.block _ (by omega) (by simp; omega)]; exact HA.out.2.1
  have B7 := hgr12.size
  have hn4 : s4.n ≤ 1000000000000000000 := by rw [hn12, hn11, hdl]; show (0 : Int) + _ + _ ≤ _; omega
  have HBb := Lib.hid (And.intro B0 B5)
  have HR12 := Lib.hid hrow12
  have HO12 := Lib.hid hok12
  have Hin4 := Lib.hid hin4
  have Hn4 := Lib.hid hn4
  clear B0 B5 hrow12 hok12 HA hgr12 hs3 hs4 hin4 hn4 hn11 hn12
  go_wp2_with fail
  refine (hsum_any (W3.heap.size + 1) s4 rc fc w12 HO12.out (HG.out.below HBb.out.1) Hn4.out HR12.out).mono ?_
  rintro e w13 ⟨rfl, hbel13⟩
  have V5 : w13.heap[w.heap.size]? = some (.cells zeros32 27 (0, 0)) := by rw [hbel13.block _ (by omega)]; exact HBb.out.2
  have V0 : Below w.heap.size w w13 := HBb.out.1.trans (hbel13.mono (by omega))
  have hfin : (encA .u8 (sumF rc s4)).size = 32 := by rw [encA_size, sumF_length]
  have hmac : sumF rc s4 = macF rc fc key bs := by rw [Hin4.out, Hdi.out, Hin.out]; rfl
  rw [hmac] at hfin ⊢
  have Hfin := Lib.hid hfin
  have HV := Lib.hid (And.intro V0 V5)
  clear hfin V0 V5 hmac hbel13 HBb HR12 HO12 Hn4
  go_wp2_with (refine wpList_store_row rfl 27 _ _ rfl w.heap.size _ rfl rfl _ _ HV.out.2 (by rw [Hfin.out]; exact sz_d) (by rw [Hfin.out]; rfl) (encA_one _ _) ?_)
  refine bodyPost_ret (results_cell_row rfl _ _ _ _ _ _ _ rfl (setRow_heap _ _ _ _ _ _ HV.out.2) Tryd.underlying27 rfl (by rw [Hfin.out]; exact sz_d)) rfl ⟨rfl, below_setRow HV.out.1 (Nat.le_refl _) _⟩

theorem mac_any (kv v : Value) (key bs rc fc : List Int) (w : World) (G : Glob w rc fc) (hk : BytesIn w kv key) (hkl : key.length ≤ 281474976710656) (hb : BytesIn w v bs) (hl : bs.length ≤ 281474976710656) :
    Calls Tryd.prog 9 #[kv, v] w fun e w' => e = .returned (.agg (encA .u8 (macF rc fc key bs))) ∧ Below w.heap.size w w' := by
  by_cases h : 64 < key.length
  · exact mac_long kv v key bs rc fc w G hk hkl hb hl h
  · exact mac_short kv v key bs rc fc w G hk hb hl h
end Go.Proofs.YthgebhndhilhkaaDoor
