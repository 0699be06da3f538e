/- digest: Sum, Mac. -/
import Derived.Test.YthgebhndhilhkaaDoorDig5
namespace Go.Proofs.YthgebhndhilhkaaDoor
open Go.RowKit

/-- A slice that reads as these bytes. -/
def BytesIn (w : World) (v : Value) (bs : List Int) : Prop :=
  ∃ A cap, v = .slice A bs.length cap ∧ bs.length ≤ cap ∧ cap ≤ 9223372036854775807 ∧ (0 < bs.length → ∃ gb ob, A = some ⟨gb, ob, none⟩ ∧ ∀ i, i < bs.length → w.cell? ⟨gb, ob + i, none⟩ = some (.int .u8 (bs[i]?.getD 0)))
theorem BytesIn.below {w w1 : World} {v : Value} {bs : List Int} (h : BytesIn w v bs) (hb : Below w.heap.size w w1) : BytesIn w1 v bs := by
  obtain ⟨A, cap, rfl, h1, h2, h3⟩ := h
  refine ⟨A, cap, rfl, h1, h2, fun hp => ?_⟩
  obtain ⟨gb, ob, rfl, hc⟩ := h3 hp
  exact ⟨gb, ob, rfl, fun i hi => by rw [hb.cell (p := ⟨gb, ob + i, none⟩) (World.block_lt_of_cell? _ _ (hc i hi))]; exact hc i hi⟩
/-- The same, a block being turned that it doesn't lie in. -/
theorem BytesIn.but {w : World} {v : Value} {bs : List Int} {g : Nat} (h : BytesIn w v bs) (hg : ∀ gb ob i, w.cell? ⟨gb, ob + i, none⟩ = some (.int .u8 (bs[i]?.getD 0)) → gb ≠ g) : BytesBut w g v bs := by
  obtain ⟨A, cap, rfl, h1, h2, h3⟩ := h
  refine ⟨A, cap, rfl, h1, h2, fun hp => ?_⟩
  obtain ⟨gb, ob, rfl, hc⟩ := h3 hp
  exact ⟨gb, ob, rfl, hg gb ob 0 (hc 0 hp), hc⟩
theorem BytesIn.new {w w1 : World} {v : Value} {bs : List Int} {g : Nat} (h : BytesIn w v bs) (hb : Below w.heap.size w w1) (hg : w.heap.size ≤ g) : BytesBut w1 g v bs := by
  obtain ⟨A, cap, rfl, h1, h2, h3⟩ := h
  refine ⟨A, cap, rfl, h1, h2, fun hp => ?_⟩
  obtain ⟨gb, ob, rfl, hc⟩ := h3 hp
  have hlt := World.block_lt_of_cell? _ _ (hc 0 hp)
  exact ⟨gb, ob, rfl, by have : gb < w.heap.size := hlt; omega, fun i hi => by rw [hb.cell (p := ⟨gb, ob + i, none⟩) (World.block_lt_of_cell? _ _ (hc i hi))]; exact hc i hi⟩
theorem Glob.below {w w1 : World} {rc fc : List Int} (G : Glob w rc fc) (hb : Below w.heap.size w w1) : Glob w1 rc fc :=
  ⟨G.rl, G.fl, G.r.same (hb.block _ G.r.lt), G.f.same (hb.block _ G.f.lt)⟩
theorem Glob.ne {w : World} {rc fc : List Int} (G : Glob w rc fc) {g : Nat} (hg : w.heap.size ≤ g) : g ≠ 4 ∧ g ≠ 1 := by
  have hr := G.r.lt
  have hf := G.f.lt
  omega
theorem hs0_ok (fc : List Int) (h : fc.length = 8) : (hs0 fc).Ok := ⟨h, rfl, Int.le_refl _⟩
theorem writeF_n (rc : List Int) (f : Nat) : ∀ (s : HS) (bs : List Int), bs.length ≤ f → (writeF rc f s bs).n = s.n + (bs.length : Nat) := by
  induction f with
  | zero => intro s bs h; rw [writeF]; omega
  | succ f ih =>
    intro s bs h
    rw [writeF]
    split
    · omega
    · have h1 : s.at_ < 64 := by unfold HS.at_; omega
      have hr : s.room bs.length ≤ bs.length ∧ 0 < s.room bs.length := by unfold HS.room; omega
      rw [ih _ _ (by rw [List.length_drop]; omega), List.length_drop]
      simp only [stepW]
      omega
/-- SHA-256, as the program has it. -/
def shaF (rc fc bs : List Int) : List Int := sumF rc (writeF rc bs.length (hs0 fc) bs)
theorem shaF_length (rc fc bs : List Int) : (shaF rc fc bs).length = 32 := sumF_length _ _

set_option maxRecDepth 100000 in
set_option maxHeartbeats 1000000 in
theorem sum_any (v : Value) (bs rc fc : List Int) (w : World) (G : Glob w rc fc) (hb : BytesIn w v bs) (hl : bs.length ≤ 281474976710656) :
    Calls Tryd.prog 34 #[v] w fun e w' => e = .returned (.agg (encA .u8 (shaF rc fc bs))) ∧ Below w.heap.size w w' := by
  have HG := Lib.hid G
  have Hb := Lib.hid hb
  clear G hb
  go_enter Tryd.func34, Tryd.ntmps34
  go_wp2_with fail
  rw [show (#[.int .u8 0, .int .u8 0, .int .u8 0, .int .u8 0, .int .u8 0, .int .u8 0, .int .u8 0, .int .u8 0, .int .u8 0, .int .u8 0, .int .u8 0, .int .u8 0, .int .u8 0, .int .u8 0, .int .u8 0, .int .u8 0, .int .u8 0, .int .u8 0, .int .u8 0, .int .u8 0, .int .u8 0, .int .u8 0, .int .u8 0, .int .u8 0, .int .u8 0, .int .u8 0, .int .u8 0, .int .u8 0, .int .u8 0, .int .u8 0, .int .u8 0, .int .u8 0] : Array Value) = zeros32 from rfl]
  have hB0 : Below w.heap.size w (w.alloc (.cells zeros32 27)) := (Below.refl _ _).alloc (Nat.le_refl _) _
  refine (dnew_any rc fc _ (HG.out.below hB0)).mono ?_
  rintro e w1 ⟨rfl, rfl⟩
  have hB1 : Below w.heap.size w ((w.alloc (.cells zeros32 27)).alloc (.cells (hs0 fc).cells 124)) := hB0.alloc (by simp) _
  go_wp2_with fail
  refine (write_any (w.heap.size + 1) (hs0 fc) bs v rc fc _ (hs0_ok _ HG.out.fl) (HG.out.below hB1) (heap_alloc2_new _ _ _) (Hb.out.new hB1 (Nat.le_succ _)) (by show (0 : Int) + _ ≤ _; omega) (HG.out.ne (Nat.le_succ _)).1 (HG.out.ne (Nat.le_succ _)).2).mono ?_
  rintro e w2 ⟨rfl, hrow, hgr⟩
  have hok := writeF_ok rc bs.length (hs0 fc) bs (hs0_ok _ HG.out.fl)
  have hn := writeF_n rc bs.length (hs0 fc) bs (Nat.le_refl _)
  obtain ⟨s, hs⟩ : ∃ s, s = writeF rc bs.length (hs0 fc) bs := ⟨_, rfl⟩
  rw [← hs] at hrow hok hn
  have hz2 : w2.heap[w.heap.size]? = some (.cells zeros32 27 (0, 0)) := by
    rw [hgr.block _ (by simp; omega) (by simp), heap_alloc2_old]
  have hB2 : Below w.heap.size w w2 := hB1.trans (below_ofGrown hgr (by simp; omega) (Nat.le_succ _))
  have Hs := Lib.hid hs
  have Hrow := Lib.hid hrow
  have Hgr := Lib.hid hgr
  have Hz2 := Lib.hid hz2
  have HB2 := Lib.hid hB2
  clear hs hrow hgr hz2 hB2 hB0 hB1
  go_wp2_with fail
  refine (hsum_any (w.heap.size + 1) s rc fc w2 hok (HG.out.below HB2.out) (by rw [hn]; show (0 : Int) + _ ≤ _; omega) Hrow.out).mono ?_
  rintro e w3 ⟨rfl, hB3⟩
  have hz3 : w3.heap[w.heap.size]? = some (.cells zeros32 27 (0, 0)) := by
    rw [hB3.block _ (Array.getElem?_eq_some_iff.1 Hz2.out).1]; exact Hz2.out
  have hsl := sumF_length rc s
  have Hz3 := Lib.hid hz3
  have HB3 := Lib.hid hB3
  have Hsl : Hid ((encA .u8 (sumF rc s)).size = 32) := by show _ = _; rw [encA_size, hsl]
  clear hz3 hB3 hsl hok hn
  go_wp2_with (refine wpList_store_row rfl 27 _ _ rfl w.heap.size _ rfl rfl _ _ Hz3.out (by rw [Hsl.out]; exact sz_d) (by rw [Hsl.out]; rfl) (encA_one _ _) ?_)
  refine bodyPost_ret (results_cell_row rfl _ _ _ _ _ _ _ rfl (setRow_heap _ _ _ _ _ _ Hz3.out) Tryd.underlying27 rfl (by rw [Hsl.out]; exact sz_d)) rfl ⟨?_, below_setRow (HB2.out.trans (HB3.out.mono HB2.out.size)) (Nat.le_refl _) _⟩
  rw [shaF, ← Hs.out]
end Go.Proofs.YthgebhndhilhkaaDoor
