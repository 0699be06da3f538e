/- KeysTwo: the walk. -/
import Derived.Test.YthgebhndhilhkaaDoorKey8
import Derived.Test.YthgebhndhilhkaaDoorWas0
namespace Go.Proofs.YthgebhndhilhkaaDoor
open Go.RowKit Go.MuLone Go.Maps

/-- What is written in a map leaves another ring alone. -/
theorem RG.other {w w' : World} {r b1 b2 g n : Nat} {sv : Value} {sec rc fc : List Int} {l : List Pr} {k : TypeId} {Rr : Value → Option (DataW Unit × List MemPlace)} {D : DataW Unit} (R : RG w r b1 b2 sv sec rc fc l) (hm : w.ownsMap Tryd.prog k Rr g n D) (h : Kept w w' (· = g)) (h1 : b1 ≠ g) (h2 : b2 ≠ g) :
    RG w' r b1 b2 sv sec rc fc l := by
  have hg := map_glob hm R.glob
  refine ⟨R.ring.keptS h (row_ne_map hm R.ring.row) h1 h2 (fun A n c hA hn e => ?_), R.glob.kept h hg.1 hg.2, R.ok⟩
  obtain ⟨A', cap, hA', _, _, k3⟩ := R.ring.secIn
  rw [hA] at hA'
  injection hA' with a1 a2 a3
  subst a1
  obtain ⟨gb, ob, e2, hc⟩ := k3 (by omega)
  injection e2 with e2
  subst e2
  obtain ⟨es, clock, hb, _⟩ := hm
  have e : gb = g := e
  have := hc 0 (by omega)
  rw [e] at this
  exact cell_no_map hb this
/-- A pair in a row of its own. -/
theorem rowPair {w : World} {g : Nat} {p : Pr} {t : TypeId} (h : w.heap[g]? = some (.cells (pc p).toArray t (0, 0))) : w.cell? ⟨g, 0, none⟩ = some (.int .i64 p.1) ∧ w.rangeAt g 1 (dc p.2) := by
  refine ⟨by rw [cell_of_row _ _ _ _ _ _ h]; rfl, fun j v hv => ?_⟩
  rw [cell_of_row _ _ _ _ _ _ h, Nat.add_comm]
  simpa [pc, dc] using hv
theorem below_of_kept {w v v' : World} {g : Nat} (hb : Below w.heap.size w v) (hk : Kept v v' (· = g)) (hg : w.heap.size ≤ g) : Below w.heap.size w v' := by
  have := hb.size
  exact hb.trans ⟨hk.os, hk.tape, hk.output, hk.size, fun k h => hk.block k (by omega) (by omega)⟩
theorem RG.keptP {w w' : World} {r b1 b2 : Nat} {sv : Value} {sec rc fc : List Int} {l : List Pr} (R : RG w r b1 b2 sv sec rc fc l) (h : Kept w w' (fun _ => False)) : RG w' r b1 b2 sv sec rc fc l := R.keptN h

set_option maxRecDepth 100000 in
set_option maxHeartbeats 60000000 in
theorem two_any (secv othv : Value) (sec oth : List Int) (p : Pr) (rc fc : List Int) (w : World) (G : Glob w rc fc)
    (hsf : FlatIn w secv 1 (sec.map (Value.int .u8))) (hsl : sec.length ≤ 140737488355328) (hof : FlatIn w othv 1 (oth.map (Value.int .u8))) (hol : oth.length ≤ 140737488355328) (hp : PrOk p) :
    Calls Tryd.prog 7 #[secv, othv, .agg (pc p).toArray] w fun e w' => e = .returned (.bool true) ∧ Below w.heap.size w w' := by
  have HG := Lib.hid G
  have Hsf := Lib.hid hsf
  have Hof := Lib.hid hof
  clear G hsf hof
  go_enter Tryd.func7, Tryd.ntmps7
  go_wp2_with fail
  have hV0 : (w.alloc (.cells (pc p).toArray 35)).heap[w.heap.size]? = some (.cells (pc p).toArray 35 (0, 0)) := heap_alloc_new _ _
  have hVb : Below w.heap.size w (w.alloc (.cells (pc p).toArray 35)) := (Below.refl _ _).alloc (Nat.le_refl _) _
  generalize w.alloc (.cells (pc p).toArray 35) = W0 at *
  obtain ⟨pb, hpb⟩ : ∃ pb, pb = w.heap.size := ⟨_, rfl⟩
  rw [← hpb] at hV0 ⊢
  have H0 := Lib.hid (And.intro hV0 hVb)
  have Hpb := Lib.hid hpb
  clear hV0 hVb hpb
  refine (enrolled_any secv sec rc fc W0 (HG.out.below H0.out.2) (Hsf.out.below H0.out.2) hsl).mono ?_
  rintro e w1 ⟨ra, a1, a2, sva, rfl, R, hB, hra, ha1, ha2⟩
  have hRa : RG w1 ra a1 a2 sva sec rc fc [] := ⟨R, (HG.out.below H0.out.2).below hB, fun q hq => by cases hq⟩
  have hB1 : Below w.heap.size w w1 := H0.out.2.trans (hB.mono H0.out.2.size)
  have hP1 : w1.heap[pb]? = some (.cells (pc p).toArray 35 (0, 0)) := (hB.block pb (Array.getElem?_eq_some_iff.1 H0.out.1).1).trans H0.out.1
  have hwa : w.heap.size ≤ a2 := Nat.le_trans H0.out.2.size ha2
  have H1 := Lib.hid (And.intro hRa (And.intro hB1 hP1))
  clear R hB hRa hB1 hP1 H0 hra ha1 ha2
  go_wp2_with fail
  refine (enrolled_any secv sec rc fc w1 H1.out.1.glob (Hsf.out.below H1.out.2.1) hsl).mono ?_
  rintro e w2 ⟨rb, b1, b2, svb, rfl, R, hB, hrb, hb1, hb2⟩
  have hRa := H1.out.1.below hB
  have hRb : RG w2 rb b1 b2 svb sec rc fc [] := ⟨R, hRa.glob, fun q hq => by cases hq⟩
  have hB1 : Below w.heap.size w w2 := H1.out.2.1.trans (hB.mono H1.out.2.1.size)
  have hP1 : w2.heap[pb]? = some (.cells (pc p).toArray 35 (0, 0)) := (hB.block pb (Array.getElem?_eq_some_iff.1 H1.out.2.2).1).trans H1.out.2.2
  have hna : a1 < w1.heap.size ∧ a2 < w1.heap.size := ⟨H1.out.1.ring.keys.lt, H1.out.1.ring.signed.lt⟩
  have H2 := Lib.hid (And.intro hRa (And.intro hRb (And.intro hB1 hP1)))
  have hwbb : w.heap.size ≤ b2 := Nat.le_trans H1.out.2.1.size hb2
  have hab1 : b1 ≠ a2 := by omega
  have hab2 : b2 ≠ a2 := by omega
  have hba1 : a1 ≠ b2 := by omega
  clear R hB hRa hRb hB1 hP1 H1 hrb
  go_wp2_with fail
  refine (enrolled_any othv oth rc fc w2 H2.out.1.glob (Hof.out.below H2.out.2.2.1) hol).mono ?_
  rintro e w3 ⟨rc', c1, c2, svc, rfl, R, hB, hrc, hc1, hc2⟩
  have hRa := H2.out.1.below hB
  have hRb := H2.out.2.1.below hB
  have hRc : RG w3 rc' c1 c2 svc oth rc fc [] := ⟨R, hRa.glob, fun q hq => by cases hq⟩
  have hB1 : Below w.heap.size w w3 := H2.out.2.2.1.trans (hB.mono H2.out.2.2.1.size)
  have hP1 : w3.heap[pb]? = some (.cells (pc p).toArray 35 (0, 0)) := (hB.block pb (Array.getElem?_eq_some_iff.1 H2.out.2.2.2).1).trans H2.out.2.2.2
  have hnb : b1 < w2.heap.size ∧ b2 < w2.heap.size := ⟨H2.out.2.1.ring.keys.lt, H2.out.2.1.ring.signed.lt⟩
  have hna2 : a1 < w2.heap.size ∧ a2 < w2.heap.size := ⟨H2.out.1.ring.keys.lt, H2.out.1.ring.signed.lt⟩
  have hwb : w.heap.size ≤ a2 ∧ w.heap.size ≤ b2 ∧ w.heap.size ≤ c2 := ⟨hwa, hwbb, Nat.le_trans H2.out.2.2.1.size hc2⟩
  have HN := Lib.hid (And.intro hwb (And.intro (show c1 ≠ a2 by omega) (And.intro (show c2 ≠ a2 by omega) (And.intro (show c1 ≠ b2 by omega) (And.intro (show c2 ≠ b2 by omega) (And.intro (show a1 ≠ c2 by omega) (And.intro (show a2 ≠ c2 by omega) (And.intro (show b1 ≠ c2 by omega) (And.intro (show b2 ≠ c2 by omega) (And.intro hab1 (And.intro hab2 hba1)))))))))))
  have H3 := Lib.hid (And.intro hRa (And.intro hRb (And.intro hRc (And.intro hB1 hP1))))
  clear R hB hRa hRb hRc hB1 hP1 H2 hrc hna hnb hna2 hwb hc1 hc2 hb1 hb2 hab1 hab2 hba1 hwa hwbb
  obtain ⟨sp, hsp⟩ : ∃ sp, sp = sealF rc fc sec p := ⟨_, rfl⟩
  obtain ⟨up, hup⟩ : ∃ up, up = sealF rc fc oth p := ⟨_, rfl⟩
  have hspl : sp.length = 32 := by rw [hsp, sealF_length]
  have hupl : up.length = 32 := by rw [hup, sealF_length]
  have hsps : (encA .u8 sp).size = 32 := by rw [encA_size, hspl]
  have hups : (encA .u8 up).size = 32 := by rw [encA_size, hupl]
  have hidp : (Tryd.prog.info? 27).map (·.size) = some (dc p.2).length := by simp only [dc, List.length_map, hp.1]; exact sz_d
  have hids : (Tryd.prog.info? 27).map (·.size) = some (dc sp).length := by simp only [dc, List.length_map, hspl]; exact sz_d
  have hidu : (Tryd.prog.info? 27).map (·.size) = some (dc up).length := by simp only [dc, List.length_map, hupl]; exact sz_d
  have Hsp := Lib.hid hsp
  have Hup := Lib.hid hup
  have Hsps := Lib.hid hsps
  have Hups := Lib.hid hups
  have Hidp := Lib.hid hidp
  have Hids := Lib.hid hids
  have Hidu := Lib.hid hidu
  clear hsp hup hsps hups hidp hids hidu
  have hpa : pb ≠ a2 := row_ne_map H3.out.1.ring.signed H3.out.2.2.2.2
  have hpbb : pb ≠ b2 := row_ne_map H3.out.2.1.ring.signed H3.out.2.2.2.2
  have hpcc : pb ≠ c2 := row_ne_map H3.out.2.2.1.ring.signed H3.out.2.2.2.2
  have hp0 : ∀ w', Kept w3.drew w' (· = a2) → w'.cell? ⟨pb, 0, none⟩ = some (.int .i64 p.1) := fun w' h => keptCell h hpa (rowPair H3.out.2.2.2.2).1
  have hpr : ∀ w', Kept w3.drew w' (· = a2) → w'.rangeAt pb 1 (dc p.2) := fun w' h => rangeAt_kept h hpa (rowPair H3.out.2.2.2.2).2
  have Hp0 := Lib.hid hp0
  have Hpr := Lib.hid hpr
  clear hp0 hpr
  go_upto_region 6 with fail
  go_cut [10, 11] from 32 to 41 (fun v u wx => ∃ g, v = .pointer (some ⟨g, 0, none⟩) ∧ u = .int .i64 0 ∧ w3.heap.size ≤ g ∧ wx.heap[g]? = some (.cells (encA .u8 sp) 27 (0, 0)) ∧ RG wx ra a1 a2 sva sec rc fc [p] ∧ Kept w3 wx (· = a2))
  case first =>
    refine reg_start (fun w' => Kept w3.drew w' (· = a2)) (by kernel_rfl) ?_
    simp only [List.length_cons, List.length_nil, Nat.zero_add, Nat.reduceAdd]
    refine reg_take 0 (v := ?_) rfl (by kernel_rfl) (by kernel_rfl) (by kernel_rfl) (fun _ _ _ h => h) (by first | exact Kept.refl _ _ | exact (Kept.refl _ _).alloc _ | assumption | exact Kept.alloc (by assumption) _) (yield_val (by rfl) ?_) ?_
    rotate_left
    · intro w hSw; go_simp <;> with_reducible rfl
    simp only [Act.put, List.setIfInBounds_toArray]; try dsimp only [List.set_cons_zero, List.set_cons_succ]
    refine reg_take 1 (v := ?_) rfl (by kernel_rfl) (by kernel_rfl) (by kernel_rfl) (fun _ _ _ h => h) (by first | exact Kept.refl _ _ | exact (Kept.refl _ _).alloc _ | assumption | exact Kept.alloc (by assumption) _) (yield_val (by rfl) ?_) ?_
    rotate_left
    · intro w hSw; go_simp <;> with_reducible rfl
    simp only [Act.put, List.setIfInBounds_toArray]; try dsimp only [List.set_cons_zero, List.set_cons_succ]
    refine reg_take 4 (v := ?_) rfl (by kernel_rfl) (by kernel_rfl) (by kernel_rfl) (fun _ _ _ h => h) (by first | exact Kept.refl _ _ | exact (Kept.refl _ _).alloc _ | assumption | exact Kept.alloc (by assumption) _) (yield_val (by rfl) ?_) ?_
    rotate_left
    · intro w hSw; go_simp <;> with_reducible rfl
    simp only [Act.put, List.setIfInBounds_toArray]; try dsimp only [List.set_cons_zero, List.set_cons_succ]
    refine reg_take 2 (v := ?_) rfl (by kernel_rfl) (by kernel_rfl) (by kernel_rfl) (fun _ _ _ h => h) (by first | exact Kept.refl _ _ | exact (Kept.refl _ _).alloc _ | assumption | exact Kept.alloc (by assumption) _) (yield_val (by rfl) ?_) ?_
    rotate_left
    · intro w hSw; have hx0 := Hp0.out w hSw; go_simp <;> with_reducible rfl
    simp only [Act.put, List.setIfInBounds_toArray]; try dsimp only [List.set_cons_zero, List.set_cons_succ]
    refine reg_take 5 rfl (by kernel_rfl) (by kernel_rfl) (by kernel_rfl) (fun _ _ _ h => h) (by first | exact Kept.refl _ _ | exact (Kept.refl _ _).alloc _ | assumption | exact Kept.alloc (by assumption) _) (yieldsIf_load_mid (by rfl) 27 _ rfl pb 1 rfl (dc p.2) _ Hpr.out Tryd.underlying27 rfl Hidp.out) ?_
    simp only [Act.put, List.setIfInBounds_toArray]; try dsimp only [List.set_cons_zero, List.set_cons_succ]
    refine reg_two 3 10 (by kernel_rfl) ?_ ?_
    · skip
      refine op_call (f := 10) (args := #[.int .i64 p.1]) rfl (by rfl) (by go_simp) _ (name_any _ _) ?_
      rintro e x1 ⟨rfl, x1b⟩
      have x1k : Kept w3.drew x1 (fun _ => False) := (Kept.refl _ _).trans (Kept.ofBelow x1b _)
      refine ⟨_, rfl, x1k.mono (fun _ e => e.elim), ?_⟩
      simp only [Act.put, List.setIfInBounds_toArray]; try dsimp only [List.set_cons_zero, List.set_cons_succ]
      refine reg_two 6 10 (by kernel_rfl) ?_ ?_
      · skip
        refine op_call (f := 12) (args := #[.pointer (some ⟨ra, 0, none⟩), .string (nm (p).1), .agg (dc (p).2).toArray]) rfl (by rfl) (by go_simp) _ ((H3.out.1.drew.keptN (x1k)).sign p hp (by decide)) ?_
        rintro e y1 ⟨y1e, y1R, y1g⟩
        have y1k : Kept w3.drew y1 (· = a2) := ((x1k).mono (fun _ e => e.elim)).trans (Kept.ofGrown y1g rfl)
        refine ⟨.tuple #[.agg (encA .u8 sp), .int .i64 0], by rw [y1e, ← Hsp.out], y1k, ?_⟩
        simp only [Act.put, List.setIfInBounds_toArray]; try dsimp only [List.set_cons_zero, List.set_cons_succ]
        refine reg_take 7 (v := ?_) rfl (by kernel_rfl) (by kernel_rfl) (by kernel_rfl) (fun _ _ _ h => h) (by first | exact Kept.refl _ _ | exact (Kept.refl _ _).alloc _ | assumption | exact Kept.alloc (by assumption) _) (yield_val (by rfl) ?_) ?_
        rotate_left
        · intro w hSw; go_simp <;> with_reducible rfl
        simp only [Act.put, List.setIfInBounds_toArray]; try dsimp only [List.set_cons_zero, List.set_cons_succ]
        refine reg_take 8 (v := ?_) rfl (by kernel_rfl) (by kernel_rfl) (by kernel_rfl) (fun _ _ _ h => h) (by first | exact Kept.refl _ _ | exact (Kept.refl _ _).alloc _ | assumption | exact Kept.alloc (by assumption) _) (yield_val (by rfl) ?_) ?_
        rotate_left
        · intro w hSw; go_simp <;> with_reducible rfl
        simp only [Act.put, List.setIfInBounds_toArray]; try dsimp only [List.set_cons_zero, List.set_cons_succ]
        refine reg_take 9 (v := ?_) rfl (by kernel_rfl) (by kernel_rfl) (by kernel_rfl) (fun _ _ _ h => h) (by first | exact Kept.refl _ _ | exact (Kept.refl _ _).alloc _ | assumption | exact Kept.alloc (by assumption) _) (yield_val (by rfl) ?_) ?_
        rotate_left
        · intro w hSw; go_simp <;> with_reducible rfl
        simp only [Act.put, List.setIfInBounds_toArray]; try dsimp only [List.set_cons_zero, List.set_cons_succ]
        refine reg_one 10 (by kernel_rfl) (op_val (v := .pointer (some ⟨y1.heap.size, 0, none⟩)) (w' := y1.alloc (.cells zeros32 27)) rfl (by rfl) (by go_simp <;> rfl) ⟨y1k.alloc _, ?_⟩)
        simp only [Act.put, List.setIfInBounds_toArray]; try dsimp only [List.set_cons_zero, List.set_cons_succ]
        refine reg_one 11 (by kernel_rfl) (op_wp rfl (by rfl) (wp_store_row 27 _ _ rfl y1.heap.size (encA .u8 sp) rfl rfl 27 zeros32 (heap_alloc_new _ _) (by rw [Hsps.out]; exact sz_d) (by rw [Hsps.out]; rfl) (encA_one _ _) ⟨(by rw [World.setRow_alloc_new]; exact y1k.alloc _), ?_⟩))
        simp only [Act.put, List.setIfInBounds_toArray]; try dsimp only [List.set_cons_zero, List.set_cons_succ]
        rw [World.setRow_alloc_new y1]
        refine reg_take 12 (v := ?_) rfl (by kernel_rfl) (by kernel_rfl) (by kernel_rfl) (fun _ _ _ h => h) (by first | exact Kept.refl _ _ | exact (Kept.refl _ _).alloc _ | assumption | exact Kept.alloc (by assumption) _) (yield_val (by rfl) ?_) ?_
        rotate_left
        · intro w hSw; go_simp <;> with_reducible rfl
        simp only [Act.put, List.setIfInBounds_toArray]; try dsimp only [List.set_cons_zero, List.set_cons_succ]
        refine reg_done (by kernel_rfl) ?_
        go_wp2_with fail
        go_meet
        case rel => exact ⟨_, rfl, rfl, y1k.size, heap_alloc_new _ _, y1R.below ((Below.refl _ _).alloc (Nat.le_refl _) _), (y1k.alloc _).undrew⟩
      · skip
        have hz : Kept w3.drew (x1.alloc (.cells zeros32 27)) (fun _ => False) := x1k.alloc _
        refine op_val (v := .pointer (some ⟨x1.heap.size, 0, none⟩)) (w' := x1.alloc (.cells zeros32 27)) rfl (by rfl) (by go_simp <;> rfl) ⟨hz.mono (fun _ e => e.elim), ?_⟩
        simp only [Act.put, List.setIfInBounds_toArray]; try dsimp only [List.set_cons_zero, List.set_cons_succ]
        refine reg_one 6 (by kernel_rfl) (op_call (f := 12) (args := #[.pointer (some ⟨ra, 0, none⟩), .string (nm (p).1), .agg (dc (p).2).toArray]) rfl (by rfl) (by go_simp) _ ((H3.out.1.drew.keptN (hz)).sign p hp (by decide)) ?_)
        rintro e y1 ⟨y1e, y1R, y1g⟩
        have y1k : Kept w3.drew y1 (· = a2) := ((hz).mono (fun _ e => e.elim)).trans (Kept.ofGrown y1g rfl)
        refine ⟨.tuple #[.agg (encA .u8 sp), .int .i64 0], by rw [y1e, ← Hsp.out], y1k, ?_⟩
        simp only [Act.put, List.setIfInBounds_toArray]; try dsimp only [List.set_cons_zero, List.set_cons_succ]
        have hrow : y1.heap[x1.heap.size]? = some (.cells zeros32 27 (0, 0)) := by
          rw [y1g.block _ (by simp) (fun e => by injection e with e; have := H3.out.1.ring.signed.lt; have := x1k.size; have e2 : w3.drew.heap.size = w3.heap.size := rfl; omega)]; exact heap_alloc_new _ _
        refine reg_take 7 (v := ?_) rfl (by kernel_rfl) (by kernel_rfl) (by kernel_rfl) (fun _ _ _ h => h) (by first | exact Kept.refl _ _ | exact (Kept.refl _ _).alloc _ | assumption | exact Kept.alloc (by assumption) _) (yield_val (by rfl) ?_) ?_
        rotate_left
        · intro w hSw; go_simp <;> with_reducible rfl
        simp only [Act.put, List.setIfInBounds_toArray]; try dsimp only [List.set_cons_zero, List.set_cons_succ]
        refine reg_take 8 (v := ?_) rfl (by kernel_rfl) (by kernel_rfl) (by kernel_rfl) (fun _ _ _ h => h) (by first | exact Kept.refl _ _ | exact (Kept.refl _ _).alloc _ | assumption | exact Kept.alloc (by assumption) _) (yield_val (by rfl) ?_) ?_
        rotate_left
        · intro w hSw; go_simp <;> with_reducible rfl
        simp only [Act.put, List.setIfInBounds_toArray]; try dsimp only [List.set_cons_zero, List.set_cons_succ]
        refine reg_take 9 (v := ?_) rfl (by kernel_rfl) (by kernel_rfl) (by kernel_rfl) (fun _ _ _ h => h) (by first | exact Kept.refl _ _ | exact (Kept.refl _ _).alloc _ | assumption | exact Kept.alloc (by assumption) _) (yield_val (by rfl) ?_) ?_
        rotate_left
        · intro w hSw; go_simp <;> with_reducible rfl
        simp only [Act.put, List.setIfInBounds_toArray]; try dsimp only [List.set_cons_zero, List.set_cons_succ]
        have hzk : Kept w3.drew (y1.setRow x1.heap.size (encA .u8 sp)) (· = a2) := y1k.setRow (.inr x1k.size)
        refine reg_one 11 (by kernel_rfl) (op_wp rfl (by rfl) (wp_store_row 27 _ _ rfl x1.heap.size (encA .u8 sp) rfl rfl 27 zeros32 hrow (by rw [Hsps.out]; exact sz_d) (by rw [Hsps.out]; rfl) (encA_one _ _) ⟨hzk, ?_⟩))
        simp only [Act.put, List.setIfInBounds_toArray]; try dsimp only [List.set_cons_zero, List.set_cons_succ]
        refine reg_take 12 (v := ?_) rfl (by kernel_rfl) (by kernel_rfl) (by kernel_rfl) (fun _ _ _ h => h) (by first | exact Kept.refl _ _ | exact (Kept.refl _ _).alloc _ | assumption | exact Kept.alloc (by assumption) _) (yield_val (by rfl) ?_) ?_
        rotate_left
        · intro w hSw; go_simp <;> with_reducible rfl
        simp only [Act.put, List.setIfInBounds_toArray]; try dsimp only [List.set_cons_zero, List.set_cons_succ]
        refine reg_done (by kernel_rfl) ?_
        go_wp2_with fail
        go_meet
        case rel => exact ⟨_, rfl, rfl, x1k.size, setRow_heap _ _ _ _ _ _ hrow, H3.out.1.setNew y1R x1k.size _, (y1k.setRow (.inr x1k.size)).undrew⟩
    · skip
      have hz : Kept w3.drew (w3.drew.alloc (.cells zeros32 27)) (fun _ => False) := (Kept.refl _ _).alloc _
      refine op_val (v := .pointer (some ⟨w3.drew.heap.size, 0, none⟩)) (w' := w3.drew.alloc (.cells zeros32 27)) rfl (by rfl) (by go_simp <;> rfl) ⟨hz.mono (fun _ e => e.elim), ?_⟩
      simp only [Act.put, List.setIfInBounds_toArray]; try dsimp only [List.set_cons_zero, List.set_cons_succ]
      refine reg_one 3 (by kernel_rfl) (op_call (f := 10) (args := #[.int .i64 p.1]) rfl (by rfl) (by go_simp) _ (name_any _ _) ?_)
      rintro e x1 ⟨rfl, x1b⟩
      have x1k : Kept w3.drew x1 (fun _ => False) := (hz).trans (Kept.ofBelow x1b _)
      refine ⟨_, rfl, x1k.mono (fun _ e => e.elim), ?_⟩
      simp only [Act.put, List.setIfInBounds_toArray]; try dsimp only [List.set_cons_zero, List.set_cons_succ]
      refine reg_one 6 (by kernel_rfl) (op_call (f := 12) (args := #[.pointer (some ⟨ra, 0, none⟩), .string (nm (p).1), .agg (dc (p).2).toArray]) rfl (by rfl) (by go_simp) _ ((H3.out.1.drew.keptN (x1k)).sign p hp (by decide)) ?_)
      rintro e y1 ⟨y1e, y1R, y1g⟩
      have y1k : Kept w3.drew y1 (· = a2) := ((x1k).mono (fun _ e => e.elim)).trans (Kept.ofGrown y1g rfl)
      refine ⟨.tuple #[.agg (encA .u8 sp), .int .i64 0], by rw [y1e, ← Hsp.out], y1k, ?_⟩
      simp only [Act.put, List.setIfInBounds_toArray]; try dsimp only [List.set_cons_zero, List.set_cons_succ]
      have hrow : y1.heap[w3.drew.heap.size]? = some (.cells zeros32 27 (0, 0)) := by
        rw [y1g.block _ (Nat.lt_of_lt_of_le (by simp) x1b.size) (fun e => by injection e with e; have := H3.out.1.ring.signed.lt; have e2 : w3.drew.heap.size = w3.heap.size := rfl; omega), x1b.block _ (by simp)]; exact heap_alloc_new _ _
      refine reg_take 7 (v := ?_) rfl (by kernel_rfl) (by kernel_rfl) (by kernel_rfl) (fun _ _ _ h => h) (by first | exact Kept.refl _ _ | exact (Kept.refl _ _).alloc _ | assumption | exact Kept.alloc (by assumption) _) (yield_val (by rfl) ?_) ?_
      rotate_left
      · intro w hSw; go_simp <;> with_reducible rfl
      simp only [Act.put, List.setIfInBounds_toArray]; try dsimp only [List.set_cons_zero, List.set_cons_succ]
      refine reg_take 8 (v := ?_) rfl (by kernel_rfl) (by kernel_rfl) (by kernel_rfl) (fun _ _ _ h => h) (by first | exact Kept.refl _ _ | exact (Kept.refl _ _).alloc _ | assumption | exact Kept.alloc (by assumption) _) (yield_val (by rfl) ?_) ?_
      rotate_left
      · intro w hSw; go_simp <;> with_reducible rfl
      simp only [Act.put, List.setIfInBounds_toArray]; try dsimp only [List.set_cons_zero, List.set_cons_succ]
      refine reg_take 9 (v := ?_) rfl (by kernel_rfl) (by kernel_rfl) (by kernel_rfl) (fun _ _ _ h => h) (by first | exact Kept.refl _ _ | exact (Kept.refl _ _).alloc _ | assumption | exact Kept.alloc (by assumption) _) (yield_val (by rfl) ?_) ?_
      rotate_left
      · intro w hSw; go_simp <;> with_reducible rfl
      simp only [Act.put, List.setIfInBounds_toArray]; try dsimp only [List.set_cons_zero, List.set_cons_succ]
      have hzk : Kept w3.drew (y1.setRow w3.drew.heap.size (encA .u8 sp)) (· = a2) := y1k.setRow (.inr (Nat.le_refl _))
      refine reg_one 11 (by kernel_rfl) (op_wp rfl (by rfl) (wp_store_row 27 _ _ rfl w3.drew.heap.size (encA .u8 sp) rfl rfl 27 zeros32 hrow (by rw [Hsps.out]; exact sz_d) (by rw [Hsps.out]; rfl) (encA_one _ _) ⟨hzk, ?_⟩))
      simp only [Act.put, List.setIfInBounds_toArray]; try dsimp only [List.set_cons_zero, List.set_cons_succ]
      refine reg_take 12 (v := ?_) rfl (by kernel_rfl) (by kernel_rfl) (by kernel_rfl) (fun _ _ _ h => h) (by first | exact Kept.refl _ _ | exact (Kept.refl _ _).alloc _ | assumption | exact Kept.alloc (by assumption) _) (yield_val (by rfl) ?_) ?_
      rotate_left
      · intro w hSw; go_simp <;> with_reducible rfl
      simp only [Act.put, List.setIfInBounds_toArray]; try dsimp only [List.set_cons_zero, List.set_cons_succ]
      refine reg_done (by kernel_rfl) ?_
      go_wp2_with fail
      go_meet
      case rel => exact ⟨_, rfl, rfl, Nat.le_refl _, setRow_heap _ _ _ _ _ _ hrow, H3.out.1.setNew y1R (Nat.le_refl _) _, (y1k.setRow (.inr (Nat.le_refl _))).undrew⟩
  case rest =>
    obtain ⟨gs, rfl, rfl, hgs, hrow, hRa, hk⟩ := hcut
    have hRb := H3.out.2.1.other H3.out.1.ring.signed hk HN.out.2.2.2.2.2.2.2.2.2.1 HN.out.2.2.2.2.2.2.2.2.2.2.1
    have hRc := H3.out.2.2.1.other H3.out.1.ring.signed hk HN.out.2.1 HN.out.2.2.1
    have hB4 := below_of_kept H3.out.2.2.2.1 hk HN.out.1.1
    have hP4 : wc.heap[pb]? = some (.cells (pc p).toArray 35 (0, 0)) := (hk.block pb (Array.getElem?_eq_some_iff.1 H3.out.2.2.2.2).1 hpa).trans H3.out.2.2.2.2
    have H4 := Lib.hid (And.intro hRa (And.intro hRb (And.intro hRc (And.intro hB4 (And.intro hP4 hrow)))))
    clear hRa hRb hRc hB4 hP4 hrow hk H3 Hp0 Hpr
    have hp0 : ∀ w', Kept wc.drew w' (fun _ => False) → w'.cell? ⟨pb, 0, none⟩ = some (.int .i64 p.1) := fun w' h => keptCell h (fun e => e) (rowPair H4.out.2.2.2.2.1).1
    have hpr : ∀ w', Kept wc.drew w' (fun _ => False) → w'.rangeAt pb 1 (dc p.2) := fun w' h => rangeAt_kept h (fun e => e) (rowPair H4.out.2.2.2.2.1).2
    have hsr : ∀ w', Kept wc.drew w' (fun _ => False) → w'.rangeAt gs 0 (dc sp) := fun w' h => keptRow h (fun e => e) H4.out.2.2.2.2.2
    have hyb : yesB (sgD rc fc sec []) (klp (nm p.1) p.2) sp = false := yesB_eq _ _ _ _ ⟨fun h => by simp [sgD, Maps.has] at h, fun h => by cases h⟩
    have hyc : yesB (sgD rc fc oth []) (klp (nm p.1) p.2) sp = false := yesB_eq _ _ _ _ ⟨fun h => by simp [sgD, Maps.has] at h, fun h => by cases h⟩
    have Hp0 := Lib.hid hp0
    have Hpr := Lib.hid hpr
    have Hsr := Lib.hid hsr
    have Hyb := Lib.hid hyb
    have Hyc := Lib.hid hyc
    clear hp0 hpr hsr hyb hyc
    go_upto_region 7 with fail
    refine reg_start (fun w' => Kept wc.drew w' (fun _ => False)) (by kernel_rfl) ?_
    simp only [List.length_cons, List.length_nil, Nat.zero_add, Nat.reduceAdd]
    refine reg_take 0 (v := ?_) rfl (by kernel_rfl) (by kernel_rfl) (by kernel_rfl) (fun _ _ _ h => h) (by first | exact Kept.refl _ _ | exact (Kept.refl _ _).alloc _ | assumption | exact Kept.alloc (by assumption) _) (yield_val (by rfl) ?_) ?_
    rotate_left
    · intro w hSw; go_simp <;> with_reducible rfl
    simp only [Act.put, List.setIfInBounds_toArray]; try dsimp only [List.set_cons_zero, List.set_cons_succ]
    refine reg_take 1 (v := ?_) rfl (by kernel_rfl) (by kernel_rfl) (by kernel_rfl) (fun _ _ _ h => h) (by first | exact Kept.refl _ _ | exact (Kept.refl _ _).alloc _ | assumption | exact Kept.alloc (by assumption) _) (yield_val (by rfl) ?_) ?_
    rotate_left
    · intro w hSw; go_simp <;> with_reducible rfl
    simp only [Act.put, List.setIfInBounds_toArray]; try dsimp only [List.set_cons_zero, List.set_cons_succ]
    refine reg_take 2 (v := ?_) rfl (by kernel_rfl) (by kernel_rfl) (by kernel_rfl) (fun _ _ _ h => h) (by first | exact Kept.refl _ _ | exact (Kept.refl _ _).alloc _ | assumption | exact Kept.alloc (by assumption) _) (yield_val (by rfl) ?_) ?_
    rotate_left
    · intro w hSw; go_simp <;> with_reducible rfl
    simp only [Act.put, List.setIfInBounds_toArray]; try dsimp only [List.set_cons_zero, List.set_cons_succ]
    refine reg_take 3 (v := ?_) rfl (by kernel_rfl) (by kernel_rfl) (by kernel_rfl) (fun _ _ _ h => h) (by first | exact Kept.refl _ _ | exact (Kept.refl _ _).alloc _ | assumption | exact Kept.alloc (by assumption) _) (yield_val (by rfl) ?_) ?_
    rotate_left
    · intro w hSw; go_simp <;> with_reducible rfl
    simp only [Act.put, List.setIfInBounds_toArray]; try dsimp only [List.set_cons_zero, List.set_cons_succ]
    refine reg_take 4 (v := ?_) rfl (by kernel_rfl) (by kernel_rfl) (by kernel_rfl) (fun _ _ _ h => h) (by first | exact Kept.refl _ _ | exact (Kept.refl _ _).alloc _ | assumption | exact Kept.alloc (by assumption) _) (yield_val (by rfl) ?_) ?_
    rotate_left
    · intro w hSw; go_simp <;> with_reducible rfl
    simp only [Act.put, List.setIfInBounds_toArray]; try dsimp only [List.set_cons_zero, List.set_cons_succ]
    refine reg_take 5 (v := ?_) rfl (by kernel_rfl) (by kernel_rfl) (by kernel_rfl) (fun _ _ _ h => h) (by first | exact Kept.refl _ _ | exact (Kept.refl _ _).alloc _ | assumption | exact Kept.alloc (by assumption) _) (yield_val (by rfl) ?_) ?_
    rotate_left
    · intro w hSw; have hx0 := Hp0.out w hSw; go_simp <;> with_reducible rfl
    simp only [Act.put, List.setIfInBounds_toArray]; try dsimp only [List.set_cons_zero, List.set_cons_succ]
    refine reg_take 7 (v := ?_) rfl (by kernel_rfl) (by kernel_rfl) (by kernel_rfl) (fun _ _ _ h => h) (by first | exact Kept.refl _ _ | exact (Kept.refl _ _).alloc _ | assumption | exact Kept.alloc (by assumption) _) (yield_val (by rfl) ?_) ?_
    rotate_left
    · intro w hSw; go_simp <;> with_reducible rfl
    simp only [Act.put, List.setIfInBounds_toArray]; try dsimp only [List.set_cons_zero, List.set_cons_succ]
    refine reg_take 8 rfl (by kernel_rfl) (by kernel_rfl) (by kernel_rfl) (fun _ _ _ h => h) (by first | exact Kept.refl _ _ | exact (Kept.refl _ _).alloc _ | assumption | exact Kept.alloc (by assumption) _) (yieldsIf_load_mid (by rfl) 27 _ rfl pb 1 rfl (dc p.2) _ Hpr.out Tryd.underlying27 rfl Hidp.out) ?_
    simp only [Act.put, List.setIfInBounds_toArray]; try dsimp only [List.set_cons_zero, List.set_cons_succ]
    refine reg_take 9 rfl (by kernel_rfl) (by kernel_rfl) (by kernel_rfl) (fun _ _ _ h => h) (by first | exact Kept.refl _ _ | exact (Kept.refl _ _).alloc _ | assumption | exact Kept.alloc (by assumption) _) (yieldsIf_load_mid (by rfl) 27 _ rfl gs 0 rfl (dc sp) _ Hsr.out Tryd.underlying27 rfl Hids.out) ?_
    simp only [Act.put, List.setIfInBounds_toArray]; try dsimp only [List.set_cons_zero, List.set_cons_succ]
    refine reg_one 6 (by kernel_rfl) (op_call (f := 10) (args := #[.int .i64 p.1]) rfl (by rfl) (by go_simp <;> rfl) _ (name_any _ _) ?_)
    rintro e y1 ⟨rfl, hK1b⟩
    have hK1 : Kept wc.drew y1 (fun _ => False) := (Kept.refl _ _).trans (Kept.ofBelow hK1b _)
    refine ⟨_, rfl, hK1, ?_⟩
    simp only [Act.put, List.setIfInBounds_toArray]; try dsimp only [List.set_cons_zero, List.set_cons_succ]
    refine reg_one 10 (by kernel_rfl) (op_call (f := 11) (args := #[.pointer (some ⟨rb, 0, none⟩), .string (nm p.1), .agg (dc p.2).toArray, .agg (dc sp).toArray]) rfl (by rfl) (by go_simp <;> rfl) _ ((H4.out.2.1.drew.keptN hK1).verify p hp sp hspl) ?_)
    rintro e y2 ⟨rfl, hK2b⟩
    have hK2 : Kept wc.drew y2 (fun _ => False) := (hK1).trans (Kept.ofBelow hK2b _)
    refine ⟨_, rfl, hK2, ?_⟩
    simp only [Act.put, List.setIfInBounds_toArray]; try dsimp only [List.set_cons_zero, List.set_cons_succ]
    rw [Hyb.out]
    refine reg_take 11 (v := ?_) rfl (by kernel_rfl) (by kernel_rfl) (by kernel_rfl) (fun _ _ _ h => h) (by first | exact Kept.refl _ _ | exact (Kept.refl _ _).alloc _ | assumption | exact Kept.alloc (by assumption) _) (yield_val (by rfl) ?_) ?_
    rotate_left
    · intro w hSw; go_simp <;> with_reducible rfl
    simp only [Act.put, List.setIfInBounds_toArray]; try dsimp only [List.set_cons_zero, List.set_cons_succ]
    refine reg_take 12 (v := ?_) rfl (by kernel_rfl) (by kernel_rfl) (by kernel_rfl) (fun _ _ _ h => h) (by first | exact Kept.refl _ _ | exact (Kept.refl _ _).alloc _ | assumption | exact Kept.alloc (by assumption) _) (yield_val (by rfl) ?_) ?_
    rotate_left
    · intro w hSw; go_simp <;> with_reducible rfl
    simp only [Act.put, List.setIfInBounds_toArray]; try dsimp only [List.set_cons_zero, List.set_cons_succ]
    refine reg_take 13 (v := ?_) rfl (by kernel_rfl) (by kernel_rfl) (by kernel_rfl) (fun _ _ _ h => h) (by first | exact Kept.refl _ _ | exact (Kept.refl _ _).alloc _ | assumption | exact Kept.alloc (by assumption) _) (yield_val (by rfl) ?_) ?_
    rotate_left
    · intro w hSw; go_simp <;> with_reducible rfl
    simp only [Act.put, List.setIfInBounds_toArray]; try dsimp only [List.set_cons_zero, List.set_cons_succ]
    refine reg_take 14 (v := ?_) rfl (by kernel_rfl) (by kernel_rfl) (by kernel_rfl) (fun _ _ _ h => h) (by first | exact Kept.refl _ _ | exact (Kept.refl _ _).alloc _ | assumption | exact Kept.alloc (by assumption) _) (yield_val (by rfl) ?_) ?_
    rotate_left
    · intro w hSw; go_simp <;> with_reducible rfl
    simp only [Act.put, List.setIfInBounds_toArray]; try dsimp only [List.set_cons_zero, List.set_cons_succ]
    refine reg_take 15 (v := ?_) rfl (by kernel_rfl) (by kernel_rfl) (by kernel_rfl) (fun _ _ _ h => h) (by first | exact Kept.refl _ _ | exact (Kept.refl _ _).alloc _ | assumption | exact Kept.alloc (by assumption) _) (yield_val (by rfl) ?_) ?_
    rotate_left
    · intro w hSw; have hx0 := Hp0.out w hSw; go_simp <;> with_reducible rfl
    simp only [Act.put, List.setIfInBounds_toArray]; try dsimp only [List.set_cons_zero, List.set_cons_succ]
    refine reg_take 17 (v := ?_) rfl (by kernel_rfl) (by kernel_rfl) (by kernel_rfl) (fun _ _ _ h => h) (by first | exact Kept.refl _ _ | exact (Kept.refl _ _).alloc _ | assumption | exact Kept.alloc (by assumption) _) (yield_val (by rfl) ?_) ?_
    rotate_left
    · intro w hSw; go_simp <;> with_reducible rfl
    simp only [Act.put, List.setIfInBounds_toArray]; try dsimp only [List.set_cons_zero, List.set_cons_succ]
    refine reg_take 18 rfl (by kernel_rfl) (by kernel_rfl) (by kernel_rfl) (fun _ _ _ h => h) (by first | exact Kept.refl _ _ | exact (Kept.refl _ _).alloc _ | assumption | exact Kept.alloc (by assumption) _) (yieldsIf_load_mid (by rfl) 27 _ rfl pb 1 rfl (dc p.2) _ Hpr.out Tryd.underlying27 rfl Hidp.out) ?_
    simp only [Act.put, List.setIfInBounds_toArray]; try dsimp only [List.set_cons_zero, List.set_cons_succ]
    refine reg_take 19 rfl (by kernel_rfl) (by kernel_rfl) (by kernel_rfl) (fun _ _ _ h => h) (by first | exact Kept.refl _ _ | exact (Kept.refl _ _).alloc _ | assumption | exact Kept.alloc (by assumption) _) (yieldsIf_load_mid (by rfl) 27 _ rfl gs 0 rfl (dc sp) _ Hsr.out Tryd.underlying27 rfl Hids.out) ?_
    simp only [Act.put, List.setIfInBounds_toArray]; try dsimp only [List.set_cons_zero, List.set_cons_succ]
    refine reg_one 16 (by kernel_rfl) (op_call (f := 10) (args := #[.int .i64 p.1]) rfl (by rfl) (by go_simp <;> rfl) _ (name_any _ _) ?_)
    rintro e y3 ⟨rfl, hK3b⟩
    have hK3 : Kept wc.drew y3 (fun _ => False) := (hK2).trans (Kept.ofBelow hK3b _)
    refine ⟨_, rfl, hK3, ?_⟩
    simp only [Act.put, List.setIfInBounds_toArray]; try dsimp only [List.set_cons_zero, List.set_cons_succ]
    refine reg_one 20 (by kernel_rfl) (op_call (f := 11) (args := #[.pointer (some ⟨rc', 0, none⟩), .string (nm p.1), .agg (dc p.2).toArray, .agg (dc sp).toArray]) rfl (by rfl) (by go_simp <;> rfl) _ ((H4.out.2.2.1.drew.keptN hK3).verify p hp sp hspl) ?_)
    rintro e y4 ⟨rfl, hK4b⟩
    have hK4 : Kept wc.drew y4 (fun _ => False) := (hK3).trans (Kept.ofBelow hK4b _)
    refine ⟨_, rfl, hK4, ?_⟩
    simp only [Act.put, List.setIfInBounds_toArray]; try dsimp only [List.set_cons_zero, List.set_cons_succ]
    rw [Hyc.out]
    refine reg_take 21 (v := ?_) rfl (by kernel_rfl) (by kernel_rfl) (by kernel_rfl) (fun _ _ _ h => h) (by first | exact Kept.refl _ _ | exact (Kept.refl _ _).alloc _ | assumption | exact Kept.alloc (by assumption) _) (yield_val (by rfl) ?_) ?_
    rotate_left
    · intro w hSw; go_simp <;> with_reducible rfl
    simp only [Act.put, List.setIfInBounds_toArray]; try dsimp only [List.set_cons_zero, List.set_cons_succ]
    refine reg_take 22 (v := ?_) rfl (by kernel_rfl) (by kernel_rfl) (by kernel_rfl) (fun _ _ _ h => h) (by first | exact Kept.refl _ _ | exact (Kept.refl _ _).alloc _ | assumption | exact Kept.alloc (by assumption) _) (yield_val (by rfl) ?_) ?_
    rotate_left
    · intro w hSw; go_simp <;> with_reducible rfl
    simp only [Act.put, List.setIfInBounds_toArray]; try dsimp only [List.set_cons_zero, List.set_cons_succ]
    refine reg_take 23 (v := ?_) rfl (by kernel_rfl) (by kernel_rfl) (by kernel_rfl) (fun _ _ _ h => h) (by first | exact Kept.refl _ _ | exact (Kept.refl _ _).alloc _ | assumption | exact Kept.alloc (by assumption) _) (yield_val (by rfl) ?_) ?_
    rotate_left
    · intro w hSw; go_simp <;> with_reducible rfl
    simp only [Act.put, List.setIfInBounds_toArray]; try dsimp only [List.set_cons_zero, List.set_cons_succ]
    refine reg_take 24 (v := ?_) rfl (by kernel_rfl) (by kernel_rfl) (by kernel_rfl) (fun _ _ _ h => h) (by first | exact Kept.refl _ _ | exact (Kept.refl _ _).alloc _ | assumption | exact Kept.alloc (by assumption) _) (yield_val (by rfl) ?_) ?_
    rotate_left
    · intro w hSw; go_simp <;> with_reducible rfl
    simp only [Act.put, List.setIfInBounds_toArray]; try dsimp only [List.set_cons_zero, List.set_cons_succ]
    refine reg_take 25 (v := ?_) rfl (by kernel_rfl) (by kernel_rfl) (by kernel_rfl) (fun _ _ _ h => h) (by first | exact Kept.refl _ _ | exact (Kept.refl _ _).alloc _ | assumption | exact Kept.alloc (by assumption) _) (yield_val (by rfl) ?_) ?_
    rotate_left
    · intro w hSw; have hx0 := Hp0.out w hSw; go_simp <;> with_reducible rfl
    simp only [Act.put, List.setIfInBounds_toArray]; try dsimp only [List.set_cons_zero, List.set_cons_succ]
    refine reg_one 26 (by kernel_rfl) (op_call (f := 10) (args := #[.int .i64 p.1]) rfl (by rfl) (by go_simp <;> rfl) _ (name_any _ _) ?_)
    rintro e y5 ⟨rfl, hK5b⟩
    have hK5 : Kept wc.drew y5 (fun _ => False) := (hK4).trans (Kept.ofBelow hK5b _)
    refine ⟨_, rfl, hK5, ?_⟩
    simp only [Act.put, List.setIfInBounds_toArray]; try dsimp only [List.set_cons_zero, List.set_cons_succ]
    refine reg_one 27 (by kernel_rfl) (op_call (f := 33) (args := #[.pointer (some ⟨rb, 0, none⟩), .string (nm p.1)]) rfl (by rfl) (by go_simp <;> rfl) _ (signed_none rb b1 b2 svb sec rc fc (nm p.1) _ (H4.out.2.1.drew.keptN hK5)) ?_)
    rintro e y6 ⟨A6, c6, rfl, hb6⟩
    have hK6 : Kept wc.drew y6 (fun _ => False) := hK5.trans (Kept.ofBelow hb6 _)
    refine ⟨_, rfl, hK6, ?_⟩
    simp only [Act.put, List.setIfInBounds_toArray, List.set_cons_zero, List.set_cons_succ]
    refine reg_take 28 (v := ?_) rfl (by kernel_rfl) (by kernel_rfl) (by kernel_rfl) (fun _ _ _ h => h) (by first | exact Kept.refl _ _ | exact (Kept.refl _ _).alloc _ | assumption | exact Kept.alloc (by assumption) _) (yield_val (by rfl) ?_) ?_
    rotate_left
    · intro w hSw; go_simp <;> with_reducible rfl
    simp only [Act.put, List.setIfInBounds_toArray]; try dsimp only [List.set_cons_zero, List.set_cons_succ]
    refine reg_take 29 (v := ?_) rfl (by kernel_rfl) (by kernel_rfl) (by kernel_rfl) (fun _ _ _ h => h) (by first | exact Kept.refl _ _ | exact (Kept.refl _ _).alloc _ | assumption | exact Kept.alloc (by assumption) _) (yield_val (by rfl) ?_) ?_
    rotate_left
    · intro w hSw; go_simp <;> with_reducible rfl
    simp only [Act.put, List.setIfInBounds_toArray]; try dsimp only [List.set_cons_zero, List.set_cons_succ]
    refine reg_take 30 (v := ?_) rfl (by kernel_rfl) (by kernel_rfl) (by kernel_rfl) (fun _ _ _ h => h) (by first | exact Kept.refl _ _ | exact (Kept.refl _ _).alloc _ | assumption | exact Kept.alloc (by assumption) _) (yield_val (by rfl) ?_) ?_
    rotate_left
    · intro w hSw; go_simp <;> with_reducible rfl
    simp only [Act.put, List.setIfInBounds_toArray]; try dsimp only [List.set_cons_zero, List.set_cons_succ]
    refine reg_done (by kernel_rfl) ?_
    have hk := hK6.undrew
    have hRa := H4.out.1.keptP hk
    have hRb := H4.out.2.1.keptP hk
    have hRc := H4.out.2.2.1.keptP hk
    have hB5 : Below w.heap.size w y6 := H4.out.2.2.2.1.trans (hk.toBelow.mono H4.out.2.2.2.1.size)
    have hP5 : y6.heap[pb]? = some (.cells (pc p).toArray 35 (0, 0)) := (hk.block pb (Array.getElem?_eq_some_iff.1 H4.out.2.2.2.2.1).1 (fun e => e)).trans H4.out.2.2.2.2.1
    have hS5 : y6.heap[gs]? = some (.cells (encA .u8 sp) 27 (0, 0)) := (hk.block gs (Array.getElem?_eq_some_iff.1 H4.out.2.2.2.2.2).1 (fun e => e)).trans H4.out.2.2.2.2.2
    have H5 := Lib.hid (And.intro hRa (And.intro hRb (And.intro hRc (And.intro hB5 (And.intro hP5 hS5)))))
    clear hRa hRb hRc hB5 hP5 hS5 hk H4 Hp0 Hpr Hsr Hyb Hyc hK1 hK2 hK3 hK4 hK5 hK6 hb6 hK1b hK2b hK3b hK4b hK5b
    have hp0 : ∀ w', Kept y6.drew w' (· = b2) → w'.cell? ⟨pb, 0, none⟩ = some (.int .i64 p.1) := fun w' h => keptCell h hpbb (rowPair H5.out.2.2.2.2.1).1
    have hpr : ∀ w', Kept y6.drew w' (· = b2) → w'.rangeAt pb 1 (dc p.2) := fun w' h => rangeAt_kept h hpbb (rowPair H5.out.2.2.2.2.1).2
    have Hp0 := Lib.hid hp0
    have Hpr := Lib.hid hpr
    clear hp0 hpr
    go_upto_region 9 with fail
    go_cut [12, 13] from 73 to 82 (fun v u wx => ∃ g, v = .pointer (some ⟨g, 0, none⟩) ∧ u = .int .i64 0 ∧ y6.heap.size ≤ g ∧ wx.heap[g]? = some (.cells (encA .u8 sp) 27 (0, 0)) ∧ RG wx rb b1 b2 svb sec rc fc [p] ∧ Kept y6 wx (· = b2))
    case first =>
      refine reg_start (fun w' => Kept y6.drew w' (· = b2)) (by kernel_rfl) ?_
      simp only [List.length_cons, List.length_nil, Nat.zero_add, Nat.reduceAdd]
      refine reg_take 0 (v := ?_) rfl (by kernel_rfl) (by kernel_rfl) (by kernel_rfl) (fun _ _ _ h => h) (by first | exact Kept.refl _ _ | exact (Kept.refl _ _).alloc _ | assumption | exact Kept.alloc (by assumption) _) (yield_val (by rfl) ?_) ?_
      rotate_left
      · intro w hSw; go_simp <;> with_reducible rfl
      simp only [Act.put, List.setIfInBounds_toArray]; try dsimp only [List.set_cons_zero, List.set_cons_succ]
      refine reg_take 1 (v := ?_) rfl (by kernel_rfl) (by kernel_rfl) (by kernel_rfl) (fun _ _ _ h => h) (by first | exact Kept.refl _ _ | exact (Kept.refl _ _).alloc _ | assumption | exact Kept.alloc (by assumption) _) (yield_val (by rfl) ?_) ?_
      rotate_left
      · intro w hSw; go_simp <;> with_reducible rfl
      simp only [Act.put, List.setIfInBounds_toArray]; try dsimp only [List.set_cons_zero, List.set_cons_succ]
      refine reg_take 4 (v := ?_) rfl (by kernel_rfl) (by kernel_rfl) (by kernel_rfl) (fun _ _ _ h => h) (by first | exact Kept.refl _ _ | exact (Kept.refl _ _).alloc _ | assumption | exact Kept.alloc (by assumption) _) (yield_val (by rfl) ?_) ?_
      rotate_left
      · intro w hSw; go_simp <;> with_reducible rfl
      simp only [Act.put, List.setIfInBounds_toArray]; try dsimp only [List.set_cons_zero, List.set_cons_succ]
      refine reg_take 2 (v := ?_) rfl (by kernel_rfl) (by kernel_rfl) (by kernel_rfl) (fun _ _ _ h => h) (by first | exact Kept.refl _ _ | exact (Kept.refl _ _).alloc _ | assumption | exact Kept.alloc (by assumption) _) (yield_val (by rfl) ?_) ?_
      rotate_left
      · intro w hSw; have hx0 := Hp0.out w hSw; go_simp <;> with_reducible rfl
      simp only [Act.put, List.setIfInBounds_toArray]; try dsimp only [List.set_cons_zero, List.set_cons_succ]
      refine reg_take 5 rfl (by kernel_rfl) (by kernel_rfl) (by kernel_rfl) (fun _ _ _ h => h) (by first | exact Kept.refl _ _ | exact (Kept.refl _ _).alloc _ | assumption | exact Kept.alloc (by assumption) _) (yieldsIf_load_mid (by rfl) 27 _ rfl pb 1 rfl (dc p.2) _ Hpr.out Tryd.underlying27 rfl Hidp.out) ?_
      simp only [Act.put, List.setIfInBounds_toArray]; try dsimp only [List.set_cons_zero, List.set_cons_succ]
      refine reg_two 3 10 (by kernel_rfl) ?_ ?_
      · skip
        refine op_call (f := 10) (args := #[.int .i64 p.1]) rfl (by rfl) (by go_simp) _ (name_any _ _) ?_
        rintro e x1 ⟨rfl, x1b⟩
        have x1k : Kept y6.drew x1 (fun _ => False) := (Kept.refl _ _).trans (Kept.ofBelow x1b _)
        refine ⟨_, rfl, x1k.mono (fun _ e => e.elim), ?_⟩
        simp only [Act.put, List.setIfInBounds_toArray]; try dsimp only [List.set_cons_zero, List.set_cons_succ]
        refine reg_two 6 10 (by kernel_rfl) ?_ ?_
        · skip
          refine op_call (f := 12) (args := #[.pointer (some ⟨rb, 0, none⟩), .string (nm (p).1), .agg (dc (p).2).toArray]) rfl (by rfl) (by go_simp) _ ((H5.out.2.1.drew.keptN (x1k)).sign p hp (by decide)) ?_
          rintro e y1 ⟨y1e, y1R, y1g⟩
          have y1k : Kept y6.drew y1 (· = b2) := ((x1k).mono (fun _ e => e.elim)).trans (Kept.ofGrown y1g rfl)
          refine ⟨.tuple #[.agg (encA .u8 sp), .int .i64 0], by rw [y1e, ← Hsp.out], y1k, ?_⟩
          simp only [Act.put, List.setIfInBounds_toArray]; try dsimp only [List.set_cons_zero, List.set_cons_succ]
          refine reg_take 7 (v := ?_) rfl (by kernel_rfl) (by kernel_rfl) (by kernel_rfl) (fun _ _ _ h => h) (by first | exact Kept.refl _ _ | exact (Kept.refl _ _).alloc _ | assumption | exact Kept.alloc (by assumption) _) (yield_val (by rfl) ?_) ?_
          rotate_left
          · intro w hSw; go_simp <;> with_reducible rfl
          simp only [Act.put, List.setIfInBounds_toArray]; try dsimp only [List.set_cons_zero, List.set_cons_succ]
          refine reg_take 8 (v := ?_) rfl (by kernel_rfl) (by kernel_rfl) (by kernel_rfl) (fun _ _ _ h => h) (by first | exact Kept.refl _ _ | exact (Kept.refl _ _).alloc _ | assumption | exact Kept.alloc (by assumption) _) (yield_val (by rfl) ?_) ?_
          rotate_left
          · intro w hSw; go_simp <;> with_reducible rfl
          simp only [Act.put, List.setIfInBounds_toArray]; try dsimp only [List.set_cons_zero, List.set_cons_succ]
          refine reg_take 9 (v := ?_) rfl (by kernel_rfl) (by kernel_rfl) (by kernel_rfl) (fun _ _ _ h => h) (by first | exact Kept.refl _ _ | exact (Kept.refl _ _).alloc _ | assumption | exact Kept.alloc (by assumption) _) (yield_val (by rfl) ?_) ?_
          rotate_left
          · intro w hSw; go_simp <;> with_reducible rfl
          simp only [Act.put, List.setIfInBounds_toArray]; try dsimp only [List.set_cons_zero, List.set_cons_succ]
          refine reg_one 10 (by kernel_rfl) (op_val (v := .pointer (some ⟨y1.heap.size, 0, none⟩)) (w' := y1.alloc (.cells zeros32 27)) rfl (by rfl) (by go_simp <;> rfl) ⟨y1k.alloc _, ?_⟩)
          simp only [Act.put, List.setIfInBounds_toArray]; try dsimp only [List.set_cons_zero, List.set_cons_succ]
          refine reg_one 11 (by kernel_rfl) (op_wp rfl (by rfl) (wp_store_row 27 _ _ rfl y1.heap.size (encA .u8 sp) rfl rfl 27 zeros32 (heap_alloc_new _ _) (by rw [Hsps.out]; exact sz_d) (by rw [Hsps.out]; rfl) (encA_one _ _) ⟨(by rw [World.setRow_alloc_new]; exact y1k.alloc _), ?_⟩))
          simp only [Act.put, List.setIfInBounds_toArray]; try dsimp only [List.set_cons_zero, List.set_cons_succ]
          rw [World.setRow_alloc_new y1]
          refine reg_take 12 (v := ?_) rfl (by kernel_rfl) (by kernel_rfl) (by kernel_rfl) (fun _ _ _ h => h) (by first | exact Kept.refl _ _ | exact (Kept.refl _ _).alloc _ | assumption | exact Kept.alloc (by assumption) _) (yield_val (by rfl) ?_) ?_
          rotate_left
          · intro w hSw; go_simp <;> with_reducible rfl
          simp only [Act.put, List.setIfInBounds_toArray]; try dsimp only [List.set_cons_zero, List.set_cons_succ]
          refine reg_done (by kernel_rfl) ?_
          go_wp2_with fail
          go_meet
          case rel => exact ⟨_, rfl, rfl, y1k.size, heap_alloc_new _ _, y1R.below ((Below.refl _ _).alloc (Nat.le_refl _) _), (y1k.alloc _).undrew⟩
        · skip
          have hz : Kept y6.drew (x1.alloc (.cells zeros32 27)) (fun _ => False) := x1k.alloc _
          refine op_val (v := .pointer (some ⟨x1.heap.size, 0, none⟩)) (w' := x1.alloc (.cells zeros32 27)) rfl (by rfl) (by go_simp <;> rfl) ⟨hz.mono (fun _ e => e.elim), ?_⟩
          simp only [Act.put, List.setIfInBounds_toArray]; try dsimp only [List.set_cons_zero, List.set_cons_succ]
          refine reg_one 6 (by kernel_rfl) (op_call (f := 12) (args := #[.pointer (some ⟨rb, 0, none⟩), .string (nm (p).1), .agg (dc (p).2).toArray]) rfl (by rfl) (by go_simp) _ ((H5.out.2.1.drew.keptN (hz)).sign p hp (by decide)) ?_)
          rintro e y1 ⟨y1e, y1R, y1g⟩
          have y1k : Kept y6.drew y1 (· = b2) := ((hz).mono (fun _ e => e.elim)).trans (Kept.ofGrown y1g rfl)
          refine ⟨.tuple #[.agg (encA .u8 sp), .int .i64 0], by rw [y1e, ← Hsp.out], y1k, ?_⟩
          simp only [Act.put, List.setIfInBounds_toArray]; try dsimp only [List.set_cons_zero, List.set_cons_succ]
          have hrow : y1.heap[x1.heap.size]? = some (.cells zeros32 27 (0, 0)) := by
            rw [y1g.block _ (by simp) (fun e => by injection e with e; have := H5.out.2.1.ring.signed.lt; have := x1k.size; have e2 : y6.drew.heap.size = y6.heap.size := rfl; omega)]; exact heap_alloc_new _ _
          refine reg_take 7 (v := ?_) rfl (by kernel_rfl) (by kernel_rfl) (by kernel_rfl) (fun _ _ _ h => h) (by first | exact Kept.refl _ _ | exact (Kept.refl _ _).alloc _ | assumption | exact Kept.alloc (by assumption) _) (yield_val (by rfl) ?_) ?_
          rotate_left
          · intro w hSw; go_simp <;> with_reducible rfl
          simp only [Act.put, List.setIfInBounds_toArray]; try dsimp only [List.set_cons_zero, List.set_cons_succ]
          refine reg_take 8 (v := ?_) rfl (by kernel_rfl) (by kernel_rfl) (by kernel_rfl) (fun _ _ _ h => h) (by first | exact Kept.refl _ _ | exact (Kept.refl _ _).alloc _ | assumption | exact Kept.alloc (by assumption) _) (yield_val (by rfl) ?_) ?_
          rotate_left
          · intro w hSw; go_simp <;> with_reducible rfl
          simp only [Act.put, List.setIfInBounds_toArray]; try dsimp only [List.set_cons_zero, List.set_cons_succ]
          refine reg_take 9 (v := ?_) rfl (by kernel_rfl) (by kernel_rfl) (by kernel_rfl) (fun _ _ _ h => h) (by first | exact Kept.refl _ _ | exact (Kept.refl _ _).alloc _ | assumption | exact Kept.alloc (by assumption) _) (yield_val (by rfl) ?_) ?_
          rotate_left
          · intro w hSw; go_simp <;> with_reducible rfl
          simp only [Act.put, List.setIfInBounds_toArray]; try dsimp only [List.set_cons_zero, List.set_cons_succ]
          have hzk : Kept y6.drew (y1.setRow x1.heap.size (encA .u8 sp)) (· = b2) := y1k.setRow (.inr x1k.size)
          refine reg_one 11 (by kernel_rfl) (op_wp rfl (by rfl) (wp_store_row 27 _ _ rfl x1.heap.size (encA .u8 sp) rfl rfl 27 zeros32 hrow (by rw [Hsps.out]; exact sz_d) (by rw [Hsps.out]; rfl) (encA_one _ _) ⟨hzk, ?_⟩))
          simp only [Act.put, List.setIfInBounds_toArray]; try dsimp only [List.set_cons_zero, List.set_cons_succ]
          refine reg_take 12 (v := ?_) rfl (by kernel_rfl) (by kernel_rfl) (by kernel_rfl) (fun _ _ _ h => h) (by first | exact Kept.refl _ _ | exact (Kept.refl _ _).alloc _ | assumption | exact Kept.alloc (by assumption) _) (yield_val (by rfl) ?_) ?_
          rotate_left
          · intro w hSw; go_simp <;> with_reducible rfl
          simp only [Act.put, List.setIfInBounds_toArray]; try dsimp only [List.set_cons_zero, List.set_cons_succ]
          refine reg_done (by kernel_rfl) ?_
          go_wp2_with fail
          go_meet
          case rel => exact ⟨_, rfl, rfl, x1k.size, setRow_heap _ _ _ _ _ _ hrow, H5.out.2.1.setNew y1R x1k.size _, (y1k.setRow (.inr x1k.size)).undrew⟩
      · skip
        have hz : Kept y6.drew (y6.drew.alloc (.cells zeros32 27)) (fun _ => False) := (Kept.refl _ _).alloc _
        refine op_val (v := .pointer (some ⟨y6.drew.heap.size, 0, none⟩)) (w' := y6.drew.alloc (.cells zeros32 27)) rfl (by rfl) (by go_simp <;> rfl) ⟨hz.mono (fun _ e => e.elim), ?_⟩
        simp only [Act.put, List.setIfInBounds_toArray]; try dsimp only [List.set_cons_zero, List.set_cons_succ]
        refine reg_one 3 (by kernel_rfl) (op_call (f := 10) (args := #[.int .i64 p.1]) rfl (by rfl) (by go_simp) _ (name_any _ _) ?_)
        rintro e x1 ⟨rfl, x1b⟩
        have x1k : Kept y6.drew x1 (fun _ => False) := (hz).trans (Kept.ofBelow x1b _)
        refine ⟨_, rfl, x1k.mono (fun _ e => e.elim), ?_⟩
        simp only [Act.put, List.setIfInBounds_toArray]; try dsimp only [List.set_cons_zero, List.set_cons_succ]
        refine reg_one 6 (by kernel_rfl) (op_call (f := 12) (args := #[.pointer (some ⟨rb, 0, none⟩), .string (nm (p).1), .agg (dc (p).2).toArray]) rfl (by rfl) (by go_simp) _ ((H5.out.2.1.drew.keptN (x1k)).sign p hp (by decide)) ?_)
        rintro e y1 ⟨y1e, y1R, y1g⟩
        have y1k : Kept y6.drew y1 (· = b2) := ((x1k).mono (fun _ e => e.elim)).trans (Kept.ofGrown y1g rfl)
        refine ⟨.tuple #[.agg (encA .u8 sp), .int .i64 0], by rw [y1e, ← Hsp.out], y1k, ?_⟩
        simp only [Act.put, List.setIfInBounds_toArray]; try dsimp only [List.set_cons_zero, List.set_cons_succ]
        have hrow : y1.heap[y6.drew.heap.size]? = some (.cells zeros32 27 (0, 0)) := by
          rw [y1g.block _ (Nat.lt_of_lt_of_le (by simp) x1b.size) (fun e => by injection e with e; have := H5.out.2.1.ring.signed.lt; have e2 : y6.drew.heap.size = y6.heap.size := rfl; omega), x1b.block _ (by simp)]; exact heap_alloc_new _ _
        refine reg_take 7 (v := ?_) rfl (by kernel_rfl) (by kernel_rfl) (by kernel_rfl) (fun _ _ _ h => h) (by first | exact Kept.refl _ _ | exact (Kept.refl _ _).alloc _ | assumption | exact Kept.alloc (by assumption) _) (yield_val (by rfl) ?_) ?_
        rotate_left
        · intro w hSw; go_simp <;> with_reducible rfl
        simp only [Act.put, List.setIfInBounds_toArray]; try dsimp only [List.set_cons_zero, List.set_cons_succ]
        refine reg_take 8 (v := ?_) rfl (by kernel_rfl) (by kernel_rfl) (by kernel_rfl) (fun _ _ _ h => h) (by first | exact Kept.refl _ _ | exact (Kept.refl _ _).alloc _ | assumption | exact Kept.alloc (by assumption) _) (yield_val (by rfl) ?_) ?_
        rotate_left
        · intro w hSw; go_simp <;> with_reducible rfl
        simp only [Act.put, List.setIfInBounds_toArray]; try dsimp only [List.set_cons_zero, List.set_cons_succ]
        refine reg_take 9 (v := ?_) rfl (by kernel_rfl) (by kernel_rfl) (by kernel_rfl) (fun _ _ _ h => h) (by first | exact Kept.refl _ _ | exact (Kept.refl _ _).alloc _ | assumption | exact Kept.alloc (by assumption) _) (yield_val (by rfl) ?_) ?_
        rotate_left
        · intro w hSw; go_simp <;> with_reducible rfl
        simp only [Act.put, List.setIfInBounds_toArray]; try dsimp only [List.set_cons_zero, List.set_cons_succ]
        have hzk : Kept y6.drew (y1.setRow y6.drew.heap.size (encA .u8 sp)) (· = b2) := y1k.setRow (.inr (Nat.le_refl _))
        refine reg_one 11 (by kernel_rfl) (op_wp rfl (by rfl) (wp_store_row 27 _ _ rfl y6.drew.heap.size (encA .u8 sp) rfl rfl 27 zeros32 hrow (by rw [Hsps.out]; exact sz_d) (by rw [Hsps.out]; rfl) (encA_one _ _) ⟨hzk, ?_⟩))
        simp only [Act.put, List.setIfInBounds_toArray]; try dsimp only [List.set_cons_zero, List.set_cons_succ]
        refine reg_take 12 (v := ?_) rfl (by kernel_rfl) (by kernel_rfl) (by kernel_rfl) (fun _ _ _ h => h) (by first | exact Kept.refl _ _ | exact (Kept.refl _ _).alloc _ | assumption | exact Kept.alloc (by assumption) _) (yield_val (by rfl) ?_) ?_
        rotate_left
        · intro w hSw; go_simp <;> with_reducible rfl
        simp only [Act.put, List.setIfInBounds_toArray]; try dsimp only [List.set_cons_zero, List.set_cons_succ]
        refine reg_done (by kernel_rfl) ?_
        go_wp2_with fail
        go_meet
        case rel => exact ⟨_, rfl, rfl, Nat.le_refl _, setRow_heap _ _ _ _ _ _ hrow, H5.out.2.1.setNew y1R (Nat.le_refl _) _, (y1k.setRow (.inr (Nat.le_refl _))).undrew⟩
    case rest =>
      obtain ⟨gt, rfl, rfl, hgt, hrow, hRb, hk⟩ := hcut
      have hRa := H5.out.1.other H5.out.2.1.ring.signed hk HN.out.2.2.2.2.2.2.2.2.2.2.2 (Ne.symm HN.out.2.2.2.2.2.2.2.2.2.2.1)
      have hRc := H5.out.2.2.1.other H5.out.2.1.ring.signed hk HN.out.2.2.2.1 HN.out.2.2.2.2.1
      have hB6 := below_of_kept H5.out.2.2.2.1 hk HN.out.1.2.1
      have hP6 : wc.heap[pb]? = some (.cells (pc p).toArray 35 (0, 0)) := (hk.block pb (Array.getElem?_eq_some_iff.1 H5.out.2.2.2.2.1).1 hpbb).trans H5.out.2.2.2.2.1
      have hS6 : wc.heap[gs]? = some (.cells (encA .u8 sp) 27 (0, 0)) := (hk.block gs (Array.getElem?_eq_some_iff.1 H5.out.2.2.2.2.2).1 (row_ne_map H5.out.2.1.ring.signed H5.out.2.2.2.2.2)).trans H5.out.2.2.2.2.2
      have H6 := Lib.hid (And.intro hRa (And.intro hRb (And.intro hRc (And.intro hB6 (And.intro hP6 (And.intro hS6 hrow))))))
      clear hRa hRb hRc hB6 hP6 hS6 hrow hk H5 Hp0 Hpr
      have hp0 : ∀ w', Kept wc.drew w' (· = c2) → w'.cell? ⟨pb, 0, none⟩ = some (.int .i64 p.1) := fun w' h => keptCell h hpcc (rowPair H6.out.2.2.2.2.1).1
      have hpr : ∀ w', Kept wc.drew w' (· = c2) → w'.rangeAt pb 1 (dc p.2) := fun w' h => rangeAt_kept h hpcc (rowPair H6.out.2.2.2.2.1).2
      have Hp0 := Lib.hid hp0
      have Hpr := Lib.hid hpr
      clear hp0 hpr
      go_upto_region 10 with fail
      obtain ⟨x6, hx6⟩ : ∃ x6 : World, x6 = wc := ⟨_, rfl⟩
      rw [← hx6]
      rw [← hx6] at H6 Hp0 Hpr
      clear hx6
      go_cut [14, 15] from 83 to 92 (fun v u wx => ∃ g, v = .pointer (some ⟨g, 0, none⟩) ∧ u = .int .i64 0 ∧ x6.heap.size ≤ g ∧ wx.heap[g]? = some (.cells (encA .u8 up) 27 (0, 0)) ∧ RG wx rc' c1 c2 svc oth rc fc [p] ∧ Kept x6 wx (· = c2))
      case first =>
        refine reg_start (fun w' => Kept x6.drew w' (· = c2)) (by kernel_rfl) ?_
        simp only [List.length_cons, List.length_nil, Nat.zero_add, Nat.reduceAdd]
        refine reg_take 0 (v := ?_) rfl (by kernel_rfl) (by kernel_rfl) (by kernel_rfl) (fun _ _ _ h => h) (by first | exact Kept.refl _ _ | exact (Kept.refl _ _).alloc _ | assumption | exact Kept.alloc (by assumption) _) (yield_val (by rfl) ?_) ?_
        rotate_left
        · intro w hSw; go_simp <;> with_reducible rfl
        simp only [Act.put, List.setIfInBounds_toArray]; try dsimp only [List.set_cons_zero, List.set_cons_succ]
        refine reg_take 1 (v := ?_) rfl (by kernel_rfl) (by kernel_rfl) (by kernel_rfl) (fun _ _ _ h => h) (by first | exact Kept.refl _ _ | exact (Kept.refl _ _).alloc _ | assumption | exact Kept.alloc (by assumption) _) (yield_val (by rfl) ?_) ?_
        rotate_left
        · intro w hSw; go_simp <;> with_reducible rfl
        simp only [Act.put, List.setIfInBounds_toArray]; try dsimp only [List.set_cons_zero, List.set_cons_succ]
        refine reg_take 4 (v := ?_) rfl (by kernel_rfl) (by kernel_rfl) (by kernel_rfl) (fun _ _ _ h => h) (by first | exact Kept.refl _ _ | exact (Kept.refl _ _).alloc _ | assumption | exact Kept.alloc (by assumption) _) (yield_val (by rfl) ?_) ?_
        rotate_left
        · intro w hSw; go_simp <;> with_reducible rfl
        simp only [Act.put, List.setIfInBounds_toArray]; try dsimp only [List.set_cons_zero, List.set_cons_succ]
        refine reg_take 2 (v := ?_) rfl (by kernel_rfl) (by kernel_rfl) (by kernel_rfl) (fun _ _ _ h => h) (by first | exact Kept.refl _ _ | exact (Kept.refl _ _).alloc _ | assumption | exact Kept.alloc (by assumption) _) (yield_val (by rfl) ?_) ?_
        rotate_left
        · intro w hSw; have hx0 := Hp0.out w hSw; go_simp <;> with_reducible rfl
        simp only [Act.put, List.setIfInBounds_toArray]; try dsimp only [List.set_cons_zero, List.set_cons_succ]
        refine reg_take 5 rfl (by kernel_rfl) (by kernel_rfl) (by kernel_rfl) (fun _ _ _ h => h) (by first | exact Kept.refl _ _ | exact (Kept.refl _ _).alloc _ | assumption | exact Kept.alloc (by assumption) _) (yieldsIf_load_mid (by rfl) 27 _ rfl pb 1 rfl (dc p.2) _ Hpr.out Tryd.underlying27 rfl Hidp.out) ?_
        simp only [Act.put, List.setIfInBounds_toArray]; try dsimp only [List.set_cons_zero, List.set_cons_succ]
        refine reg_two 3 10 (by kernel_rfl) ?_ ?_
        · skip
          refine op_call (f := 10) (args := #[.int .i64 p.1]) rfl (by rfl) (by go_simp) _ (name_any _ _) ?_
          rintro e x1 ⟨rfl, x1b⟩
          have x1k : Kept x6.drew x1 (fun _ => False) := (Kept.refl _ _).trans (Kept.ofBelow x1b _)
          refine ⟨_, rfl, x1k.mono (fun _ e => e.elim), ?_⟩
          simp only [Act.put, List.setIfInBounds_toArray]; try dsimp only [List.set_cons_zero, List.set_cons_succ]
          refine reg_two 6 10 (by kernel_rfl) ?_ ?_
          · skip
            refine op_call (f := 12) (args := #[.pointer (some ⟨rc', 0, none⟩), .string (nm (p).1), .agg (dc (p).2).toArray]) rfl (by rfl) (by go_simp) _ ((H6.out.2.2.1.drew.keptN (x1k)).sign p hp (by decide)) ?_
            rintro e y1 ⟨y1e, y1R, y1g⟩
            have y1k : Kept x6.drew y1 (· = c2) := ((x1k).mono (fun _ e => e.elim)).trans (Kept.ofGrown y1g rfl)
            refine ⟨.tuple #[.agg (encA .u8 up), .int .i64 0], by rw [y1e, ← Hup.out], y1k, ?_⟩
            simp only [Act.put, List.setIfInBounds_toArray]; try dsimp only [List.set_cons_zero, List.set_cons_succ]
            refine reg_take 7 (v := ?_) rfl (by kernel_rfl) (by kernel_rfl) (by kernel_rfl) (fun _ _ _ h => h) (by first | exact Kept.refl _ _ | exact (Kept.refl _ _).alloc _ | assumption | exact Kept.alloc (by assumption) _) (yield_val (by rfl) ?_) ?_
            rotate_left
            · intro w hSw; go_simp <;> with_reducible rfl
            simp only [Act.put, List.setIfInBounds_toArray]; try dsimp only [List.set_cons_zero, List.set_cons_succ]
            refine reg_take 8 (v := ?_) rfl (by kernel_rfl) (by kernel_rfl) (by kernel_rfl) (fun _ _ _ h => h) (by first | exact Kept.refl _ _ | exact (Kept.refl _ _).alloc _ | assumption | exact Kept.alloc (by assumption) _) (yield_val (by rfl) ?_) ?_
            rotate_left
            · intro w hSw; go_simp <;> with_reducible rfl
            simp only [Act.put, List.setIfInBounds_toArray]; try dsimp only [List.set_cons_zero, List.set_cons_succ]
            refine reg_take 9 (v := ?_) rfl (by kernel_rfl) (by kernel_rfl) (by kernel_rfl) (fun _ _ _ h => h) (by first | exact Kept.refl _ _ | exact (Kept.refl _ _).alloc _ | assumption | exact Kept.alloc (by assumption) _) (yield_val (by rfl) ?_) ?_
            rotate_left
            · intro w hSw; go_simp <;> with_reducible rfl
            simp only [Act.put, List.setIfInBounds_toArray]; try dsimp only [List.set_cons_zero, List.set_cons_succ]
            refine reg_one 10 (by kernel_rfl) (op_val (v := .pointer (some ⟨y1.heap.size, 0, none⟩)) (w' := y1.alloc (.cells zeros32 27)) rfl (by rfl) (by go_simp <;> rfl) ⟨y1k.alloc _, ?_⟩)
            simp only [Act.put, List.setIfInBounds_toArray]; try dsimp only [List.set_cons_zero, List.set_cons_succ]
            refine reg_one 11 (by kernel_rfl) (op_wp rfl (by rfl) (wp_store_row 27 _ _ rfl y1.heap.size (encA .u8 up) rfl rfl 27 zeros32 (heap_alloc_new _ _) (by rw [Hups.out]; exact sz_d) (by rw [Hups.out]; rfl) (encA_one _ _) ⟨(by rw [World.setRow_alloc_new]; exact y1k.alloc _), ?_⟩))
            simp only [Act.put, List.setIfInBounds_toArray]; try dsimp only [List.set_cons_zero, List.set_cons_succ]
            rw [World.setRow_alloc_new y1]
            refine reg_take 12 (v := ?_) rfl (by kernel_rfl) (by kernel_rfl) (by kernel_rfl) (fun _ _ _ h => h) (by first | exact Kept.refl _ _ | exact (Kept.refl _ _).alloc _ | assumption | exact Kept.alloc (by assumption) _) (yield_val (by rfl) ?_) ?_
            rotate_left
            · intro w hSw; go_simp <;> with_reducible rfl
            simp only [Act.put, List.setIfInBounds_toArray]; try dsimp only [List.set_cons_zero, List.set_cons_succ]
            refine reg_done (by kernel_rfl) ?_
            go_wp2_with fail
            go_meet
            case rel => exact ⟨_, rfl, rfl, y1k.size, heap_alloc_new _ _, y1R.below ((Below.refl _ _).alloc (Nat.le_refl _) _), (y1k.alloc _).undrew⟩
          · skip
            have hz : Kept x6.drew (x1.alloc (.cells zeros32 27)) (fun _ => False) := x1k.alloc _
            refine op_val (v := .pointer (some ⟨x1.heap.size, 0, none⟩)) (w' := x1.alloc (.cells zeros32 27)) rfl (by rfl) (by go_simp <;> rfl) ⟨hz.mono (fun _ e => e.elim), ?_⟩
            simp only [Act.put, List.setIfInBounds_toArray]; try dsimp only [List.set_cons_zero, List.set_cons_succ]
            refine reg_one 6 (by kernel_rfl) (op_call (f := 12) (args := #[.pointer (some ⟨rc', 0, none⟩), .string (nm (p).1), .agg (dc (p).2).toArray]) rfl (by rfl) (by go_simp) _ ((H6.out.2.2.1.drew.keptN (hz)).sign p hp (by decide)) ?_)
            rintro e y1 ⟨y1e, y1R, y1g⟩
            have y1k : Kept x6.drew y1 (· = c2) := ((hz).mono (fun _ e => e.elim)).trans (Kept.ofGrown y1g rfl)
            refine ⟨.tuple #[.agg (encA .u8 up), .int .i64 0], by rw [y1e, ← Hup.out], y1k, ?_⟩
            simp only [Act.put, List.setIfInBounds_toArray]; try dsimp only [List.set_cons_zero, List.set_cons_succ]
            have hrow : y1.heap[x1.heap.size]? = some (.cells zeros32 27 (0, 0)) := by
              rw [y1g.block _ (by simp) (fun e => by injection e with e; have := H6.out.2.2.1.ring.signed.lt; have := x1k.size; have e2 : x6.drew.heap.size = x6.heap.size := rfl; omega)]; exact heap_alloc_new _ _
            refine reg_take 7 (v := ?_) rfl (by kernel_rfl) (by kernel_rfl) (by kernel_rfl) (fun _ _ _ h => h) (by first | exact Kept.refl _ _ | exact (Kept.refl _ _).alloc _ | assumption | exact Kept.alloc (by assumption) _) (yield_val (by rfl) ?_) ?_
            rotate_left
            · intro w hSw; go_simp <;> with_reducible rfl
            simp only [Act.put, List.setIfInBounds_toArray]; try dsimp only [List.set_cons_zero, List.set_cons_succ]
            refine reg_take 8 (v := ?_) rfl (by kernel_rfl) (by kernel_rfl) (by kernel_rfl) (fun _ _ _ h => h) (by first | exact Kept.refl _ _ | exact (Kept.refl _ _).alloc _ | assumption | exact Kept.alloc (by assumption) _) (yield_val (by rfl) ?_) ?_
            rotate_left
            · intro w hSw; go_simp <;> with_reducible rfl
            simp only [Act.put, List.setIfInBounds_toArray]; try dsimp only [List.set_cons_zero, List.set_cons_succ]
            refine reg_take 9 (v := ?_) rfl (by kernel_rfl) (by kernel_rfl) (by kernel_rfl) (fun _ _ _ h => h) (by first | exact Kept.refl _ _ | exact (Kept.refl _ _).alloc _ | assumption | exact Kept.alloc (by assumption) _) (yield_val (by rfl) ?_) ?_
            rotate_left
            · intro w hSw; go_simp <;> with_reducible rfl
            simp only [Act.put, List.setIfInBounds_toArray]; try dsimp only [List.set_cons_zero, List.set_cons_succ]
            have hzk : Kept x6.drew (y1.setRow x1.heap.size (encA .u8 up)) (· = c2) := y1k.setRow (.inr x1k.size)
            refine reg_one 11 (by kernel_rfl) (op_wp rfl (by rfl) (wp_store_row 27 _ _ rfl x1.heap.size (encA .u8 up) rfl rfl 27 zeros32 hrow (by rw [Hups.out]; exact sz_d) (by rw [Hups.out]; rfl) (encA_one _ _) ⟨hzk, ?_⟩))
            simp only [Act.put, List.setIfInBounds_toArray]; try dsimp only [List.set_cons_zero, List.set_cons_succ]
            refine reg_take 12 (v := ?_) rfl (by kernel_rfl) (by kernel_rfl) (by kernel_rfl) (fun _ _ _ h => h) (by first | exact Kept.refl _ _ | exact (Kept.refl _ _).alloc _ | assumption | exact Kept.alloc (by assumption) _) (yield_val (by rfl) ?_) ?_
            rotate_left
            · intro w hSw; go_simp <;> with_reducible rfl
            simp only [Act.put, List.setIfInBounds_toArray]; try dsimp only [List.set_cons_zero, List.set_cons_succ]
            refine reg_done (by kernel_rfl) ?_
            go_wp2_with fail
            go_meet
            case rel => exact ⟨_, rfl, rfl, x1k.size, setRow_heap _ _ _ _ _ _ hrow, H6.out.2.2.1.setNew y1R x1k.size _, (y1k.setRow (.inr x1k.size)).undrew⟩
        · skip
          have hz : Kept x6.drew (x6.drew.alloc (.cells zeros32 27)) (fun _ => False) := (Kept.refl _ _).alloc _
          refine op_val (v := .pointer (some ⟨x6.drew.heap.size, 0, none⟩)) (w' := x6.drew.alloc (.cells zeros32 27)) rfl (by rfl) (by go_simp <;> rfl) ⟨hz.mono (fun _ e => e.elim), ?_⟩
          simp only [Act.put, List.setIfInBounds_toArray]; try dsimp only [List.set_cons_zero, List.set_cons_succ]
          refine reg_one 3 (by kernel_rfl) (op_call (f := 10) (args := #[.int .i64 p.1]) rfl (by rfl) (by go_simp) _ (name_any _ _) ?_)
          rintro e x1 ⟨rfl, x1b⟩
          have x1k : Kept x6.drew x1 (fun _ => False) := (hz).trans (Kept.ofBelow x1b _)
          refine ⟨_, rfl, x1k.mono (fun _ e => e.elim), ?_⟩
          simp only [Act.put, List.setIfInBounds_toArray]; try dsimp only [List.set_cons_zero, List.set_cons_succ]
          refine reg_one 6 (by kernel_rfl) (op_call (f := 12) (args := #[.pointer (some ⟨rc', 0, none⟩), .string (nm (p).1), .agg (dc (p).2).toArray]) rfl (by rfl) (by go_simp) _ ((H6.out.2.2.1.drew.keptN (x1k)).sign p hp (by decide)) ?_)
          rintro e y1 ⟨y1e, y1R, y1g⟩
          have y1k : Kept x6.drew y1 (· = c2) := ((x1k).mono (fun _ e => e.elim)).trans (Kept.ofGrown y1g rfl)
          refine ⟨.tuple #[.agg (encA .u8 up), .int .i64 0], by rw [y1e, ← Hup.out], y1k, ?_⟩
          simp only [Act.put, List.setIfInBounds_toArray]; try dsimp only [List.set_cons_zero, List.set_cons_succ]
          have hrow : y1.heap[x6.drew.heap.size]? = some (.cells zeros32 27 (0, 0)) := by
            rw [y1g.block _ (Nat.lt_of_lt_of_le (by simp) x1b.size) (fun e => by injection e with e; have := H6.out.2.2.1.ring.signed.lt; have e2 : x6.drew.heap.size = x6.heap.size := rfl; omega), x1b.block _ (by simp)]; exact heap_alloc_new _ _
          refine reg_take 7 (v := ?_) rfl (by kernel_rfl) (by kernel_rfl) (by kernel_rfl) (fun _ _ _ h => h) (by first | exact Kept.refl _ _ | exact (Kept.refl _ _).alloc _ | assumption | exact Kept.alloc (by assumption) _) (yield_val (by rfl) ?_) ?_
          rotate_left
          · intro w hSw; go_simp <;> with_reducible rfl
          simp only [Act.put, List.setIfInBounds_toArray]; try dsimp only [List.set_cons_zero, List.set_cons_succ]
          refine reg_take 8 (v := ?_) rfl (by kernel_rfl) (by kernel_rfl) (by kernel_rfl) (fun _ _ _ h => h) (by first | exact Kept.refl _ _ | exact (Kept.refl _ _).alloc _ | assumption | exact Kept.alloc (by assumption) _) (yield_val (by rfl) ?_) ?_
          rotate_left
          · intro w hSw; go_simp <;> with_reducible rfl
          simp only [Act.put, List.setIfInBounds_toArray]; try dsimp only [List.set_cons_zero, List.set_cons_succ]
          refine reg_take 9 (v := ?_) rfl (by kernel_rfl) (by kernel_rfl) (by kernel_rfl) (fun _ _ _ h => h) (by first | exact Kept.refl _ _ | exact (Kept.refl _ _).alloc _ | assumption | exact Kept.alloc (by assumption) _) (yield_val (by rfl) ?_) ?_
          rotate_left
          · intro w hSw; go_simp <;> with_reducible rfl
          simp only [Act.put, List.setIfInBounds_toArray]; try dsimp only [List.set_cons_zero, List.set_cons_succ]
          have hzk : Kept x6.drew (y1.setRow x6.drew.heap.size (encA .u8 up)) (· = c2) := y1k.setRow (.inr (Nat.le_refl _))
          refine reg_one 11 (by kernel_rfl) (op_wp rfl (by rfl) (wp_store_row 27 _ _ rfl x6.drew.heap.size (encA .u8 up) rfl rfl 27 zeros32 hrow (by rw [Hups.out]; exact sz_d) (by rw [Hups.out]; rfl) (encA_one _ _) ⟨hzk, ?_⟩))
          simp only [Act.put, List.setIfInBounds_toArray]; try dsimp only [List.set_cons_zero, List.set_cons_succ]
          refine reg_take 12 (v := ?_) rfl (by kernel_rfl) (by kernel_rfl) (by kernel_rfl) (fun _ _ _ h => h) (by first | exact Kept.refl _ _ | exact (Kept.refl _ _).alloc _ | assumption | exact Kept.alloc (by assumption) _) (yield_val (by rfl) ?_) ?_
          rotate_left
          · intro w hSw; go_simp <;> with_reducible rfl
          simp only [Act.put, List.setIfInBounds_toArray]; try dsimp only [List.set_cons_zero, List.set_cons_succ]
          refine reg_done (by kernel_rfl) ?_
          go_wp2_with fail
          go_meet
          case rel => exact ⟨_, rfl, rfl, Nat.le_refl _, setRow_heap _ _ _ _ _ _ hrow, H6.out.2.2.1.setNew y1R (Nat.le_refl _) _, (y1k.setRow (.inr (Nat.le_refl _))).undrew⟩
      case rest =>
        obtain ⟨gu, rfl, rfl, hgu, hrow, hRc, hk⟩ := hcut
        have hRa := H6.out.1.other H6.out.2.2.1.ring.signed hk HN.out.2.2.2.2.2.1 HN.out.2.2.2.2.2.2.1
        have hRb := H6.out.2.1.other H6.out.2.2.1.ring.signed hk HN.out.2.2.2.2.2.2.2.1 HN.out.2.2.2.2.2.2.2.2.1
        have hB7 := below_of_kept H6.out.2.2.2.1 hk HN.out.1.2.2
        have hP7 : wc.heap[pb]? = some (.cells (pc p).toArray 35 (0, 0)) := (hk.block pb (Array.getElem?_eq_some_iff.1 H6.out.2.2.2.2.1).1 hpcc).trans H6.out.2.2.2.2.1
        have hS7 : wc.heap[gs]? = some (.cells (encA .u8 sp) 27 (0, 0)) := (hk.block gs (Array.getElem?_eq_some_iff.1 H6.out.2.2.2.2.2.1).1 (row_ne_map H6.out.2.2.1.ring.signed H6.out.2.2.2.2.2.1)).trans H6.out.2.2.2.2.2.1
        have hT7 : wc.heap[gt]? = some (.cells (encA .u8 sp) 27 (0, 0)) := (hk.block gt (Array.getElem?_eq_some_iff.1 H6.out.2.2.2.2.2.2).1 (row_ne_map H6.out.2.2.1.ring.signed H6.out.2.2.2.2.2.2)).trans H6.out.2.2.2.2.2.2
        have H7 := Lib.hid (And.intro hRa (And.intro hRb (And.intro hRc (And.intro hB7 (And.intro hP7 (And.intro hS7 (And.intro hT7 hrow)))))))
        clear hRa hRb hRc hB7 hP7 hS7 hT7 hrow hk H6 Hp0 Hpr
        have hp0 : ∀ w', Kept wc.drew w' (fun _ => False) → w'.cell? ⟨pb, 0, none⟩ = some (.int .i64 p.1) := fun w' h => keptCell h (fun e => e) (rowPair H7.out.2.2.2.2.1).1
        have hpr : ∀ w', Kept wc.drew w' (fun _ => False) → w'.rangeAt pb 1 (dc p.2) := fun w' h => rangeAt_kept h (fun e => e) (rowPair H7.out.2.2.2.2.1).2
        have hsr : ∀ w', Kept wc.drew w' (fun _ => False) → w'.rangeAt gs 0 (dc sp) := fun w' h => keptRow h (fun e => e) H7.out.2.2.2.2.2.1
        have htr : ∀ w', Kept wc.drew w' (fun _ => False) → w'.rangeAt gt 0 (dc sp) := fun w' h => keptRow h (fun e => e) H7.out.2.2.2.2.2.2.1
        have heq1 : ∀ W : World, (Op.equalIn 10000 27 (.agg (dc sp).toArray) (.agg (dc sp).toArray)).run Tryd.prog W = .ok true W := fun W => by
          rw [show (dc sp).toArray = encA .u8 sp from rfl, eq_D W _ _ hspl hspl, decide_eq_true rfl]
        have hyb : yesB (sgD rc fc sec [p]) (klp (nm p.1) p.2) sp = true := (yes_iff rc fc sec [p] H7.out.1.ok p hp sp).2 ⟨⟨p, by simp, rfl, rfl⟩, Hsp.out.symm⟩
        have Hp0 := Lib.hid hp0
        have Hpr := Lib.hid hpr
        have Hsr := Lib.hid hsr
        have Htr := Lib.hid htr
        have Hyb := Lib.hid hyb
        clear hp0 hpr hsr htr hyb
        go_upto_region 11 with fail
        refine reg_start (fun w' => Kept wc.drew w' (fun _ => False)) (by kernel_rfl) ?_
        simp only [List.length_cons, List.length_nil, Nat.zero_add, Nat.reduceAdd]
        refine reg_take 0 (v := ?_) rfl (by kernel_rfl) (by kernel_rfl) (by kernel_rfl) (fun _ _ _ h => h) (by first | exact Kept.refl _ _ | exact (Kept.refl _ _).alloc _ | assumption | exact Kept.alloc (by assumption) _) (yield_val (by rfl) ?_) ?_
        rotate_left
        · intro w hSw; go_simp <;> with_reducible rfl
        simp only [Act.put, List.setIfInBounds_toArray]; try dsimp only [List.set_cons_zero, List.set_cons_succ]
        refine reg_take 1 (v := ?_) rfl (by kernel_rfl) (by kernel_rfl) (by kernel_rfl) (fun _ _ _ h => h) (by first | exact Kept.refl _ _ | exact (Kept.refl _ _).alloc _ | assumption | exact Kept.alloc (by assumption) _) (yield_val (by rfl) ?_) ?_
        rotate_left
        · intro w hSw; go_simp <;> with_reducible rfl
        simp only [Act.put, List.setIfInBounds_toArray]; try dsimp only [List.set_cons_zero, List.set_cons_succ]
        refine reg_take 2 (v := ?_) rfl (by kernel_rfl) (by kernel_rfl) (by kernel_rfl) (fun _ _ _ h => h) (by first | exact Kept.refl _ _ | exact (Kept.refl _ _).alloc _ | assumption | exact Kept.alloc (by assumption) _) (yield_val (by rfl) ?_) ?_
        rotate_left
        · intro w hSw; go_simp <;> with_reducible rfl
        simp only [Act.put, List.setIfInBounds_toArray]; try dsimp only [List.set_cons_zero, List.set_cons_succ]
        refine reg_take 3 (v := ?_) rfl (by kernel_rfl) (by kernel_rfl) (by kernel_rfl) (fun _ _ _ h => h) (by first | exact Kept.refl _ _ | exact (Kept.refl _ _).alloc _ | assumption | exact Kept.alloc (by assumption) _) (yield_val (by rfl) ?_) ?_
        rotate_left
        · intro w hSw; go_simp <;> with_reducible rfl
        simp only [Act.put, List.setIfInBounds_toArray]; try dsimp only [List.set_cons_zero, List.set_cons_succ]
        refine reg_take 4 (v := ?_) rfl (by kernel_rfl) (by kernel_rfl) (by kernel_rfl) (fun _ _ _ h => h) (by first | exact Kept.refl _ _ | exact (Kept.refl _ _).alloc _ | assumption | exact Kept.alloc (by assumption) _) (yield_val (by rfl) ?_) ?_
        rotate_left
        · intro w hSw; go_simp <;> with_reducible rfl
        simp only [Act.put, List.setIfInBounds_toArray]; try dsimp only [List.set_cons_zero, List.set_cons_succ]
        refine reg_take 5 (v := ?_) rfl (by kernel_rfl) (by kernel_rfl) (by kernel_rfl) (fun _ _ _ h => h) (by first | exact Kept.refl _ _ | exact (Kept.refl _ _).alloc _ | assumption | exact Kept.alloc (by assumption) _) (yield_val (by rfl) ?_) ?_
        rotate_left
        · intro w hSw; go_simp <;> with_reducible rfl
        simp only [Act.put, List.setIfInBounds_toArray]; try dsimp only [List.set_cons_zero, List.set_cons_succ]
        refine reg_take 6 (v := ?_) rfl (by kernel_rfl) (by kernel_rfl) (by kernel_rfl) (fun _ _ _ h => h) (by first | exact Kept.refl _ _ | exact (Kept.refl _ _).alloc _ | assumption | exact Kept.alloc (by assumption) _) (yield_val (by rfl) ?_) ?_
        rotate_left
        · intro w hSw; go_simp <;> with_reducible rfl
        simp only [Act.put, List.setIfInBounds_toArray]; try dsimp only [List.set_cons_zero, List.set_cons_succ]
        refine reg_take 7 rfl (by kernel_rfl) (by kernel_rfl) (by kernel_rfl) (fun _ _ _ h => h) (by first | exact Kept.refl _ _ | exact (Kept.refl _ _).alloc _ | assumption | exact Kept.alloc (by assumption) _) (yieldsIf_load_mid (by rfl) 27 _ rfl gs 0 rfl (dc sp) _ Hsr.out Tryd.underlying27 rfl Hids.out) ?_
        simp only [Act.put, List.setIfInBounds_toArray]; try dsimp only [List.set_cons_zero, List.set_cons_succ]
        refine reg_take 8 rfl (by kernel_rfl) (by kernel_rfl) (by kernel_rfl) (fun _ _ _ h => h) (by first | exact Kept.refl _ _ | exact (Kept.refl _ _).alloc _ | assumption | exact Kept.alloc (by assumption) _) (yieldsIf_load_mid (by rfl) 27 _ rfl gt 0 rfl (dc sp) _ Htr.out Tryd.underlying27 rfl Hids.out) ?_
        simp only [Act.put, List.setIfInBounds_toArray]; try dsimp only [List.set_cons_zero, List.set_cons_succ]
        refine reg_take 9 (v := ?_) rfl (by kernel_rfl) (by kernel_rfl) (by kernel_rfl) (fun _ _ _ h => h) (by first | exact Kept.refl _ _ | exact (Kept.refl _ _).alloc _ | assumption | exact Kept.alloc (by assumption) _) (yield_val (by rfl) ?_) ?_
        rotate_left
        · intro w hSw; go_simp <;> with_reducible rfl
        simp only [Act.put, List.setIfInBounds_toArray]; try dsimp only [List.set_cons_zero, List.set_cons_succ]
        refine reg_take 10 (v := ?_) rfl (by kernel_rfl) (by kernel_rfl) (by kernel_rfl) (fun _ _ _ h => h) (by first | exact Kept.refl _ _ | exact (Kept.refl _ _).alloc _ | assumption | exact Kept.alloc (by assumption) _) (yield_val (by rfl) ?_) ?_
        rotate_left
        · intro w hSw; go_simp <;> with_reducible rfl
        simp only [Act.put, List.setIfInBounds_toArray]; try dsimp only [List.set_cons_zero, List.set_cons_succ]
        refine reg_take 11 (v := ?_) rfl (by kernel_rfl) (by kernel_rfl) (by kernel_rfl) (fun _ _ _ h => h) (by first | exact Kept.refl _ _ | exact (Kept.refl _ _).alloc _ | assumption | exact Kept.alloc (by assumption) _) (yield_val (by rfl) ?_) ?_
        rotate_left
        · intro w hSw; go_simp <;> with_reducible rfl
        simp only [Act.put, List.setIfInBounds_toArray]; try dsimp only [List.set_cons_zero, List.set_cons_succ]
        refine reg_take 12 (v := ?_) rfl (by kernel_rfl) (by kernel_rfl) (by kernel_rfl) (fun _ _ _ h => h) (by first | exact Kept.refl _ _ | exact (Kept.refl _ _).alloc _ | assumption | exact Kept.alloc (by assumption) _) (yield_val (by rfl) ?_) ?_
        rotate_left
        · intro w hSw; go_simp <;> with_reducible rfl
        simp only [Act.put, List.setIfInBounds_toArray]; try dsimp only [List.set_cons_zero, List.set_cons_succ]
        refine reg_take 13 (v := ?_) rfl (by kernel_rfl) (by kernel_rfl) (by kernel_rfl) (fun _ _ _ h => h) (by first | exact Kept.refl _ _ | exact (Kept.refl _ _).alloc _ | assumption | exact Kept.alloc (by assumption) _) (yield_val (by rfl) ?_) ?_
        rotate_left
        · intro w hSw; go_simp <;> with_reducible rfl
        simp only [Act.put, List.setIfInBounds_toArray]; try dsimp only [List.set_cons_zero, List.set_cons_succ]
        refine reg_take 14 (v := ?_) rfl (by kernel_rfl) (by kernel_rfl) (by kernel_rfl) (fun _ _ _ h => h) (by first | exact Kept.refl _ _ | exact (Kept.refl _ _).alloc _ | assumption | exact Kept.alloc (by assumption) _) (yield_val (by rfl) ?_) ?_
        rotate_left
        · intro w hSw; have hx0 := Hp0.out w hSw; go_simp <;> with_reducible rfl
        simp only [Act.put, List.setIfInBounds_toArray]; try dsimp only [List.set_cons_zero, List.set_cons_succ]
        refine reg_take 16 (v := ?_) rfl (by kernel_rfl) (by kernel_rfl) (by kernel_rfl) (fun _ _ _ h => h) (by first | exact Kept.refl _ _ | exact (Kept.refl _ _).alloc _ | assumption | exact Kept.alloc (by assumption) _) (yield_val (by rfl) ?_) ?_
        rotate_left
        · intro w hSw; go_simp <;> with_reducible rfl
        simp only [Act.put, List.setIfInBounds_toArray]; try dsimp only [List.set_cons_zero, List.set_cons_succ]
        refine reg_take 17 rfl (by kernel_rfl) (by kernel_rfl) (by kernel_rfl) (fun _ _ _ h => h) (by first | exact Kept.refl _ _ | exact (Kept.refl _ _).alloc _ | assumption | exact Kept.alloc (by assumption) _) (yieldsIf_load_mid (by rfl) 27 _ rfl pb 1 rfl (dc p.2) _ Hpr.out Tryd.underlying27 rfl Hidp.out) ?_
        simp only [Act.put, List.setIfInBounds_toArray]; try dsimp only [List.set_cons_zero, List.set_cons_succ]
        refine reg_take 18 rfl (by kernel_rfl) (by kernel_rfl) (by kernel_rfl) (fun _ _ _ h => h) (by first | exact Kept.refl _ _ | exact (Kept.refl _ _).alloc _ | assumption | exact Kept.alloc (by assumption) _) (yieldsIf_load_mid (by rfl) 27 _ rfl gs 0 rfl (dc sp) _ Hsr.out Tryd.underlying27 rfl Hids.out) ?_
        simp only [Act.put, List.setIfInBounds_toArray]; try dsimp only [List.set_cons_zero, List.set_cons_succ]
        refine reg_one 15 (by kernel_rfl) (op_call (f := 10) (args := #[.int .i64 p.1]) rfl (by rfl) (by go_simp <;> rfl) _ (name_any _ _) ?_)
        rintro e y1 ⟨rfl, hK1b⟩
        have hK1 : Kept wc.drew y1 (fun _ => False) := (Kept.refl _ _).trans (Kept.ofBelow hK1b _)
        refine ⟨_, rfl, hK1, ?_⟩
        simp only [Act.put, List.setIfInBounds_toArray]; try dsimp only [List.set_cons_zero, List.set_cons_succ]
        refine reg_one 19 (by kernel_rfl) (op_call (f := 11) (args := #[.pointer (some ⟨rb, 0, none⟩), .string (nm p.1), .agg (dc p.2).toArray, .agg (dc sp).toArray]) rfl (by rfl) (by go_simp <;> rfl) _ ((H7.out.2.1.drew.keptN hK1).verify p hp sp hspl) ?_)
        rintro e y2 ⟨rfl, hK2b⟩
        have hK2 : Kept wc.drew y2 (fun _ => False) := (hK1).trans (Kept.ofBelow hK2b _)
        refine ⟨_, rfl, hK2, ?_⟩
        simp only [Act.put, List.setIfInBounds_toArray]; try dsimp only [List.set_cons_zero, List.set_cons_succ]
        rw [Hyb.out]
        refine reg_take 20 (v := ?_) rfl (by kernel_rfl) (by kernel_rfl) (by kernel_rfl) (fun _ _ _ h => h) (by first | exact Kept.refl _ _ | exact (Kept.refl _ _).alloc _ | assumption | exact Kept.alloc (by assumption) _) (yield_val (by rfl) ?_) ?_
        rotate_left
        · intro w hSw; go_simp <;> with_reducible rfl
        simp only [Act.put, List.setIfInBounds_toArray]; try dsimp only [List.set_cons_zero, List.set_cons_succ]
        refine reg_take 21 (v := ?_) rfl (by kernel_rfl) (by kernel_rfl) (by kernel_rfl) (fun _ _ _ h => h) (by first | exact Kept.refl _ _ | exact (Kept.refl _ _).alloc _ | assumption | exact Kept.alloc (by assumption) _) (yield_val (by rfl) ?_) ?_
        rotate_left
        · intro w hSw; go_simp <;> with_reducible rfl
        simp only [Act.put, List.setIfInBounds_toArray]; try dsimp only [List.set_cons_zero, List.set_cons_succ]
        refine reg_take 22 (v := ?_) rfl (by kernel_rfl) (by kernel_rfl) (by kernel_rfl) (fun _ _ _ h => h) (by first | exact Kept.refl _ _ | exact (Kept.refl _ _).alloc _ | assumption | exact Kept.alloc (by assumption) _) (yield_val (by rfl) ?_) ?_
        rotate_left
        · intro w hSw; go_simp <;> with_reducible rfl
        simp only [Act.put, List.setIfInBounds_toArray]; try dsimp only [List.set_cons_zero, List.set_cons_succ]
        refine reg_take 23 (v := ?_) rfl (by kernel_rfl) (by kernel_rfl) (by kernel_rfl) (fun _ _ _ h => h) (by first | exact Kept.refl _ _ | exact (Kept.refl _ _).alloc _ | assumption | exact Kept.alloc (by assumption) _) (yield_val (by rfl) ?_) ?_
        rotate_left
        · intro w hSw; go_simp <;> with_reducible rfl
        simp only [Act.put, List.setIfInBounds_toArray]; try dsimp only [List.set_cons_zero, List.set_cons_succ]
        refine reg_take 24 (v := ?_) rfl (by kernel_rfl) (by kernel_rfl) (by kernel_rfl) (fun _ _ _ h => h) (by first | exact Kept.refl _ _ | exact (Kept.refl _ _).alloc _ | assumption | exact Kept.alloc (by assumption) _) (yield_val (by rfl) ?_) ?_
        rotate_left
        · intro w hSw; go_simp <;> with_reducible rfl
        simp only [Act.put, List.setIfInBounds_toArray]; try dsimp only [List.set_cons_zero, List.set_cons_succ]
        refine reg_take 25 (v := ?_) rfl (by kernel_rfl) (by kernel_rfl) (by kernel_rfl) (fun _ _ _ h => h) (by first | exact Kept.refl _ _ | exact (Kept.refl _ _).alloc _ | assumption | exact Kept.alloc (by assumption) _) (yield_val (by rfl) ?_) ?_
        rotate_left
        · intro w hSw; have hx0 := Hp0.out w hSw; go_simp <;> with_reducible rfl
        simp only [Act.put, List.setIfInBounds_toArray]; try dsimp only [List.set_cons_zero, List.set_cons_succ]
        refine reg_one 26 (by kernel_rfl) (op_call (f := 10) (args := #[.int .i64 p.1]) rfl (by rfl) (by go_simp <;> rfl) _ (name_any _ _) ?_)
        rintro e y3 ⟨rfl, hK3b⟩
        have hK3 : Kept wc.drew y3 (fun _ => False) := (hK2).trans (Kept.ofBelow hK3b _)
        refine ⟨_, rfl, hK3, ?_⟩
        simp only [Act.put, List.setIfInBounds_toArray]; try dsimp only [List.set_cons_zero, List.set_cons_succ]
        refine reg_one 27 (by kernel_rfl) (op_call (f := 33) (args := #[.pointer (some ⟨ra, 0, none⟩), .string (nm p.1)]) rfl (by rfl) (by go_simp <;> rfl) _ (signed_one ra a1 a2 sva sec rc fc p _ (H7.out.1.drew.keptN hK3)) ?_)
        rintro e y6 ⟨A6, c6, rfl, hb6⟩
        have hK6 : Kept wc.drew y6 (fun _ => False) := hK3.trans (Kept.ofBelow hb6 _)
        refine ⟨_, rfl, hK6, ?_⟩
        simp only [Act.put, List.setIfInBounds_toArray, List.set_cons_zero, List.set_cons_succ]
        refine reg_take 28 (v := ?_) rfl (by kernel_rfl) (by kernel_rfl) (by kernel_rfl) (fun _ _ _ h => h) (by first | exact Kept.refl _ _ | exact (Kept.refl _ _).alloc _ | assumption | exact Kept.alloc (by assumption) _) (yield_val (by rfl) ?_) ?_
        rotate_left
        · intro w hSw; go_simp <;> with_reducible rfl
        simp only [Act.put, List.setIfInBounds_toArray]; try dsimp only [List.set_cons_zero, List.set_cons_succ]
        refine reg_take 29 (v := ?_) rfl (by kernel_rfl) (by kernel_rfl) (by kernel_rfl) (fun _ _ _ h => h) (by first | exact Kept.refl _ _ | exact (Kept.refl _ _).alloc _ | assumption | exact Kept.alloc (by assumption) _) (yield_val (by rfl) ?_) ?_
        rotate_left
        · intro w hSw; go_simp <;> with_reducible rfl
        simp only [Act.put, List.setIfInBounds_toArray]; try dsimp only [List.set_cons_zero, List.set_cons_succ]
        refine reg_take 30 (v := ?_) rfl (by kernel_rfl) (by kernel_rfl) (by kernel_rfl) (fun _ _ _ h => h) (by first | exact Kept.refl _ _ | exact (Kept.refl _ _).alloc _ | assumption | exact Kept.alloc (by assumption) _) (yield_val (by rfl) ?_) ?_
        rotate_left
        · intro w hSw; go_simp <;> with_reducible rfl
        simp only [Act.put, List.setIfInBounds_toArray]; try dsimp only [List.set_cons_zero, List.set_cons_succ]
        refine reg_done (by kernel_rfl) ?_
        have hk := hK6.undrew
        have hRc := H7.out.2.2.1.keptP hk
        have hB8 : Below w.heap.size w y6 := H7.out.2.2.2.1.trans (hk.toBelow.mono H7.out.2.2.2.1.size)
        have hP8 : y6.heap[pb]? = some (.cells (pc p).toArray 35 (0, 0)) := (hk.block pb (Array.getElem?_eq_some_iff.1 H7.out.2.2.2.2.1).1 (fun e => e)).trans H7.out.2.2.2.2.1
        have hS8 : y6.heap[gs]? = some (.cells (encA .u8 sp) 27 (0, 0)) := (hk.block gs (Array.getElem?_eq_some_iff.1 H7.out.2.2.2.2.2.1).1 (fun e => e)).trans H7.out.2.2.2.2.2.1
        have hU8 : y6.heap[gu]? = some (.cells (encA .u8 up) 27 (0, 0)) := (hk.block gu (Array.getElem?_eq_some_iff.1 H7.out.2.2.2.2.2.2.2).1 (fun e => e)).trans H7.out.2.2.2.2.2.2.2
        have H8 := Lib.hid (And.intro hRc (And.intro hB8 (And.intro hP8 (And.intro hS8 hU8))))
        clear hRc hB8 hP8 hS8 hU8 hk H7 Hp0 Hpr Hsr Htr Hyb hK1 hK2 hK3 hK6 hb6 hK1b hK2b hK3b heq1
        have hp0 : ∀ w', Kept y6.drew w' (fun _ => False) → w'.cell? ⟨pb, 0, none⟩ = some (.int .i64 p.1) := fun w' h => keptCell h (fun e => e) (rowPair H8.out.2.2.1).1
        have hpr : ∀ w', Kept y6.drew w' (fun _ => False) → w'.rangeAt pb 1 (dc p.2) := fun w' h => rangeAt_kept h (fun e => e) (rowPair H8.out.2.2.1).2
        have hsr : ∀ w', Kept y6.drew w' (fun _ => False) → w'.rangeAt gs 0 (dc sp) := fun w' h => keptRow h (fun e => e) H8.out.2.2.2.1
        have hur : ∀ w', Kept y6.drew w' (fun _ => False) → w'.rangeAt gu 0 (dc up) := fun w' h => keptRow h (fun e => e) H8.out.2.2.2.2
        have Hp0 := Lib.hid hp0
        have Hpr := Lib.hid hpr
        have Hsr := Lib.hid hsr
        have Hur := Lib.hid hur
        clear hp0 hpr hsr hur
        have hy : yesB (sgD rc fc oth [p]) (klp (nm p.1) p.2) sp = decide (sp = up) := by
          rw [Bool.eq_iff_iff, yes_iff rc fc oth [p] H8.out.1.ok p hp sp, decide_eq_true_eq, ← Hup.out]
          exact ⟨fun h => h.2.symm, fun h => ⟨⟨p, by simp, rfl, rfl⟩, h.symm⟩⟩
        obtain ⟨bv, hbv⟩ : ∃ bv, bv = decide (sp = up) := ⟨_, rfl⟩
        have heq2 : ∀ W : World, (Op.equalIn 10000 27 (.agg (dc sp).toArray) (.agg (dc up).toArray)).run Tryd.prog W = .ok bv W := fun W => by
          rw [show (dc sp).toArray = encA .u8 sp from rfl, show (dc up).toArray = encA .u8 up from rfl, eq_D W _ _ hspl hupl, hbv]
        rw [← hbv] at hy
        have Hy := Lib.hid hy
        clear hbv hy
        go_upto_region 13 with fail
        cases bv
        · skip
          refine reg_start (fun w' => Kept y6.drew w' (fun _ => False)) (by kernel_rfl) ?_
          simp only [List.length_cons, List.length_nil, Nat.zero_add, Nat.reduceAdd]
          refine reg_take 0 (v := ?_) rfl (by kernel_rfl) (by kernel_rfl) (by kernel_rfl) (fun _ _ _ h => h) (by first | exact Kept.refl _ _ | exact (Kept.refl _ _).alloc _ | assumption | exact Kept.alloc (by assumption) _) (yield_val (by rfl) ?_) ?_
          rotate_left
          · intro w hSw; go_simp <;> with_reducible rfl
          simp only [Act.put, List.setIfInBounds_toArray]; try dsimp only [List.set_cons_zero, List.set_cons_succ]
          refine reg_take 1 (v := ?_) rfl (by kernel_rfl) (by kernel_rfl) (by kernel_rfl) (fun _ _ _ h => h) (by first | exact Kept.refl _ _ | exact (Kept.refl _ _).alloc _ | assumption | exact Kept.alloc (by assumption) _) (yield_val (by rfl) ?_) ?_
          rotate_left
          · intro w hSw; go_simp <;> with_reducible rfl
          simp only [Act.put, List.setIfInBounds_toArray]; try dsimp only [List.set_cons_zero, List.set_cons_succ]
          refine reg_take 4 (v := ?_) rfl (by kernel_rfl) (by kernel_rfl) (by kernel_rfl) (fun _ _ _ h => h) (by first | exact Kept.refl _ _ | exact (Kept.refl _ _).alloc _ | assumption | exact Kept.alloc (by assumption) _) (yield_val (by rfl) ?_) ?_
          rotate_left
          · intro w hSw; go_simp <;> with_reducible rfl
          simp only [Act.put, List.setIfInBounds_toArray]; try dsimp only [List.set_cons_zero, List.set_cons_succ]
          refine reg_take 2 (v := ?_) rfl (by kernel_rfl) (by kernel_rfl) (by kernel_rfl) (fun _ _ _ h => h) (by first | exact Kept.refl _ _ | exact (Kept.refl _ _).alloc _ | assumption | exact Kept.alloc (by assumption) _) (yield_val (by rfl) ?_) ?_
          rotate_left
          · intro w hSw; have hx0 := Hp0.out w hSw; go_simp <;> with_reducible rfl
          simp only [Act.put, List.setIfInBounds_toArray]; try dsimp only [List.set_cons_zero, List.set_cons_succ]
          refine reg_take 5 rfl (by kernel_rfl) (by kernel_rfl) (by kernel_rfl) (fun _ _ _ h => h) (by first | exact Kept.refl _ _ | exact (Kept.refl _ _).alloc _ | assumption | exact Kept.alloc (by assumption) _) (yieldsIf_load_mid (by rfl) 27 _ rfl pb 1 rfl (dc p.2) _ Hpr.out Tryd.underlying27 rfl Hidp.out) ?_
          simp only [Act.put, List.setIfInBounds_toArray]; try dsimp only [List.set_cons_zero, List.set_cons_succ]
          refine reg_take 6 rfl (by kernel_rfl) (by kernel_rfl) (by kernel_rfl) (fun _ _ _ h => h) (by first | exact Kept.refl _ _ | exact (Kept.refl _ _).alloc _ | assumption | exact Kept.alloc (by assumption) _) (yieldsIf_load_mid (by rfl) 27 _ rfl gs 0 rfl (dc sp) _ Hsr.out Tryd.underlying27 rfl Hids.out) ?_
          simp only [Act.put, List.setIfInBounds_toArray]; try dsimp only [List.set_cons_zero, List.set_cons_succ]
          refine reg_take 8 rfl (by kernel_rfl) (by kernel_rfl) (by kernel_rfl) (fun _ _ _ h => h) (by first | exact Kept.refl _ _ | exact (Kept.refl _ _).alloc _ | assumption | exact Kept.alloc (by assumption) _) (yieldsIf_load_mid (by rfl) 27 _ rfl gs 0 rfl (dc sp) _ Hsr.out Tryd.underlying27 rfl Hids.out) ?_
          simp only [Act.put, List.setIfInBounds_toArray]; try dsimp only [List.set_cons_zero, List.set_cons_succ]
          refine reg_take 9 rfl (by kernel_rfl) (by kernel_rfl) (by kernel_rfl) (fun _ _ _ h => h) (by first | exact Kept.refl _ _ | exact (Kept.refl _ _).alloc _ | assumption | exact Kept.alloc (by assumption) _) (yieldsIf_load_mid (by rfl) 27 _ rfl gu 0 rfl (dc up) _ Hur.out Tryd.underlying27 rfl Hidu.out) ?_
          simp only [Act.put, List.setIfInBounds_toArray]; try dsimp only [List.set_cons_zero, List.set_cons_succ]
          refine reg_take 10 (v := ?_) rfl (by kernel_rfl) (by kernel_rfl) (by kernel_rfl) (fun _ _ _ h => h) (by first | exact Kept.refl _ _ | exact (Kept.refl _ _).alloc _ | assumption | exact Kept.alloc (by assumption) _) (yield_val (by rfl) ?_) ?_
          rotate_left
          · intro w hSw; go_simp <;> with_reducible rfl
          simp only [Act.put, List.setIfInBounds_toArray]; try dsimp only [List.set_cons_zero, List.set_cons_succ]
          refine reg_one 3 (by kernel_rfl) (op_call (f := 10) (args := #[.int .i64 p.1]) rfl (by rfl) (by go_simp <;> rfl) _ (name_any _ _) ?_)
          rintro e z1 ⟨rfl, hK1b⟩
          have hK1 : Kept y6.drew z1 (fun _ => False) := (Kept.refl _ _).trans (Kept.ofBelow hK1b _)
          refine ⟨_, rfl, hK1, ?_⟩
          simp only [Act.put, List.setIfInBounds_toArray]; try dsimp only [List.set_cons_zero, List.set_cons_succ]
          refine reg_one 7 (by kernel_rfl) (op_call (f := 11) (args := #[.pointer (some ⟨rc', 0, none⟩), .string (nm p.1), .agg (dc p.2).toArray, .agg (dc sp).toArray]) rfl (by rfl) (by go_simp <;> rfl) _ ((H8.out.1.drew.keptN hK1).verify p hp sp hspl) ?_)
          rintro e z2 ⟨rfl, hK2b⟩
          have hK2 : Kept y6.drew z2 (fun _ => False) := (hK1).trans (Kept.ofBelow hK2b _)
          refine ⟨_, rfl, hK2, ?_⟩
          simp only [Act.put, List.setIfInBounds_toArray]; try dsimp only [List.set_cons_zero, List.set_cons_succ]
          rw [Hy.out]
          refine reg_take 11 (v := ?_) rfl (by kernel_rfl) (by kernel_rfl) (by kernel_rfl) (fun _ _ _ h => h) (by first | exact Kept.refl _ _ | exact (Kept.refl _ _).alloc _ | assumption | exact Kept.alloc (by assumption) _) (yield_val (by rfl) ?_) ?_
          rotate_left
          · intro w hSw; go_simp <;> with_reducible rfl
          simp only [Act.put, List.setIfInBounds_toArray]; try dsimp only [List.set_cons_zero, List.set_cons_succ]
          refine reg_take 12 (v := ?_) rfl (by kernel_rfl) (by kernel_rfl) (by kernel_rfl) (fun _ _ _ h => h) (by first | exact Kept.refl _ _ | exact (Kept.refl _ _).alloc _ | assumption | exact Kept.alloc (by assumption) _) (yield_val (by rfl) ?_) ?_
          rotate_left
          · intro w hSw; go_simp <;> with_reducible rfl
          simp only [Act.put, List.setIfInBounds_toArray]; try dsimp only [List.set_cons_zero, List.set_cons_succ]
          refine reg_done (by kernel_rfl) ?_
          have hfin : Below w.heap.size w z2 := H8.out.2.1.trans (hK2.undrew.toBelow.mono H8.out.2.1.size)
          go_wp2_with fail
          go_ret
          exact ⟨rfl, hfin⟩
        · skip
          refine reg_start (fun w' => Kept y6.drew w' (fun _ => False)) (by kernel_rfl) ?_
          simp only [List.length_cons, List.length_nil, Nat.zero_add, Nat.reduceAdd]
          refine reg_take 0 (v := ?_) rfl (by kernel_rfl) (by kernel_rfl) (by kernel_rfl) (fun _ _ _ h => h) (by first | exact Kept.refl _ _ | exact (Kept.refl _ _).alloc _ | assumption | exact Kept.alloc (by assumption) _) (yield_val (by rfl) ?_) ?_
          rotate_left
          · intro w hSw; go_simp <;> with_reducible rfl
          simp only [Act.put, List.setIfInBounds_toArray]; try dsimp only [List.set_cons_zero, List.set_cons_succ]
          refine reg_take 1 (v := ?_) rfl (by kernel_rfl) (by kernel_rfl) (by kernel_rfl) (fun _ _ _ h => h) (by first | exact Kept.refl _ _ | exact (Kept.refl _ _).alloc _ | assumption | exact Kept.alloc (by assumption) _) (yield_val (by rfl) ?_) ?_
          rotate_left
          · intro w hSw; go_simp <;> with_reducible rfl
          simp only [Act.put, List.setIfInBounds_toArray]; try dsimp only [List.set_cons_zero, List.set_cons_succ]
          refine reg_take 4 (v := ?_) rfl (by kernel_rfl) (by kernel_rfl) (by kernel_rfl) (fun _ _ _ h => h) (by first | exact Kept.refl _ _ | exact (Kept.refl _ _).alloc _ | assumption | exact Kept.alloc (by assumption) _) (yield_val (by rfl) ?_) ?_
          rotate_left
          · intro w hSw; go_simp <;> with_reducible rfl
          simp only [Act.put, List.setIfInBounds_toArray]; try dsimp only [List.set_cons_zero, List.set_cons_succ]
          refine reg_take 2 (v := ?_) rfl (by kernel_rfl) (by kernel_rfl) (by kernel_rfl) (fun _ _ _ h => h) (by first | exact Kept.refl _ _ | exact (Kept.refl _ _).alloc _ | assumption | exact Kept.alloc (by assumption) _) (yield_val (by rfl) ?_) ?_
          rotate_left
          · intro w hSw; have hx0 := Hp0.out w hSw; go_simp <;> with_reducible rfl
          simp only [Act.put, List.setIfInBounds_toArray]; try dsimp only [List.set_cons_zero, List.set_cons_succ]
          refine reg_take 5 rfl (by kernel_rfl) (by kernel_rfl) (by kernel_rfl) (fun _ _ _ h => h) (by first | exact Kept.refl _ _ | exact (Kept.refl _ _).alloc _ | assumption | exact Kept.alloc (by assumption) _) (yieldsIf_load_mid (by rfl) 27 _ rfl pb 1 rfl (dc p.2) _ Hpr.out Tryd.underlying27 rfl Hidp.out) ?_
          simp only [Act.put, List.setIfInBounds_toArray]; try dsimp only [List.set_cons_zero, List.set_cons_succ]
          refine reg_take 6 rfl (by kernel_rfl) (by kernel_rfl) (by kernel_rfl) (fun _ _ _ h => h) (by first | exact Kept.refl _ _ | exact (Kept.refl _ _).alloc _ | assumption | exact Kept.alloc (by assumption) _) (yieldsIf_load_mid (by rfl) 27 _ rfl gs 0 rfl (dc sp) _ Hsr.out Tryd.underlying27 rfl Hids.out) ?_
          simp only [Act.put, List.setIfInBounds_toArray]; try dsimp only [List.set_cons_zero, List.set_cons_succ]
          refine reg_take 8 rfl (by kernel_rfl) (by kernel_rfl) (by kernel_rfl) (fun _ _ _ h => h) (by first | exact Kept.refl _ _ | exact (Kept.refl _ _).alloc _ | assumption | exact Kept.alloc (by assumption) _) (yieldsIf_load_mid (by rfl) 27 _ rfl gs 0 rfl (dc sp) _ Hsr.out Tryd.underlying27 rfl Hids.out) ?_
          simp only [Act.put, List.setIfInBounds_toArray]; try dsimp only [List.set_cons_zero, List.set_cons_succ]
          refine reg_take 9 rfl (by kernel_rfl) (by kernel_rfl) (by kernel_rfl) (fun _ _ _ h => h) (by first | exact Kept.refl _ _ | exact (Kept.refl _ _).alloc _ | assumption | exact Kept.alloc (by assumption) _) (yieldsIf_load_mid (by rfl) 27 _ rfl gu 0 rfl (dc up) _ Hur.out Tryd.underlying27 rfl Hidu.out) ?_
          simp only [Act.put, List.setIfInBounds_toArray]; try dsimp only [List.set_cons_zero, List.set_cons_succ]
          refine reg_take 10 (v := ?_) rfl (by kernel_rfl) (by kernel_rfl) (by kernel_rfl) (fun _ _ _ h => h) (by first | exact Kept.refl _ _ | exact (Kept.refl _ _).alloc _ | assumption | exact Kept.alloc (by assumption) _) (yield_val (by rfl) ?_) ?_
          rotate_left
          · intro w hSw; go_simp <;> with_reducible rfl
          simp only [Act.put, List.setIfInBounds_toArray]; try dsimp only [List.set_cons_zero, List.set_cons_succ]
          refine reg_one 3 (by kernel_rfl) (op_call (f := 10) (args := #[.int .i64 p.1]) rfl (by rfl) (by go_simp <;> rfl) _ (name_any _ _) ?_)
          rintro e z1 ⟨rfl, hK1b⟩
          have hK1 : Kept y6.drew z1 (fun _ => False) := (Kept.refl _ _).trans (Kept.ofBelow hK1b _)
          refine ⟨_, rfl, hK1, ?_⟩
          simp only [Act.put, List.setIfInBounds_toArray]; try dsimp only [List.set_cons_zero, List.set_cons_succ]
          refine reg_one 7 (by kernel_rfl) (op_call (f := 11) (args := #[.pointer (some ⟨rc', 0, none⟩), .string (nm p.1), .agg (dc p.2).toArray, .agg (dc sp).toArray]) rfl (by rfl) (by go_simp <;> rfl) _ ((H8.out.1.drew.keptN hK1).verify p hp sp hspl) ?_)
          rintro e z2 ⟨rfl, hK2b⟩
          have hK2 : Kept y6.drew z2 (fun _ => False) := (hK1).trans (Kept.ofBelow hK2b _)
          refine ⟨_, rfl, hK2, ?_⟩
          simp only [Act.put, List.setIfInBounds_toArray]; try dsimp only [List.set_cons_zero, List.set_cons_succ]
          rw [Hy.out]
          refine reg_take 11 (v := ?_) rfl (by kernel_rfl) (by kernel_rfl) (by kernel_rfl) (fun _ _ _ h => h) (by first | exact Kept.refl _ _ | exact (Kept.refl _ _).alloc _ | assumption | exact Kept.alloc (by assumption) _) (yield_val (by rfl) ?_) ?_
          rotate_left
          · intro w hSw; go_simp <;> with_reducible rfl
          simp only [Act.put, List.setIfInBounds_toArray]; try dsimp only [List.set_cons_zero, List.set_cons_succ]
          refine reg_take 12 (v := ?_) rfl (by kernel_rfl) (by kernel_rfl) (by kernel_rfl) (fun _ _ _ h => h) (by first | exact Kept.refl _ _ | exact (Kept.refl _ _).alloc _ | assumption | exact Kept.alloc (by assumption) _) (yield_val (by rfl) ?_) ?_
          rotate_left
          · intro w hSw; go_simp <;> with_reducible rfl
          simp only [Act.put, List.setIfInBounds_toArray]; try dsimp only [List.set_cons_zero, List.set_cons_succ]
          refine reg_done (by kernel_rfl) ?_
          have hfin : Below w.heap.size w z2 := H8.out.2.1.trans (hK2.undrew.toBelow.mono H8.out.2.1.size)
          go_wp2_with fail
          go_ret
          exact ⟨rfl, hfin⟩
end Go.Proofs.YthgebhndhilhkaaDoor
