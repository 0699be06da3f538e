/- What the listed variables hold, and what a card wants besides its row. -/
import Derived.Test.YthgebhndhilhkaaDoorOpen0
import Derived.Test.YthgebhndhilhkaaDoorCards
import Derived.Test.YthgebhndhilhkaaDoorTie
import Derived.LaidMore
import Derived.Stop.Joined
import Derived.Stop.LaidErr
namespace Go.Proofs.YthgebhndhilhkaaDoor
open Go.ChangeShapes Go.WideShapes Go.ChangeAt Go.RowKit Go.MuLone Go.Maps

theorem own_knob : ownKnob Tryd.prog.godebug = none := by kernel_rfl
theorem laid_out : laidOutB Tryd.prog = true := by kernel_rfl
/-- The numbers of a table. -/
def litsOf : DataW Unit → List Int
  | .agg ps => ps.map fun d => match d with
    | .lit (.int _ n) => n
    | _ => 0
  | _ => []
def digestLaid : List (String × DataW Unit) := [("hearsay/digest.rounds", Rows.laid_hearsay_digest_rounds), ("hearsay/digest.first", Rows.laid_hearsay_digest_first)]
theorem laid_r : (Rows.laid_hearsay_digest_rounds : DataW Unit) = Lib.tabData .u32 (litsOf Rows.laid_hearsay_digest_rounds) := by rfl
theorem laid_f : (Rows.laid_hearsay_digest_first : DataW Unit) = Lib.tabData .u32 (litsOf Rows.laid_hearsay_digest_first) := by rfl
theorem g_r : Tryd.prog.globalNamed "hearsay/digest.rounds" = some 4 := by kernel_rfl
theorem g_f : Tryd.prog.globalNamed "hearsay/digest.first" = some 1 := by kernel_rfl
theorem t_r : (Tryd.prog.globals[4]?).map (·.type) = some 165 := by kernel_rfl
theorem t_f : (Tryd.prog.globals[1]?).map (·.type) = some 122 := by kernel_rfl
theorem rowAt_of_tab {P : Program} {W : World} {name : String} {g : Nat} {zs : List Int} (hg : P.globalNamed name = some g) (h : Lib.TabIs P W name .u32 zs) : RowAt W g (encA .u32 zs) := by
  unfold Lib.TabIs World.var? at h
  rw [hg] at h
  simp only [Option.bind_some] at h
  split at h
  · rename_i cs t fr hh
    injection h with h
    exact ⟨t, fr, by rw [hh, h]; rfl⟩
  · cases h
theorem glob_of_laid {W : World} (h : laidMetH Tryd.prog digestLaid W) : Glob W (litsOf Rows.laid_hearsay_digest_rounds) (litsOf Rows.laid_hearsay_digest_first) := by
  rw [MakeChecks.laidMetH_plain _ _ _ (by kernel_rfl)] at h
  unfold digestLaid at h
  refine ⟨by rfl, by rfl, ?_, ?_⟩
  · have h1 := h
    rw [laid_r] at h1
    exact rowAt_of_tab g_r (Lib.tabIs_of_head g_r t_r Tryd.underlying165 Tryd.underlying79 (by kernel_rfl) (by kernel_rfl) h1)
  · have h1 := laidMet.tail h
    rw [laid_f] at h1
    exact rowAt_of_tab g_f (Lib.tabIs_of_head g_f t_f Tryd.underlying122 Tryd.underlying79 (by kernel_rfl) (by kernel_rfl) h1)
theorem digest_met (os : Os) (args : Array Value) : laidMetH Tryd.prog digestLaid ((World.doorLaid Tryd.prog 400 os).forCall (fun _ _ => 0) ⟨#[], args, []⟩).memory :=
  laidMetH_of_parts3 (fuel := 8) (laidMet_of_run' 8 (by kernel_rfl) (by kernel_rfl)) (by kernel_rfl) (by kernel_rfl)
theorem FlatIn.bytes {w : World} {v : Value} {bs : List Int} (h : FlatIn w v 1 (bs.map (Value.int .u8))) : BytesIn w v bs := by
  obtain ⟨A, c, rfl, hA⟩ := h.shape (m := bs.length) (by simp) (by decide)
  have hcap : bs.length ≤ c ∧ c ≤ 9223372036854775807 := by
    rcases h with ⟨h1, h2⟩ | ⟨gb, ob, m, c', h1, h2, h3, h4⟩
    · injection h1 with _ h1 h3
      omega
    · injection h1 with _ h1 h3
      omega
  refine ⟨A, c, rfl, hcap.1, hcap.2, fun hp => ?_⟩
  obtain ⟨gb, ob, h1, h2⟩ := hA hp
  exact ⟨gb, ob, h1, fun i hi => h2 i _ (by simp [List.getElem?_eq_getElem hi])⟩
set_option maxRecDepth 100000 in
/-- Bytes that came in. -/
theorem open_bytes {H : Type} {enc : TypeId × Value → H} {W : World} {base base' : Nat} {sp : Nat → Bool} {held : Bool} {v : Value} {d : DataW H} {ps : List MemPlace}
    (hval : Value.okWide Tryd.prog W .any base' 22 v) (h : DataW.Trod enc Tryd.prog W base sp held 22 v d ps) :
    ∃ bs : List Int, FlatIn W v 1 (bs.map (Value.int .u8)) ∧ (∀ x ∈ bs, 0 ≤ x ∧ x ≤ 255) ∧ (bs = [] ∨ ∃ elems spare, d = .slice elems spare ∧ elems.length = bs.length) := by
  obtain ⟨xs, h1, h2, h3⟩ := open_flat (P := Tryd.prog) (fun x : Int => [Value.int .u8 x]) (fun x => 0 ≤ x ∧ x ≤ 255) 1 (by decide) (fun _ _ => rfl) Tryd.underlying22 (by kernel_rfl) (open_u8 Tryd.underlying5) hval h
  exact ⟨xs, by rw [flat_map] at h1; exact h1, h2, h3⟩
set_option maxRecDepth 100000 in
/-- Pairs that came in. -/
theorem open_pairs {H : Type} {enc : TypeId × Value → H} {W : World} {base base' : Nat} {sp : Nat → Bool} {held : Bool} {v : Value} {d : DataW H} {ps : List MemPlace}
    (hval : Value.okWide Tryd.prog W .any base' 23 v) (h : DataW.Trod enc Tryd.prog W base sp held 23 v d ps) :
    ∃ qs : List Pr, FlatIn W v 33 (qs.flatMap pc) ∧ (∀ x ∈ qs, PrOk x) ∧ (qs = [] ∨ ∃ elems spare, d = .slice elems spare ∧ elems.length = qs.length) :=
  open_flat (P := Tryd.prog) pc PrOk 33 (by decide) (fun _ h => pc_length h.1) Tryd.underlying23 (by kernel_rfl) open_pair hval h
set_option maxRecDepth 100000 in
/-- A pair that came in. -/
theorem open_onePair {H : Type} {enc : TypeId × Value → H} {W : World} {base base' : Nat} {sp : Nat → Bool} {held : Bool} {v : Value} {d : DataW H} {ps : List MemPlace}
    (hval : Value.okWide Tryd.prog W .any base' 35 v) (h : DataW.Trod enc Tryd.prog W base sp held 35 v d ps) :
    ∃ q : Pr, v = .agg (pc q).toArray ∧ PrOk q := by
  obtain ⟨fuel, hf⟩ := h
  obtain ⟨q, h1, h2⟩ := open_pair _ _ _ _ hf
  simp only [Value.okWide, Tryd.underlying35] at hval
  obtain ⟨cs, rfl, _, _⟩ := hval
  exact ⟨q, by rw [← h1]; rfl, h2⟩
/-- How long a slice that came in may be. -/
theorem sized_len {α H : Type} {P : Program} {ts : List TypeId} {ds : List (DataW H)} (h : (DataW.weightsEach P ts ds).all (· ≤ reachBytes) = true) {j : Nat} {t e : TypeId} {d : DataW H} {xs : List α} (ht : ts[j]? = some t) (hd : ds[j]? = some d) (hu : P.underlying t = some (.slice e))
    {b : Nat} (hb : P.bytesOf e = b) (hx : xs = [] ∨ ∃ elems spare, d = .slice elems spare ∧ elems.length = xs.length) : xs.length * b ≤ 140737488351232 := by
  rcases hx with rfl | ⟨es, sp, rfl, he⟩
  · simp
  · have z := sized_slice h ht hd hu
    rw [hb] at z
    have e : reachBytes = 140737488351232 := by rfl
    rw [e] at z
    exact Nat.le_trans (Nat.mul_le_mul_right _ (by omega)) z
end Go.Proofs.YthgebhndhilhkaaDoor
