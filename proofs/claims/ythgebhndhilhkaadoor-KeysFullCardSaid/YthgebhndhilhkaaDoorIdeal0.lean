/- KeysIdeal: what is signed, in plain Lean. -/
import Derived.Test.YthgebhndhilhkaaDoorLaw2
namespace Go.Proofs.YthgebhndhilhkaaDoor
open Go.RowKit Go.MuLone Go.Maps

/-- The key under which a pair is kept. -/
noncomputable def klp (s : ByteArray) (ds : List Int) : Lit := (keyOf Tryd.prog 90 (.agg (pairC s ds))).getD (.bool false)
theorem klp_key (s : ByteArray) (ds : List Int) (hs : s.size ≤ maxLen) (h : ds.length = 32) (hb : Byt ds) : keyOf Tryd.prog 90 (.agg (pairC s ds)) = some (klp s ds) := by
  obtain ⟨l, hl⟩ := pair_key s ds hs h hb
  rw [klp, hl]
  rfl
/-- A pair as it may come in. -/
def PrOk (p : Pr) : Prop := p.2.length = 32 ∧ Byt p.2
theorem nm_size (n : Int) : (nm n).size ≤ maxLen := by have := names_ok _ (nm_mem n); unfold maxLen; omega
set_option maxRecDepth 100000 in
theorem klp_pr {p : Pr} (h : PrOk p) : keyOf Tryd.prog 90 (.agg (pairC (nm p.1) p.2)) = some (klp (nm p.1) p.2) := klp_key _ _ (nm_size _) h.1 h.2
def Same (p q : Pr) : Prop := nm p.1 = nm q.1 ∧ p.2 = q.2
set_option maxRecDepth 100000 in
theorem klp_lit {p : Pr} (h : PrOk p) : WideAt.IsKeyLit (klp (nm p.1) p.2) := lawP.key (v := .agg (pairC (nm p.1) p.2)) (klp_pr h)
set_option maxRecDepth 100000 in
theorem klp_same {p q : Pr} (hp : PrOk p) (hq : PrOk q) : klp (nm p.1) p.2 = klp (nm q.1) q.2 ↔ Same p q := by
  constructor
  · intro h
    have h1 := klp_pr hp
    have h2 := klp_pr hq
    rw [← h] at h2
    exact pairC_inj (lawP.inj (a := .agg (pairC (nm p.1) p.2)) (b := .agg (pairC (nm q.1) q.2)) h1 h2)
  · rintro ⟨h1, h2⟩
    rw [h1, h2]
def sealF (rc fc sec : List Int) (p : Pr) : List Int := macF rc fc (macF rc fc sec (byt (nm p.1))) p.2
theorem sealF_length (rc fc sec : List Int) (p : Pr) : (sealF rc fc sec p).length = 32 := macF_length _ _ _ _
noncomputable def sgD (rc fc sec : List Int) : List Pr → DataW Unit
  | [] => .map []
  | p :: l => (sgD rc fc sec l).put (klp (nm p.1) p.2) (dat (sealF rc fc sec p))
set_option maxRecDepth 100000 in
theorem sgD_tidy (rc fc sec : List Int) : ∀ l : List Pr, (∀ p ∈ l, PrOk p) → Maps.Tidy (sgD rc fc sec l)
  | [], _ => Maps.tidy_empty
  | p :: l, h => (sgD_tidy rc fc sec l (fun q hq => h q (by simp [hq]))).put (klp_lit (h p (by simp))) _
set_option maxRecDepth 100000 in
theorem sgD_spec (rc fc sec : List Int) (z : DataW Unit) : ∀ l : List Pr, (∀ p ∈ l, PrOk p) → ∀ q, PrOk q →
    ((Maps.has (sgD rc fc sec l) (klp (nm q.1) q.2) = true ↔ ∃ p ∈ l, Same p q) ∧ ((∃ p ∈ l, Same p q) → (sgD rc fc sec l).atKey (klp (nm q.1) q.2) z = dat (sealF rc fc sec q)))
  | [], _, q, _ => ⟨⟨fun h => by simp [sgD, Maps.has] at h, fun h => by obtain ⟨p, hp, _⟩ := h; simp at hp⟩, fun h => by obtain ⟨p, hp, _⟩ := h; simp at hp⟩
  | p :: l, h, q, hq => by
    have hp := h p (by simp)
    have hl := fun r (hr : r ∈ l) => h r (by simp [hr])
    obtain ⟨i1, i2⟩ := sgD_spec rc fc sec z l hl q hq
    have ht := sgD_tidy rc fc sec l hl
    have hk := klp_lit hp
    rw [sgD]
    by_cases hs : Same p q
    · have e : klp (nm q.1) q.2 = klp (nm p.1) p.2 := ((klp_same hp hq).2 hs).symm
      rw [e, Maps.has_put_same ht.isMap hk, Maps.atKey_put_same ht.isMap hk]
      refine ⟨⟨fun _ => ⟨p, by simp, hs⟩, fun _ => rfl⟩, fun _ => ?_⟩
      unfold sealF
      rw [hs.1, hs.2]
    · have hne : klp (nm q.1) q.2 ≠ klp (nm p.1) p.2 := fun e => hs ((klp_same hp hq).1 e.symm)
      rw [Maps.has_put_other hne, Maps.atKey_put_other hne, i1]
      constructor
      · constructor
        · rintro ⟨r, hr, hs'⟩
          exact ⟨r, by simp [hr], hs'⟩
        · rintro ⟨r, hr, hs'⟩
          rcases List.mem_cons.1 hr with rfl | hr
          · exact absurd hs' hs
          · exact ⟨r, hr, hs'⟩
      · rintro ⟨r, hr, hs'⟩
        rcases List.mem_cons.1 hr with rfl | hr
        · exact absurd hs' hs
        · exact i2 ⟨r, hr, hs'⟩
set_option maxRecDepth 100000 in
/-- What Verify says. -/
theorem yes_iff (rc fc sec : List Int) (l : List Pr) (h : ∀ p ∈ l, PrOk p) (q : Pr) (hq : PrOk q) (s : List Int) :
    yesB (sgD rc fc sec l) (klp (nm q.1) q.2) s = true ↔ (∃ p ∈ l, Same p q) ∧ sealF rc fc sec q = s := by
  obtain ⟨h1, h2⟩ := sgD_spec rc fc sec (dat zer32) l h q hq
  rw [yesB_iff, h1]
  constructor
  · rintro ⟨a, b⟩
    exact ⟨a, dat_inj ((h2 a).symm.trans b)⟩
  · rintro ⟨a, b⟩
    exact ⟨a, by rw [h2 a, b]⟩
end Go.Proofs.YthgebhndhilhkaaDoor
