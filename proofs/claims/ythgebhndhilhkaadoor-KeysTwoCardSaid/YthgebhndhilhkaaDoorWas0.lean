/- KeysIdeal: what the law has seen, and a digest with a byte turned. -/
import Derived.Test.YthgebhndhilhkaaDoorBuild0
import Derived.Laws.BitsAllLaws
namespace Go.Proofs.YthgebhndhilhkaaDoor
open Go.RowKit Go.MuLone Go.Maps

open Classical in
noncomputable def sameB (p q : Pr) : Bool := decide (Same p q)
theorem sameB_true {p q : Pr} : sameB p q = true ↔ Same p q := by simp [sameB]
theorem sameB_false {p q : Pr} : sameB p q = false ↔ ¬ Same p q := by simp [sameB]
noncomputable def wasB (al : List Pr) (j : Nat) (q : Pr) : Bool := (al.take j).any fun p => sameB p q
theorem wasB_zero (al : List Pr) (q : Pr) : wasB al 0 q = false := by simp [wasB]
theorem wasB_succ {al : List Pr} {j : Nat} {p : Pr} (h : al[j]? = some p) (q : Pr) : wasB al (j + 1) q = (wasB al j q || sameB p q) := by
  simp [wasB, List.take_add_one, h]
theorem wasB_all {al : List Pr} {j : Nat} (hj : al.length ≤ j) (q : Pr) : wasB al j q = true ↔ ∃ p ∈ al, Same p q := by
  unfold wasB
  rw [List.take_of_length_le hj]
  simp [List.any_eq_true, sameB_true]
theorem seal_same {p q : Pr} (rc fc sec : List Int) (h : Same p q) : sealF rc fc sec p = sealF rc fc sec q := by
  unfold sealF
  rw [h.1, h.2]
section
variable {rc fc sec : List Int} {al : List Pr}
theorem ok_rev (h : ∀ p ∈ al, PrOk p) : ∀ p ∈ al.reverse, PrOk p := fun p hp => h p (List.mem_reverse.1 hp)
set_option maxRecDepth 100000 in
theorem yes_same (h : ∀ p ∈ al, PrOk p) {p q : Pr} (hp : p ∈ al) (hq : PrOk q) (hs : Same p q) : yesB (sgD rc fc sec al.reverse) (klp (nm q.1) q.2) (sealF rc fc sec p) = true :=
  (yes_iff rc fc sec _ (ok_rev h) q hq _).2 ⟨⟨p, List.mem_reverse.2 hp, hs⟩, (seal_same rc fc sec hs).symm⟩
set_option maxRecDepth 100000 in
theorem yes_match (h : ∀ p ∈ al, PrOk p) {p q : Pr} (hq : PrOk q) (hy : yesB (sgD rc fc sec al.reverse) (klp (nm q.1) q.2) (sealF rc fc sec p) = true) : ∃ j, matchAt al (al.map (sealF rc fc sec)) q (sealF rc fc sec p) j := by
  obtain ⟨⟨p', hp', hs⟩, he⟩ := (yes_iff rc fc sec _ (ok_rev h) q hq _).1 hy
  obtain ⟨j, hj⟩ := List.getElem?_of_mem (List.mem_reverse.1 hp')
  exact ⟨j, p', sealF rc fc sec p', hj, by simp [hj], hs.1, hs.2, by rw [seal_same rc fc sec hs, he]⟩
set_option maxRecDepth 100000 in
theorem yes_self (h : ∀ p ∈ al, PrOk p) {q : Pr} (hq : PrOk q) : yesB (sgD rc fc sec al.reverse) (klp (nm q.1) q.2) (sealF rc fc sec q) = wasB al al.length q := by
  rw [Bool.eq_iff_iff, wasB_all (Nat.le_refl _), yes_iff rc fc sec _ (ok_rev h) q hq]
  simp
set_option maxRecDepth 100000 in
theorem yes_bad (h : ∀ p ∈ al, PrOk p) {p q : Pr} (hq : PrOk q) (hs : Same p q) {bad : List Int} (hb : bad ≠ sealF rc fc sec p) : yesB (sgD rc fc sec al.reverse) (klp (nm q.1) q.2) bad = false := by
  cases hy : yesB (sgD rc fc sec al.reverse) (klp (nm q.1) q.2) bad with
  | false => rfl
  | true =>
    have h1 := ((yes_iff rc fc sec _ (ok_rev h) q hq _).1 hy).2
    have h2 := seal_same rc fc sec hs
    exact absurd (h1.symm.trans h2.symm) hb
end
theorem BytesIn.ofRange {w : World} {g o n : Nat} {bs : List Int} (h : w.rangeAt g o (dc bs)) (hl : bs.length = n) (hn : n ≤ 9223372036854775807) : BytesIn w (.slice (some ⟨g, o, none⟩) n n) bs := by
  subst hl
  refine ⟨_, _, rfl, Nat.le_refl _, hn, fun _ => ⟨g, o, rfl, fun i hi => ?_⟩⟩
  exact h i _ (by simp [dc, List.getElem?_eq_getElem hi])
theorem digTo_byt (st : List Int) (k : Nat) : Byt (digTo st k) := by
  induction k with
  | zero => unfold Byt digTo; intro x hx; have := List.eq_of_mem_replicate hx; omega
  | succ k ih =>
    rw [digTo]
    intro x hx
    rcases List.mem_or_eq_of_mem_set hx with hx | hx
    · rcases List.mem_or_eq_of_mem_set hx with hx | hx
      · rcases List.mem_or_eq_of_mem_set hx with hx | hx
        · rcases List.mem_or_eq_of_mem_set hx with hx | hx
          · exact ih x hx
          · omega
        · omega
      · omega
    · omega
theorem sealF_byt (rc fc sec : List Int) (p : Pr) : Byt (sealF rc fc sec p) := digTo_byt _ _
theorem xor_ne {a b : Int} (h1 : 0 ≤ a) (h2 : a ≤ 255) (h3 : 0 ≤ b) (h4 : b ≤ 255) (hb : b ≠ 0) : bits .xor .u8 a b ≠ a := by
  rw [u8_xor a b h1 (by omega) h3 (by omega)]
  intro e
  have e2 : a.toNat ^^^ b.toNat = a.toNat := by omega
  have e3 : a.toNat ^^^ (a.toNat ^^^ b.toNat) = a.toNat ^^^ a.toNat := by rw [e2]
  rw [← Nat.xor_assoc, Nat.xor_self, Nat.zero_xor] at e3
  omega
theorem set_ne {s : List Int} {j : Nat} {x y : Int} (hj : s[j]? = some y) (hx : x ≠ y) : s.set j x ≠ s := by
  intro e
  have h := congrArg (·[j]?) e
  have hl := (List.getElem?_eq_some_iff.1 hj).1
  simp only [hj, List.getElem?_set_self hl] at h
  exact hx (Option.some.inj h)
end Go.Proofs.YthgebhndhilhkaaDoor
