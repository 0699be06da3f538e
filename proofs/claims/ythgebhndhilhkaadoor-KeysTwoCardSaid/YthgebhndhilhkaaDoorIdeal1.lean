/- KeysIdeal: the ring with the pairs that are signed on it. -/
import Derived.Test.YthgebhndhilhkaaDoorIdeal0
namespace Go.Proofs.YthgebhndhilhkaaDoor
open Go.RowKit Go.MuLone Go.Maps

/-- A ring of eight principals on which l was signed. -/
structure RG (w : World) (r b1 b2 : Nat) (sv : Value) (sec rc fc : List Int) (l : List Pr) : Prop where
  ring : RingAt w 0 r b1 b2 sv sec 8 l.length (enD rc fc sec 8) (sgD rc fc sec l)
  glob : Glob w rc fc
  ok : ∀ p ∈ l, PrOk p
section
variable {w w' : World} {r b1 b2 : Nat} {sv : Value} {sec rc fc : List Int} {l : List Pr}
theorem RG.below (R : RG w r b1 b2 sv sec rc fc l) (h : Below w.heap.size w w') : RG w' r b1 b2 sv sec rc fc l := ⟨R.ring.below h, R.glob.below h, R.ok⟩
theorem RG.drew (R : RG w r b1 b2 sv sec rc fc l) : RG w.drew r b1 b2 sv sec rc fc l := R.below ⟨rfl, rfl, rfl, Nat.le_refl _, fun _ _ => rfl⟩
theorem RG.keptN (R : RG w r b1 b2 sv sec rc fc l) (h : Kept w w' fun _ => False) : RG w' r b1 b2 sv sec rc fc l := R.below h.toBelow
set_option maxRecDepth 100000 in
theorem RG.sign (R : RG w r b1 b2 sv sec rc fc l) (p : Pr) (hp : PrOk p) (hl : l.length < 1000000) :
    Calls Tryd.prog 12 #[.pointer (some ⟨r, 0, none⟩), .string (nm p.1), .agg (encA .u8 p.2)] w fun e w' => e = .returned (.tuple #[.agg (encA .u8 (sealF rc fc sec p)), .int .i64 0]) ∧
      RG w' r b1 b2 sv sec rc fc (p :: l) ∧ w.grownBy w' (some b2) := by
  have h8 := en8 rc fc sec p.1
  refine (sign_any r b1 b2 8 l.length sv sec _ _ (nm p.1) p.2 _ rc fc (kls (nm p.1)) (klp (nm p.1) p.2) w R.ring R.glob hp.1 (kls_key _ (nm_size _)) (klp_pr hp) (by unfold maxLen; omega) h8.1 (h8.2 _)).mono ?_
  rintro e w' ⟨h1, h2, h3⟩
  have hg := map_glob R.ring.signed R.glob
  refine ⟨h1, ⟨h2, R.glob.kept (S := (· = b2)) (Kept.ofGrown h3 rfl) hg.1 hg.2, fun q hq => ?_⟩, h3⟩
  rcases List.mem_cons.1 hq with rfl | hq
  · exact hp
  · exact R.ok q hq
set_option maxRecDepth 100000 in
theorem RG.verify (R : RG w r b1 b2 sv sec rc fc l) (p : Pr) (hp : PrOk p) (s : List Int) (hs : s.length = 32) :
    Calls Tryd.prog 11 #[.pointer (some ⟨r, 0, none⟩), .string (nm p.1), .agg (encA .u8 p.2), .agg (encA .u8 s)] w fun e w' => e = .returned (.bool (yesB (sgD rc fc sec l) (klp (nm p.1) p.2) s)) ∧ Below w.heap.size w w' :=
  verify_any r b1 b2 8 l.length sv sec _ _ (nm p.1) p.2 s (klp (nm p.1) p.2) w R.ring hp.1 hs (klp_pr hp)
end
theorem RingAt.keptS {w w' : World} {S : Nat → Prop} {x : Int} {r b1 b2 n1 n2 : Nat} {sv : Value} {sec : List Int} {D1 D2 : DataW Unit} (R : RingAt w x r b1 b2 sv sec n1 n2 D1 D2) (h : Kept w w' S) (hr : ¬ S r) (h1 : ¬ S b1) (h2 : ¬ S b2) (hs : ∀ A n c, sv = .slice (some A) n c → 0 < n → ¬ S A.block) :
    RingAt w' x r b1 b2 sv sec n1 n2 D1 D2 := by
  refine ⟨by rw [h.block _ R.lt hr]; exact R.row, ?_, R.secl, ?_, ?_, R.ne⟩
  · obtain ⟨A, cap, rfl, k1, k2, k3⟩ := R.secIn
    refine ⟨A, cap, rfl, k1, k2, fun hp => ?_⟩
    obtain ⟨gb, ob, rfl, hc⟩ := k3 hp
    exact ⟨gb, ob, rfl, fun i hi => keptCell (a := ⟨gb, ob + i, none⟩) h (hs ⟨gb, ob, none⟩ _ _ rfl hp) (hc i hi)⟩
  · obtain ⟨es, clock, hb, F⟩ := R.keys
    exact ⟨es, clock, by rw [h.block _ (Array.getElem?_eq_some_iff.1 hb).1 h1]; exact hb, F⟩
  · obtain ⟨es, clock, hb, F⟩ := R.signed
    exact ⟨es, clock, by rw [h.block _ (Array.getElem?_eq_some_iff.1 hb).1 h2]; exact hb, F⟩
/-- A new block may be turned. -/
theorem RG.setNew {w y : World} {r b1 b2 g : Nat} {sv : Value} {sec rc fc : List Int} {l0 l : List Pr} (R0 : RG w r b1 b2 sv sec rc fc l0) (R : RG y r b1 b2 sv sec rc fc l) (hg : w.heap.size ≤ g) (cs : Array Value) : RG (y.setRow g cs) r b1 b2 sv sec rc fc l := by
  have hk : Kept y (y.setRow g cs) (· = g) := (Kept.refl _ _).setRow (.inl rfl)
  have e1 := R0.ring.lt
  have e2 := R0.ring.keys.lt
  have e3 := R0.ring.signed.lt
  have e4 := R0.glob.r.lt
  have e5 := R0.glob.f.lt
  refine ⟨R.ring.keptS hk (by omega) (by omega) (by omega) (fun A n c hA hn => ?_), R.glob.kept hk (by omega) (by omega), R.ok⟩
  obtain ⟨A', cap, hA', _, _, k3⟩ := R0.ring.secIn
  rw [hA] at hA'
  injection hA' with a1 a2 a3
  subst a1
  obtain ⟨gb, ob, e, hc⟩ := k3 (by omega)
  injection e with e
  subst e
  have := World.block_lt_of_cell? _ _ (hc 0 (by omega))
  show gb ≠ g
  have h2 : gb < w.heap.size := this
  omega
theorem RG.keptNew {w y y' : World} {r b1 b2 : Nat} {sv : Value} {sec rc fc : List Int} {l0 l : List Pr} (R0 : RG w r b1 b2 sv sec rc fc l0) (R : RG y r b1 b2 sv sec rc fc l) {S : Nat → Prop} (hk : Kept y y' S) (hS : ∀ k, S k → w.heap.size ≤ k) : RG y' r b1 b2 sv sec rc fc l := by
  have e1 := R0.ring.lt
  have e2 := R0.ring.keys.lt
  have e3 := R0.ring.signed.lt
  have e4 := R0.glob.r.lt
  have e5 := R0.glob.f.lt
  refine ⟨R.ring.keptS hk (fun h => by have := hS _ h; omega) (fun h => by have := hS _ h; omega) (fun h => by have := hS _ h; omega) (fun A n c hA hn h => ?_), R.glob.kept hk (fun h => by have := hS _ h; omega) (fun h => by have := hS _ h; omega), R.ok⟩
  have h := hS _ h
  obtain ⟨A', cap, hA', _, _, k3⟩ := R0.ring.secIn
  rw [hA] at hA'
  injection hA' with a1 a2 a3
  subst a1
  obtain ⟨gb, ob, e, hc⟩ := k3 (by omega)
  injection e with e
  subst e
  have h2 : gb < w.heap.size := World.block_lt_of_cell? _ _ (hc 0 (by omega))
  have h3 : w.heap.size ≤ gb := h
  omega
/-- The two lists that the law itself keeps. -/
structure Lp (wr : World) (N : Nat) (va vs : Value) (al : List Pr) (rc fc sec : List Int) : Prop where
  all : wr.ownsRow N 35 33 va al.length (al.flatMap pc)
  seals : wr.ownsRow N 27 32 vs al.length ((al.map (sealF rc fc sec)).flatMap dc)
  ne : va.ownBlock ≠ vs.ownBlock
  ok : ∀ p ∈ al, PrOk p
theorem own_is_row {w : World} {base e size n : Nat} {v : Value} {xs : List Value} (h : w.ownsRow base e size v n xs) (hn : 0 < n) : ∃ g, v.ownBlock = some g ∧ ∃ cur : Array Value, w.heap[g]? = some (.cells cur e (0, 0)) := by
  rcases h.2 with ⟨_, h0⟩ | ⟨gp, cp, cur, h1, h2, h6, _⟩
  · omega
  · exact ⟨gp, by rw [h1]; rfl, cur, h6⟩
theorem cells_new (w : World) (l : List Value) (t : TypeId) : ∀ j u, l[j]? = some u → (w.alloc (.cells l.toArray t)).cell? ((⟨w.heap.size, 0, none⟩ : Addr).add j) = some u := by
  intro j u h
  rw [add_off, World.cell?_alloc_at _ _ _ _ rfl]
  simpa using h
theorem pc_one (p : Pr) : ∀ v ∈ pc p, v.oneCell' = true := by
  intro v hv
  rcases List.mem_cons.1 hv with rfl | hv
  · rfl
  · exact map_one _ _ v hv
theorem infoP : (Tryd.prog.info? 35).map (fun i => (i.zero.map (·.cells.size), i.size, i.bytes)) = some (some 33, 33, 40) := by kernel_rfl
theorem infoD : (Tryd.prog.info? 27).map (fun i => (i.zero.map (·.cells.size), i.size, i.bytes)) = some (some 32, 32, 32) := by kernel_rfl
theorem info_parts_n {P : Program} {t : TypeId} {n s b : Nat} (h : (P.info? t).map (fun i => (i.zero.map (·.cells.size), i.size, i.bytes)) = some (some n, s, b)) :
    ∃ i z, P.info? t = some i ∧ i.zero = some z ∧ z.cells.size = n ∧ i.size = s ∧ i.bytes = b := by
  cases hi : P.info? t with
  | none => simp [hi] at h
  | some i =>
    cases hz : i.zero with
    | none => simp [hi, hz] at h
    | some z =>
      simp only [hi, hz, Option.map_some, Option.some.injEq, Prod.mk.injEq] at h
      exact ⟨i, z, rfl, hz, h.1, h.2.1, h.2.2⟩
theorem wpList_convert_bytes {w : World} {ops : Array Oper} {rest : List Oper} {o : Oper} {a : Act} {Q : Exit → Act → World → Prop} (hgd : o.guard = none) (x : Operand) (hop : o.op = Op.convert 9 22 x) (s : ByteArray) (hx : a.eval x = .string s) (hs : s.size ≤ maxLen)
    (h : ∀ w' v, Below w.heap.size w w' → BytesIn w' v (byt s) → wpList Tryd.prog ops Q rest (a.put o.dst v) w') : wpList Tryd.prog ops Q (o :: rest) a w :=
  wpList_plain hgd fun _ hK => wp_convert_bytes x hop s hx hs (fun w' v h1 h2 => hK _ _ (h w' v h1 h2))
def d0 : List Int := 9 :: 9 :: List.replicate 30 0
theorem d0_ok : d0.length = 32 ∧ Byt d0 := ⟨by decide, by unfold Byt; decide⟩
end Go.Proofs.YthgebhndhilhkaaDoor
