/- Regions that draw their order: reads are taken first; what writes goes in each order. -/
import Derived.OrdersHeld
import Derived.Deep.MidRow
import Derived.Deep.RegionHeld3
import Derived.BigFrame
namespace Go.Proofs.YthgebhndhilhkaaDoor
open Go
section
variable {P : Program} {l : List Oper} {md : Region.Mode} {Q : Exit → Act → World → Prop} {S : World → Prop}

theorem reg_start (S : World → Prop) {id : Nat} {a : Act} {w : World} (hm : P.follows .mixedOrders = true)
    (h : wpAnyH P .any l.toArray Q S l.length (Array.replicate l.length false) a w.drew) : (Code.region id l.toArray true).wp P Q a w := wp_region_held hm (by simpa using h)
theorem reg_take (i : Nat) {oi : Oper} {v : Value} {fuel : Nat} {listed : Array Bool} {a : Act} {w : World} (hi : l[i]? = some oi) (hs : Region.noSelect l.toArray = true)
    (hf : Region.free md l.toArray listed i = true) (hr : (Region.ready md l.toArray listed).contains i = true)
    (hQ : ∀ c a w, Q (.panic c) (a.put oi.dst v) w → Q (.panic c) a w) (hS : S w) (hy : YieldsIf P l.toArray S oi v a)
    (h : wpAnyH P md l.toArray Q S fuel (listed.setIfInBounds i true) (a.put oi.dst v) w) : wpAnyH P md l.toArray Q S (fuel + 1) listed a w :=
  wpAnyH_take (by simpa using hi) hs hf hr hQ hy hS h
theorem yield_val {oi : Oper} {v : Value} {a : Act} (hw : Region.wanted oi (yielded l.toArray a.tmps) = true) (h : ∀ w, S w → (execOp a.eval oi).run P w = .ok (.value v) w) : YieldsIf P l.toArray S oi v a := .inl ⟨hw, h⟩
theorem yield_not {oi : Oper} {a : Act} (hw : Region.wanted oi (yielded l.toArray a.tmps) = false) : YieldsIf P l.toArray S oi undef a := .inr ⟨hw, rfl⟩
theorem reg_one (i : Nat) {fuel : Nat} {listed : Array Bool} {a : Act} {w : World} (hr : Region.ready md l.toArray listed = [i])
    (h : wpOp P l.toArray Q i (fun a' w' => S w' ∧ wpAnyH P md l.toArray Q S fuel (listed.setIfInBounds i true) a' w') a w) : wpAnyH P md l.toArray Q S (fuel + 1) listed a w :=
  wpAnyH_all hr (by simp) (by simpa using h)
theorem reg_two (i j : Nat) {fuel : Nat} {listed : Array Bool} {a : Act} {w : World} (hr : Region.ready md l.toArray listed = [i, j])
    (h1 : wpOp P l.toArray Q i (fun a' w' => S w' ∧ wpAnyH P md l.toArray Q S fuel (listed.setIfInBounds i true) a' w') a w)
    (h2 : wpOp P l.toArray Q j (fun a' w' => S w' ∧ wpAnyH P md l.toArray Q S fuel (listed.setIfInBounds j true) a' w') a w) : wpAnyH P md l.toArray Q S (fuel + 1) listed a w :=
  wpAnyH_all hr (by simp) (by simp [h1, h2])
theorem reg_done {listed : Array Bool} {a : Act} {w : World} {fuel : Nat} (hr : Region.ready md l.toArray listed = []) (h : Q .normal a w) : wpAnyH P md l.toArray Q S fuel listed a w :=
  wpAnyH_done hr h fuel
theorem gload_row {rest : List Oper} {op : Oper} {ops : Array Oper} {a : Act} {w : World} (hw : Region.wanted op (yielded ops a.tmps) = true) (ty : TypeId) (x : Operand) (ho : op.op = .load ty x)
    (b : Nat) (hx : a.eval x = .pointer (some ⟨b, 0, none⟩)) (cs : Array Value) (t : TypeId) (hb : w.heap[b]? = some (.cells cs t (0, 0))) (d : TypeDesc)
    (hu : P.underlying ty = some d) (hd : d.isRow = true) (hi : (P.info? ty).map (·.size) = some cs.size)
    (h : wpList P ops Q rest (a.put op.dst (.agg cs)) w) : wpList P ops Q (op :: rest) a w :=
  Go.BigFrame.wpList_want hw fun K hK => wp_load_mid ty x ho b 0 hx cs.toList d (fun j v hv => by
    have : w.cell? ⟨b, 0 + j, none⟩ = cs[j]? := by
      simp [World.cell?, hb]
    rw [this]; simpa using hv) hu hd (by simpa using hi) (hK _ _ h)
variable {K : Act → World → Prop}
theorem op_wp {i : Nat} {oi : Oper} {a : Act} {w : World} (hi : l[i]? = some oi) (hw : Region.wanted oi (yielded l.toArray a.tmps) = true) (h : oi.wp P a w K Q) : wpOp P l.toArray Q i K a w := by
  unfold wpOp
  have hi' : l.toArray[i]? = some oi := by simpa using hi
  simp only [hi', hw, if_true]
  exact .inl h
theorem op_val {i : Nat} {oi : Oper} {v : Value} {a : Act} {w w' : World} (hi : l[i]? = some oi) (hw : Region.wanted oi (yielded l.toArray a.tmps) = true)
    (hrun : (execOp a.eval oi).run P w = .ok (.value v) w') (h : K (a.put oi.dst v) w') : wpOp P l.toArray Q i K a w := by
  unfold wpOp
  have hi' : l.toArray[i]? = some oi := by simpa using hi
  simp only [hi', hw, if_true, Oper.wp, hrun, Oper.upon]
  exact .inl h
theorem op_skip {i : Nat} {oi : Oper} {a : Act} {w w' : World} (hi : l[i]? = some oi) (hw : Region.wanted oi (yielded l.toArray a.tmps) = true)
    (hrun : (execOp a.eval oi).run P w = .ok .skip w') (h : K (a.put oi.dst undef) w') : wpOp P l.toArray Q i K a w := by
  unfold wpOp
  have hi' : l.toArray[i]? = some oi := by simpa using hi
  simp only [hi', hw, if_true, Oper.wp, hrun, Oper.upon]
  exact .inl h
theorem op_call {i : Nat} {oi : Oper} {a : Act} {w : World} {f : FuncId} {args : Array Value} (hi : l[i]? = some oi) (hw : Region.wanted oi (yielded l.toArray a.tmps) = true)
    (hrun : (execOp a.eval oi).run P w = .ok (.enter f args) w) (R : Ending → World → Prop) (hc : Calls P f args w R) (h : ∀ e w', R e w' → ∃ v, e = .returned v ∧ K (a.put oi.dst v) w') : wpOp P l.toArray Q i K a w := by
  unfold wpOp
  have hi' : l.toArray[i]? = some oi := by simpa using hi
  simp only [hi', hw, if_true, Oper.wp, hrun, Oper.upon]
  refine .inl (hc.mono fun e w' he => ?_)
  obtain ⟨v, rfl, hk⟩ := h e w' he
  exact hk
end
end Go.Proofs.YthgebhndhilhkaaDoor
