/- A region that draws, taken by hand. -/
import Derived.Test.YtbeooeihedhabaaDoorRowB
import Derived.Deep.RegionHeld3
namespace Go.Proofs.YtbeooeihedhabaaDoor
open Go.RowKit
section
variable {P : Program} {md : Region.Mode} {ops : Array Oper} {Q : Exit → Act → World → Prop} {S : World → Prop}
/-- an operation that only reads is taken first -/
theorem rg_take {i : Nat} {oi : Oper} {v : Value} {t : Tmp} {fuel : Nat} {listed : Array Bool} {a : Act} {w : World} (hi : ops[i]? = some oi)
    (hs : Region.noSelect ops = true) (hf : Region.free md ops listed i = true) (hr : (Region.ready md ops listed).contains i = true)
    (hQ : ∀ c a w, Q (.panic c) (a.put oi.dst v) w → Q (.panic c) a w) (hd : oi.dst = some t) (hw : Region.wanted oi (yielded ops a.tmps) = true) {s : Sem Value} (he : execOp a.eval oi = (do pure (.value (← s)))) (hy : ∀ w, S w → s.run P w = .ok v w) (hS : S w)
    (h : wpAnyH P md ops Q S fuel (listed.setIfInBounds i true) (a.put (some t) v) w) : wpAnyH P md ops Q S (fuel + 1) listed a w :=
  wpAnyH_take hi hs hf hr hQ (Or.inl ⟨hw, fun w hw => by rw [he]; simp only [Sem.run_bind, hy w hw, Result.andThen_ok, Sem.run_pure]⟩) hS (by rw [hd]; exact h)
/-- .. whatever it is -/
theorem rg_gen {i : Nat} {oi : Oper} {v : Value} {t : Tmp} {fuel : Nat} {listed : Array Bool} {a : Act} {w : World} (hi : ops[i]? = some oi)
    (hs : Region.noSelect ops = true) (hf : Region.free md ops listed i = true) (hr : (Region.ready md ops listed).contains i = true)
    (hQ : ∀ c a w, Q (.panic c) (a.put oi.dst v) w → Q (.panic c) a w) (hd : oi.dst = some t) (hw : Region.wanted oi (yielded ops a.tmps) = true) (hy : ∀ w, S w → (execOp a.eval oi).run P w = .ok (.value v) w) (hS : S w)
    (h : wpAnyH P md ops Q S fuel (listed.setIfInBounds i true) (a.put (some t) v) w) : wpAnyH P md ops Q S (fuel + 1) listed a w :=
  wpAnyH_take hi hs hf hr hQ (Or.inl ⟨hw, hy⟩) hS (by rw [hd]; exact h)
/-- .. a move -/
theorem rg_move {i : Nat} {oi : Oper} {v : Value} {t : Tmp} {x : Operand} {fuel : Nat} {listed : Array Bool} {a : Act} {w : World} (hi : ops[i]? = some oi)
    (hs : Region.noSelect ops = true) (hf : Region.free md ops listed i = true) (hr : (Region.ready md ops listed).contains i = true)
    (hQ : ∀ c a w, Q (.panic c) (a.put oi.dst v) w → Q (.panic c) a w) (hd : oi.dst = some t) (hw : Region.wanted oi (yielded ops a.tmps) = true) (he : oi.op = .move x) (hy : a.eval x = v) (hS : S w)
    (h : wpAnyH P md ops Q S fuel (listed.setIfInBounds i true) (a.put (some t) v) w) : wpAnyH P md ops Q S (fuel + 1) listed a w :=
  wpAnyH_take hi hs hf hr hQ (Or.inl ⟨hw, fun w _ => by unfold execOp; simp only [he, hy, Sem.run_pure]⟩) hS (by rw [hd]; exact h)
/-- an operation is carried out where it comes up -/
theorem rg_step {o : Oper} {a : Act} {w w' : World} {K : Act → World → Prop} {v : Value} {t : Tmp} (hw : Region.wanted o (yielded ops a.tmps) = true) (hd : o.dst = some t) {s : Sem Value} (he : execOp a.eval o = (do pure (.value (← s)))) (hy : s.run P w = .ok v w')
    (h : K (a.put (some t) v) w') : if Region.wanted o (yielded ops a.tmps) = true then Oper.wp P o a w K Q else K (a.put o.dst undef) w := by
  rw [if_pos hw]
  unfold Oper.wp
  rw [he]
  simp only [Sem.run_bind, hy, Result.andThen_ok, Sem.run_pure, Oper.upon]
  rw [hd]
  exact h
/-- a row is loaded where it comes up -/
theorem rg_load {o : Oper} {a : Act} {w : World} {K : Act → World → Prop} {tt : Tmp} (hw : Region.wanted o (yielded ops a.tmps) = true) (hdst : o.dst = some tt) (ty : TypeId) (x : Operand) (ho : o.op = .load ty x) (b f : Nat) (cs cur : List Value) (t : TypeId) (fr : Nat × Nat) (d : TypeDesc)
    (hx : a.eval x = .pointer (some ⟨b, f, none⟩)) (hg : w.heap[b]? = some (.cells cur.toArray t fr)) (hc : ∀ j v, cs[j]? = some v → cur[f + j]? = some v)
    (hu : P.underlying ty = some d) (hd : d.isRow = true) (hi : (P.info? ty).map (·.size) = some cs.length)
    (h : K (a.put (some tt) (.agg cs.toArray)) w) : if Region.wanted o (yielded ops a.tmps) = true then Oper.wp P o a w K Q else K (a.put o.dst undef) w := by
  rw [if_pos hw]
  exact wp_load_mid ty x ho b f hx cs d (range_row hg hc) hu hd hi (by rw [hdst]; exact h)
/-- a whole block is stored into where it comes up -/
theorem rg_store {o : Oper} {a : Act} {w : World} {K : Act → World → Prop} (hw : Region.wanted o (yielded ops a.tmps) = true) (hdst : o.dst = none) (ty : TypeId) (x y : Operand) (ho : o.op = .store ty x y) (b : Nat) (cells cur : List Value) (t : TypeId)
    (hx : a.eval x = .pointer (some ⟨b, 0, none⟩)) (hy : a.eval y = .agg cells.toArray) (hg : w.heap[b]? = some (.cells cur.toArray t (0, 0))) (hl : cells.length = cur.length)
    (hi : (P.info? ty).map (·.size) = some cells.length) (h1 : ∀ v ∈ cells, v.oneCell' = true)
    (h : ∀ w', Upd w w' b (.cells cells.toArray t (0, 0)) → K a w') : if Region.wanted o (yielded ops a.tmps) = true then Oper.wp P o a w K Q else K (a.put o.dst undef) w := by
  rw [if_pos hw]
  refine wp_store_mid ty x y ho b 0 cells.toArray hx hy (there_row hg (by simp only [List.size_toArray]; omega)) (by simpa using hi) (all_oneCell_toArray h1) ?_
  rw [hdst]
  have hU := upd_setCells (o := 0) (vs := cells) hg (by omega)
  rw [splice_all _ _ hl] at hU
  exact h _ hU
/-- a struct is built as soon as it can be -/
theorem rg_build {i : Nat} {oi : Oper} {v : Value} {t : Tmp} {fuel : Nat} {listed : Array Bool} {a : Act} {w : World} (hi : ops[i]? = some oi)
    (hs : Region.noSelect ops = true) (hf : Region.free md ops listed i = true) (hr : (Region.ready md ops listed).contains i = true)
    (hQ : ∀ c a w, Q (.panic c) (a.put oi.dst v) w → Q (.panic c) a w) (hd : oi.dst = some t) (hw : Region.wanted oi (yielded ops a.tmps) = true) (ty : TypeId) (parts : List (Nat × Operand)) (ho : oi.op = .build ty parts.toArray) (vs : List (Nat × Value))
    (hv : parts.map (fun x => (x.1, a.eval x.2)) = vs) (hrun : ∀ w, (Instr.build ty vs.toArray).run P w = .ok v w) (hS : S w)
    (h : wpAnyH P md ops Q S fuel (listed.setIfInBounds i true) (a.put (some t) v) w) : wpAnyH P md ops Q S (fuel + 1) listed a w :=
  wpAnyH_take hi hs hf hr hQ (Or.inl ⟨hw, fun w _ => by
    unfold execOp
    subst hv
    simp only [ho, List.map_toArray, Sem.run_bind, hrun, Result.andThen_ok, Sem.run_pure]⟩) hS (by rw [hd]; exact h)
theorem rg_one {i : Nat} {o : Oper} {fuel : Nat} {listed : Array Bool} {a : Act} {w : World} (hr : Region.ready md ops listed = [i]) (ho : ops[i]? = some o)
    (h : ∀ K' : Act → World → Prop, Shut (∀ a w, S w → (S w → wpAnyH P md ops Q S fuel (listed.setIfInBounds i true) a w) → K' a w) → if Region.wanted o (yielded ops a.tmps) = true then Oper.wp P o a w K' Q else K' (a.put o.dst undef) w) :
    wpAnyH P md ops Q S (fuel + 1) listed a w := wpAnyH_ready hr (by simp) (AllReadyH.cons ho h AllReadyH.nil)
end
end Go.Proofs.YtbeooeihedhabaaDoor
