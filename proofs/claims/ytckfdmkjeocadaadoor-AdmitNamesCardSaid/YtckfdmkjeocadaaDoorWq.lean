/- A quiet walk behind a name; rows that another block's turn leaves alone. -/
import Derived.Test.YtckfdmkjeocadaaDoorLogAdd
namespace Go.Proofs.YtckfdmkjeocadaaDoor
open Go.RowKit
set_option maxHeartbeats 1000000
/-- a quiet walk behind a name: the kernel does not open it -/
structure WQ (P : Program) (ops : Array Oper) (C : World → Prop) (Q : Act → Prop) (l : List Oper) (a : Act) : Prop where
  out : wpQuiet P ops C Q l a
section
variable {P : Program} {ops : Array Oper} {C : World → Prop} {Q : Act → Prop} {a : Act} {o : Oper} {rest : List Oper}
theorem WQ.gen {v : Value} (hw : Region.wanted o (yielded ops a.tmps) = true) (hr : ∀ w, C w → (execOp a.eval o).run P w = .ok (.value v) w) (h : WQ P ops C Q rest (a.put o.dst v)) : WQ P ops C Q (o :: rest) a := ⟨wq_gen hw hr h.out⟩
theorem WQ.skip (hw : Region.wanted o (yielded ops a.tmps) = false) (h : WQ P ops C Q rest (a.put o.dst undef)) : WQ P ops C Q (o :: rest) a := ⟨wq_skip hw h.out⟩
theorem WQ.call {v : Value} {f : FuncId} {args : Array Value} (hw : Region.wanted o (yielded ops a.tmps) = true) (hr : ∀ w, C w → (execOp a.eval o).run P w = .ok (.enter f args) w)
    (hc : ∀ w, C w → Calls P f args w fun e w' => e = .returned v ∧ C w') (h : WQ P ops C Q rest (a.put o.dst v)) : WQ P ops C Q (o :: rest) a := ⟨wq_call hw hr hc h.out⟩
theorem WQ.load (hw : Region.wanted o (yielded ops a.tmps) = true) (ty : TypeId) (x : Operand) (ho : o.op = .load ty x) (b f : Nat) (cs : List Value) (d : TypeDesc) (hx : a.eval x = .pointer (some ⟨b, f, none⟩)) (hC : ∀ w, C w → w.rangeAt b f cs)
    (hu : P.underlying ty = some d) (hd : d.isRow = true) (hi : (P.info? ty).map (·.size) = some cs.length) (h : WQ P ops C Q rest (a.put o.dst (.agg cs.toArray))) : WQ P ops C Q (o :: rest) a := ⟨wq_load hw ty x ho b f cs d hx hC hu hd hi h.out⟩
theorem WQ.bin (hw : Region.wanted o (yielded ops a.tmps) = true) (op : BinOp) (t t2 : TypeId) (x y : Operand) (ho : o.op = .binOp op t x y t2) (u v r : Value) (hx : a.eval x = u) (hy : a.eval y = v) (hg : ∀ w, (eqGuard op t x y u v).run P w = .ok () w)
    (hrun : ∀ w, (binOp op t u v).run P w = .ok r w) (h : WQ P ops C Q rest (a.put o.dst r)) : WQ P ops C Q (o :: rest) a := ⟨wq_bin hw op t t2 x y ho u v r hx hy hg hrun h.out⟩
theorem WQ.nil (h : Q a) : WQ P ops C Q [] a := ⟨h⟩
theorem WQ.eq {l : List Oper} {a' : Act} (ha : a = a') (h : WQ P ops C Q l a') : WQ P ops C Q l a := ha ▸ h
end
theorem wp_region_classW {P : Program} {id : Nat} {Q : Exit → Act → World → Prop} {a : Act} {w : World} {l : List Oper} (C : World → Prop) (hm : P.follows .mixedOrders = true) (hB : Region.lexB .any l.toArray = true) (hC : C w.drew)
    (h : WQ P l.toArray C (fun a' => ∀ w', C w' → Q .normal a' w') l a) : (Code.region id l.toArray true).wp P Q a w := wp_region_class C hm hB hC h.out
theorem own_other {W W' : World} {base n size : Nat} {e : TypeId} {v : Value} {xs : List Value} (h : W.ownsRow base e size v n xs) (hb : ∀ k, v.ownBlock = some k → W'.heap[k]? = W.heap[k]?) : W'.ownsRow base e size v n xs := by
  refine ⟨h.1, ?_⟩
  rcases h.2 with h2 | ⟨g, cap, cur, h1, h2, h3, r⟩
  · exact .inl h2
  · exact .inr ⟨g, cap, cur, h1, h2, (hb g (by rw [h1]; rfl)).trans h3, r⟩
theorem LgAt.other {W W' : World} {base l : Nat} {sv : Value} {rs : List RC} {nx : List Int} (h : LgAt W base l sv rs nx) (hl : W'.heap[l]? = W.heap[l]?) (hb : ∀ k, sv.ownBlock = some k → W'.heap[k]? = W.heap[k]?) : LgAt W' base l sv rs nx :=
  ⟨h.len, hl.trans h.row, own_other h.own hb, h.wf, h.lt, h.small, h.nxb⟩
theorem rc_alloc (w : World) : (Instr.alloc 61 true (.tuple #[])).run Tryd.prog w = .ok (.pointer (some ⟨w.heap.size, 0, none⟩)) (w.alloc (.cells zlRc.toArray 61)) := by
  unfold Instr.alloc
  simp only [Sem.run_bind, rc_zero, Result.andThen_ok]
  rfl
end Go.Proofs.YtckfdmkjeocadaaDoor
