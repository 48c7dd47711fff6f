/- Structs with arrays in them, built and compared. -/
import Derived.Test.YtckfdmkjeocadaaDoorRow
namespace Go.Proofs.YtckfdmkjeocadaaDoor
open Go.RowKit
theorem foldl_set (off : Nat) : ∀ (vs : List Value) (k : Nat) (cur : List Value), off + k + vs.length ≤ cur.length →
    (vs.zipIdx k).foldl (fun (cs : Array Value) (p : Value × Nat) => cs.setIfInBounds (off + p.2) p.1) cur.toArray = (splice cur (off + k) vs).toArray
  | [], k, cur, _ => by simp [splice]
  | v :: vs, k, cur, h => by
    rw [List.zipIdx_cons, List.foldl_cons, List.setIfInBounds_toArray, foldl_set off vs (k + 1) (cur.set (off + k) v) (by simp at h ⊢; omega), ← Nat.add_assoc, splice_cons _ _ _ _ (by simp at h; omega)]
theorem fill_cons {place : Nat → Option (Nat × Nat)} {cur : List Value} {i off size : Nat} {v : Value} {rest : List (Nat × Value)} (hp : place i = some (off, size)) (hs : v.cells.size = size) (hf : off + size ≤ cur.length) :
    Instr.fill place cur.toArray ((i, v) :: rest) = Instr.fill place (splice cur off v.cells.toList).toArray rest := by
  have h1 := foldl_set off v.cells.toList 0 cur (by rw [Array.length_toList, hs]; omega)
  rw [Nat.add_zero] at h1
  rw [Instr.fill, hp]
  simp only
  rw [if_neg (by simp [hs]; exact hf), ← h1, ← Array.foldl_toList, Array.toList_zipIdx]
theorem run_build_struct {P : Program} {t : TypeId} {fs : Array Field} {zero cells : List Value} {places : Array (Nat × Nat)} {parts : Array (Nat × Value)} (w : World) (hz : (zeroValue t).run P w = .ok (.agg zero.toArray) w) (hu : P.underlying t = some (.struct fs))
    (hp : (fs.mapM fun f => (do pure (f.offset, ← sizeOf f.type) : Sem (Nat × Nat))).run P w = .ok places w) (hf : Instr.fill (places[·]?) zero.toArray parts.toList = some cells.toArray) :
    (Instr.build t parts).run P w = .ok (.agg cells.toArray) w := by
  unfold Instr.build
  simp only [Sem.run_bind, hz, Result.andThen_ok, run_underlying hu, hp, Value.cells, hf, Sem.run_pure]
/-- a struct is built, its value known -/
theorem wpList_build {P : Program} {ops : Array Oper} {rest : List Oper} {o : Oper} {a : Act} {w : World} {Q : Exit → Act → World → Prop} (hgd : o.guard = none) (t : TypeId) (parts : List (Nat × Operand)) (ho : o.op = .build t parts.toArray) (vs : List (Nat × Value)) (v : Value)
    (hv : parts.map (fun x => (x.1, a.eval x.2)) = vs) (hrun : (Instr.build t vs.toArray).run P w = .ok v w)
    (h : wpList P ops Q rest (a.put o.dst v) w) : wpList P ops Q (o :: rest) a w := by
  refine wpList_plain hgd fun K hK => ?_
  unfold Oper.wp execOp
  subst hv
  simp only [ho, List.map_toArray, Sem.run_bind, hrun, Result.andThen_ok, Sem.run_pure]
  exact hK _ _ h
def laneC (r u : Int) (h : List UInt8) : List Value := .int .i64 r :: .int .i64 u :: u8s h
abbrev zl34 : List Value := .int .i64 0 :: .int .i64 0 :: zl32
end Go.Proofs.YtckfdmkjeocadaaDoor
