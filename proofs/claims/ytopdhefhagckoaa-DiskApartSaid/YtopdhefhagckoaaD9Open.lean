/- What is read of a cavalcadelaw09.Act, of a []cavalcadelaw09.Act, of a []int: plain openings. -/
import Derived.Test.YtopdhefhagckoaaRd
import Derived.Test.YtopdhefhagckoaaDSteps
namespace Go.Proofs.Ytopdhefhagckoaa
open Go.ChangeShapes Go.WideShapes Go.RowKit
set_option maxRecDepth 4000
/-- a call of the law's, with its slice's value -/
structure A9 where
  a : AC
  v : Value
def A9.cells (x : A9) : List Value := [.int .i64 x.a.kind, .string x.a.name, .string x.a.to_, .string x.a.s, .int .i64 x.a.n, x.v]
/-- what the law's walk wants of it -/
structure A9.ok (w : World) (x : A9) : Prop where
  name : x.a.name.size ≤ 140737488351232
  to_ : x.a.to_.size ≤ 140737488351232
  s : x.a.s.size ≤ 140737488351232
  n : x.a.n ≤ 9223372036854775807
  keep : RdIn w x.v (x.a.keep.map fun k => .int .i64 k) (fun b => b < w.heap.size)
instance : Inhabited A9 := ⟨⟨⟨0, ByteArray.empty, ByteArray.empty, ByteArray.empty, 0, []⟩, .slice none 0 0⟩⟩
section
variable {H : Type} {enc : TypeId × Value → H} {w : World} {sp : Nat → Bool} {held : Bool}
theorem ints_of_trod {fuel : Nat} {v : Value} {x : DataW H × List MemPlace} (h : DataW.trod enc Try.prog w 0 sp held fuel 32 [v] = some x) : ∃ ks : List Int, RdIn w v (ks.map fun k => .int .i64 k) (fun b => b < w.heap.size) := by
  rcases rd_slice1 (α := Int) (cell := fun k => .int .i64 k) (R := fun _ _ => True) Try.underlying32 (by kernel_rfl) (fun n c y h => by obtain ⟨k, hk, _⟩ := rd_int h; exact ⟨k, hk, trivial⟩) h with ⟨rfl, _⟩ | ⟨ks, es, rest, h1, _⟩
  · exact ⟨[], RdIn.nil w _⟩
  · exact ⟨ks, h1⟩
/-- what is known of a call that was read -/
def A9.read (w : World) (d : DataW H) (x : A9) : Prop := x.a.n ≤ 9223372036854775807 ∧ RdIn w x.v (x.a.keep.map fun k => .int .i64 k) (fun b => b < w.heap.size) ∧
  ∃ ad, d = .agg ad ∧ ad[1]? = some (.lit (.string x.a.name.data.toList)) ∧ ad[2]? = some (.lit (.string x.a.to_.data.toList)) ∧ ad[3]? = some (.lit (.string x.a.s.data.toList))
theorem a9_of_trod {fuel : Nat} {cs : List Value} {y : DataW H × List MemPlace} (h : DataW.trod enc Try.prog w 0 sp held fuel 36 cs = some y) : ∃ x : A9, cs = x.cells ∧ A9.read w y.1 x := by
  obtain ⟨n, xs, hl, hlx, rfl, hx⟩ := rd_struct Try.underlying36 h
  have hc1 : Try.prog.cellsOf 3 = 1 := by kernel_rfl
  have hc2 : Try.prog.cellsOf 9 = 1 := by kernel_rfl
  have hc3 : Try.prog.cellsOf 32 = 1 := by kernel_rfl
  rw [show Try.prog.cellsOf 36 = 6 by kernel_rfl] at hl
  have hlx6 : xs.length = 6 := hlx
  match cs, hl with
  | [c0, c1, c2, c3, c4, c5], _ =>
    have e0 := hx 0 _ rfl
    have e1 := hx 1 _ rfl
    have e2 := hx 2 _ rfl
    have e3 := hx 3 _ rfl
    have e4 := hx 4 _ rfl
    have e5 := hx 5 _ rfl
    simp only [hc1, hc2, hc3] at e0 e1 e2 e3 e4 e5
    rw [List.getElem?_eq_getElem (by omega)] at e0 e1 e2 e3 e4 e5
    obtain ⟨k, rfl, y0, _⟩ := rd_int e0
    obtain ⟨s1, rfl, y1⟩ := rd_str e1
    obtain ⟨s2, rfl, y2⟩ := rd_str e2
    obtain ⟨s3, rfl, y3⟩ := rd_str e3
    obtain ⟨n4, rfl, y4, _, hn⟩ := rd_int e4
    obtain ⟨ks, hks⟩ := ints_of_trod e5
    refine ⟨⟨⟨k, s1, s2, s3, n4, ks⟩, c5⟩, rfl, hn, hks, _, rfl, ?_, ?_, ?_⟩
    · rw [List.getElem?_map, List.getElem?_eq_getElem (by omega)]
      exact congrArg (fun q : DataW H × List MemPlace => some q.1) y1
    · rw [List.getElem?_map, List.getElem?_eq_getElem (by omega)]
      exact congrArg (fun q : DataW H × List MemPlace => some q.1) y2
    · rw [List.getElem?_map, List.getElem?_eq_getElem (by omega)]
      exact congrArg (fun q : DataW H × List MemPlace => some q.1) y3
theorem A9.ok_of {d : DataW H} {x : A9} (h : A9.read w d x) (hw : ∀ n ∈ d.weights Try.prog 36, n ≤ 140737488351232) : x.ok w := by
  obtain ⟨hn, hk, ad, rfl, h1, h2, h3⟩ := h
  have b1 := hw _ (rd_field Try.underlying36 (j := 1) rfl h1 (rd_str_w _))
  have b2 := hw _ (rd_field Try.underlying36 (j := 2) rfl h2 (rd_str_w _))
  have b3 := hw _ (rd_field Try.underlying36 (j := 3) rfl h3 (rd_str_w _))
  rw [Array.length_toList] at b1 b2 b3
  exact ⟨b1, b2, b3, hn, hk⟩
/-- an argument that is a call -/
theorem a9_open {cs : Array Value} {d : DataW H} {p : List MemPlace} {ts : List TypeId} {ds : List (DataW H)} (h : DataW.Trod enc Try.prog w 0 (fun _ => true) true 36 (.agg cs) d p)
    (hsz : ∀ n ∈ DataW.weightsEach Try.prog ts ds, decide (n ≤ reachBytes) = true) {j : Nat} (ht : ts[j]? = some 36) (hd : ds[j]? = some d) : ∃ x : A9, cs = x.cells.toArray ∧ x.ok w := by
  obtain ⟨fuel, hf⟩ := h
  obtain ⟨x, hx, hr⟩ := a9_of_trod hf
  exact ⟨x, Array.ext' hx, A9.ok_of hr fun n hn => of_decide_eq_true (hsz _ (DataW.weights_mem_each ht hd _ hn))⟩
/-- an argument that is calls -/
theorem as9_open {v : Value} {d : DataW H} {p : List MemPlace} {ts : List TypeId} {ds : List (DataW H)} (h : DataW.Trod enc Try.prog w 0 (fun _ => true) true 34 v d p)
    (hsz : ∀ n ∈ DataW.weightsEach Try.prog ts ds, decide (n ≤ reachBytes) = true) {j : Nat} (ht : ts[j]? = some 34) (hd : ds[j]? = some d) (hv : ∃ a len cap, v = .slice a len cap) :
    ∃ l : List A9, RdRows w v 6 (l.map A9.cells) (fun b => b < w.heap.size) ∧ ∀ x ∈ l, x.ok w := by
  obtain ⟨fuel, hf⟩ := h
  obtain ⟨q0, l0, c0, rfl⟩ := hv
  rcases rd_slice (α := A9) (cells := A9.cells) (R := A9.read w) Try.underlying34 (sz := 6) (by kernel_rfl) (by decide) (fun _ => rfl) (fun n cs y h => a9_of_trod h) hf with ⟨h1, _⟩ | ⟨l, es, rest, h1, h2, h3⟩
  · rw [h1]
    exact ⟨[], RdRows.nil w 6 _, by simp⟩
  · refine ⟨l, h1, fun x hx => ?_⟩
    obtain ⟨d1, hd1, hr⟩ := h3 x hx
    have h2' : d = .slice es rest := h2
    exact A9.ok_of hr fun n hn => of_decide_eq_true (hsz _ (DataW.weights_mem_each ht hd _ (by rw [h2']; exact rd_weights Try.underlying34 hd1 hn)))
/-- an argument that is ints -/
theorem ints_open {v : Value} {d : DataW H} {p : List MemPlace} (h : DataW.Trod enc Try.prog w 0 (fun _ => true) true 32 v d p) (hv : ∃ a len cap, v = .slice a len cap) : ∃ ks : List Int, RdIn w v (ks.map fun k => .int .i64 k) (fun b => b < w.heap.size) := by
  obtain ⟨fuel, hf⟩ := h
  obtain ⟨q0, l0, c0, rfl⟩ := hv
  exact ints_of_trod hf
end
end Go.Proofs.Ytopdhefhagckoaa
