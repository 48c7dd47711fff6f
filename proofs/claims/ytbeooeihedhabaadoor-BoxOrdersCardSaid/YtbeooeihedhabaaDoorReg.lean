/- Regions that draw, taken by hand: rows; texts of bytes. -/
import Derived.Test.YtbeooeihedhabaaDoorRowB
import Derived.Test.YtbeooeihedhabaaDoorNums
import Derived.Test.YtbeooeihedhabaaDoorCReg
import Derived.Test.YtbeooeihedhabaaDoorCBuf
import Derived.Deep.RegionHeld3
namespace Go.Proofs.YtbeooeihedhabaaDoor
open Go.RowKit
section
variable {P : Program} {md : Region.Mode} {ops : Array Oper} {Q : Exit → Act → World → Prop} {S : World → Prop}
end
/-- []byte(s) -/
theorem conv_bytes {P : Program} {src dst e : TypeId} (hs : P.underlying src = some .string) (hd : P.underlying dst = some (.slice e)) (he : P.underlying e = some (.int .u8)) (w : World) (s : ByteArray) :
    ∃ c W, (convert src dst (.string s)).run P w = .ok (.slice (some ⟨w.heap.size, 0, none⟩) s.size c) W ∧ Below w.heap.size w W ∧ W.heap.size = w.heap.size + 1 ∧ ∃ rest fr, W.heap[w.heap.size]? = some (.cells (u8s s.data.toList ++ rest).toArray e fr) := by
  refine ⟨_, _, run_bytes_of_string w src dst e s hs hd he, ?_, ?_, List.replicate (grownCap w s.size 0 e - s.size) (.int .u8 0), ((bytesRow s (grownCap w s.size 0 e)).size, (bytesRow s (grownCap w s.size 0 e)).size + 1), ?_⟩
  · exact ((Below.refl _ _).drew).alloc (Nat.le_refl _) _
  · show (w.heap.push _).size = _
    simp
  · show (w.heap.push _)[w.heap.size]? = _
    rw [Array.getElem?_push_size]
    congr 2
    unfold bytesRow u8s
    apply Array.ext'
    simp
/-- a row that a region holds, loaded ahead -/
theorem rg_row {P : Program} {md : Region.Mode} {ops : Array Oper} {Q : Exit → Act → World → Prop} {S : World → Prop} {i : Nat} {oi : Oper} {t : Tmp} {fuel : Nat} {listed : Array Bool} {a : Act} {w : World} (hi : ops[i]? = some oi)
    (hs : Region.noSelect ops = true) (hf : Region.free md ops listed i = true) (hr : (Region.ready md ops listed).contains i = true)
    (hQ : ∀ c a v w, Q (.panic c) (a.put oi.dst v) w → Q (.panic c) a w) (hd : oi.dst = some t) (hw : Region.wanted oi (yielded ops a.tmps) = true) (ty : TypeId) (x : Operand) (ho : oi.op = .load ty x) (b f : Nat) (cs : List Value) {d : TypeDesc} (hx : a.eval x = .pointer (some ⟨b, f, none⟩))
    (hrg : ∀ W, S W → W.rangeAt b f cs) (hu : P.underlying ty = some d) (hrow : d.isRow = true) (hinfo : (P.info? ty).map (·.size) = some cs.length) (hS : S w)
    (h : wpAnyH P md ops Q S fuel (listed.setIfInBounds i true) (a.put (some t) (.agg cs.toArray)) w) : wpAnyH P md ops Q S (fuel + 1) listed a w :=
  wpAnyH_take hi hs hf hr (fun c a w => hQ c a _ w) (yieldsIf_load_mid hw ty x ho b f hx cs d hrg hu hrow hinfo) hS (by rw [hd]; exact h)
theorem news_at {W : World} {cs : List Value} {t : TypeId} : ∀ j u, cs[j]? = some u → (W.alloc (.cells cs.toArray t)).cell? ((⟨W.heap.size, 0, none⟩ : Addr).add j) = some u := fun j u hj => by
  have hadd : (⟨W.heap.size, 0, none⟩ : Addr).add j = ⟨W.heap.size, j, none⟩ := by unfold Addr.add; split <;> simp_all
  rw [hadd, cell_of_row _ W.heap.size j _ _ _ (heap_alloc_new W _), List.getElem?_toArray]
  exact hj
theorem own_all {W : World} {cs : List Value} {n : Nat} (hn : cs.length = n) (hm : n ≤ maxLen) : (W.alloc (.cells cs.toArray 9)).ownsRow W.heap.size 9 1 (.slice (some ⟨W.heap.size, 0, none⟩) n n) n cs :=
  ⟨by omega, .inr ⟨_, n, cs.toArray, rfl, Nat.le_refl _, heap_alloc_new W _, Nat.le_refl _, hm, by simpa using hn, by rw [Nat.mul_one, ← hn, List.take_length]⟩⟩
theorem strs_cells (ls : List ByteArray) : ∀ u ∈ strs ls, u.oneCell' = true := by
  intro u hu
  obtain ⟨x, _, rfl⟩ := List.mem_map.1 hu
  rfl
abbrev zn64 : List Int := [0, 0, 0, 0, 0, 0, 0, 0, 0, 0, 0, 0, 0, 0, 0, 0, 0, 0, 0, 0, 0, 0, 0, 0, 0, 0, 0, 0, 0, 0, 0, 0, 0, 0, 0, 0, 0, 0, 0, 0, 0, 0, 0, 0, 0, 0, 0, 0, 0, 0, 0, 0, 0, 0, 0, 0, 0, 0, 0, 0, 0, 0, 0, 0]end Go.Proofs.YtbeooeihedhabaaDoor
