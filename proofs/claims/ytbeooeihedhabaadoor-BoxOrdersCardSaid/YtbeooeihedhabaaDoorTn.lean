/- A world turned in some blocks alone. -/
import Derived.Test.YtbeooeihedhabaaDoorCBuf
namespace Go.Proofs.YtbeooeihedhabaaDoor
open Go.RowKit
/-- a world turned in some blocks alone -/
structure Turn (W W' : World) (S : Nat → Prop) : Prop where
  os : W'.os = W.os
  tape : W'.tape = W.tape
  output : W'.output = W.output
  size : W.heap.size ≤ W'.heap.size
  block : ∀ k, k < W.heap.size → ¬ S k → W'.heap[k]? = W.heap[k]?
theorem Turn.refl (W : World) (S : Nat → Prop) : Turn W W S := ⟨rfl, rfl, rfl, Nat.le_refl _, fun _ _ _ => rfl⟩
theorem Turn.trans {a b c : World} {S T : Nat → Prop} (h : Turn a b S) (k : Turn b c T) (hT : ∀ j, j < a.heap.size → T j → S j) : Turn a c S :=
  ⟨k.os.trans h.os, k.tape.trans h.tape, k.output.trans h.output, Nat.le_trans h.size k.size, fun j hj hn => (k.block j (Nat.lt_of_lt_of_le hj h.size) fun ht => hn (hT j hj ht)).trans (h.block j hj hn)⟩
theorem Turn.of_below {W W' : World} (h : Below W.heap.size W W') (S : Nat → Prop) : Turn W W' S := ⟨h.os, h.tape, h.output, h.size, fun k hk _ => h.block k hk⟩
theorem Turn.below {W W' : World} {S : Nat → Prop} {N : Nat} {w : World} (h : Turn W W' S) (hb : Below N w W) (hN : N ≤ W.heap.size) (hS : ∀ k, S k → N ≤ k) : Below N w W' :=
  hb.trans ⟨h.os, h.tape, h.output, h.size, fun k hk => h.block k (by omega) fun hs => by have := hS k hs; omega⟩
theorem Turn.set (W : World) (b i : Nat) (v : Value) : Turn W (W.setCell ⟨b, i, none⟩ v) (fun k => k = b) :=
  ⟨rfl, rfl, rfl, by simp [World.setCell], fun _ _ hn => Below.heap_setCell _ _ _ _ hn⟩
theorem Turn.grown {W W' : World} {b : Nat} (h : W.grownBy W' (some b)) : Turn W W' (fun k => k = b) :=
  ⟨h.os, h.tape, h.output, h.size, fun k hk hn => h.block k hk (fun e => hn (by injection e))⟩
theorem Turn.mono {W W' : World} {S T : Nat → Prop} (h : Turn W W' S) (hS : ∀ k, k < W.heap.size → S k → T k) : Turn W W' T := ⟨h.os, h.tape, h.output, h.size, fun k hk hn => h.block k hk fun hs => hn (hS k hk hs)⟩
end Go.Proofs.YtbeooeihedhabaaDoor
