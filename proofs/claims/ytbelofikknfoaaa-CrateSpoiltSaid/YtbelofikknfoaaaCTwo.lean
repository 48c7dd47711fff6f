/- Two rows of bytes of one's own side by side: append to the one leaves the other. -/
import Derived.Test.YtbelofikknfoaaaCRPack6
namespace Go.Proofs.Ytbelofikknfoaaa
open Go.RowKit
set_option maxHeartbeats 1000000
theorem setCells_other : ∀ (vs : List Value) (b o : Nat) (w : World) {k : Nat}, k ≠ b → (w.setCells b o vs).heap[k]? = w.heap[k]?
  | [], _, _, _, _, _ => rfl
  | v :: vs, b, o, w, k, h => (setCells_other vs b (o + 1) (w.setCell ⟨b, o, none⟩ v) h).trans (heap_setCell_other _ _ _ _ h)
theorem run_app2 {B : Nat} {v : Value} {xs : List UInt8} {w : World} (h : OwnB B v xs w) {tx : TypeId} {x : Value} {ys : List UInt8} (hs : Src Try.prog 1 tx x ys.length (u8s ys) w) (hl : xs.length + ys.length ≤ 140737488355328) (ty : TypeId) :
    ∃ v' w', (Builtin.append_ #[34, tx] ty #[v, x]).run Try.prog w = .ok v' w' ∧ OwnB B v' (xs ++ ys) w' ∧ Below B w w' ∧ (∀ k, k < w.heap.size → v.ownBlock ≠ some k → w'.heap[k]? = w.heap[k]?) ∧ OwnNew w v v' := by
  obtain ⟨v', w', hr, h2, h3⟩ := run_app h hs hl ty
  refine ⟨v', w', hr, h2, h3, ?_⟩
  obtain ⟨g, cap, rest, fr, rfl, hg, hh, hcap, hmax, hfr⟩ := h
  by_cases hroom : xs.length + ys.length ≤ cap
  · have hlen : (u8s xs ++ rest).length = cap := by rw [List.length_append, u8s_length, hcap]
    have hr2 := run_append_room_src (P := Try.prog) w 34 tx ty 5 _ Try.underlying34 byte_info g 0 xs.length cap x ys.length (u8s ys) hs hroom
      (fun j hj => by
        rw [u8s_length] at hj
        rw [cell_of_row w g _ _ _ _ hh, List.getElem?_toArray, List.getElem?_eq_getElem (by rw [hlen]; simp; omega)]
        rfl)
      (fun j hj => by
        rw [u8s_length] at hj
        obtain ⟨lo, hi⟩ := fr
        simp only [World.frozen?, hh, Bool.and_eq_false_iff, decide_eq_false_iff_not]
        simp only at hfr
        rcases hfr with hfr | hfr
        · right; omega
        · left; simp; omega)
    rw [hr] at hr2
    obtain ⟨rfl, rfl⟩ := Result.ok.inj hr2
    exact ⟨fun k _ hk => setCells_other _ _ _ _ (fun e => hk (by rw [e]; rfl)), fun k hk => .inl hk⟩
  · have hold : (Builtin.firstCells 1 xs.length (.slice (some ⟨g, 0, none⟩) xs.length cap)).run Try.prog w.drew = .ok (u8s xs).toArray w.drew :=
      run_firstCells_some (P := Try.prog) w.drew 1 xs.length ⟨g, 0, none⟩ xs.length cap (u8s xs) (by rw [u8s_length, Nat.mul_one]) (fun j u hj => by
        have hadd : (⟨g, 0, none⟩ : Addr).add j = ⟨g, j, none⟩ := by unfold Addr.add; split <;> simp_all
        rw [hadd]
        show w.cell? ⟨g, j, none⟩ = _
        rw [cell_of_row w g _ _ _ _ hh, List.getElem?_toArray, List.getElem?_append_left (List.getElem?_eq_some_iff.1 hj).1]
        exact hj)
    have hr2 := run_append_grow_src (P := Try.prog) w 34 tx ty 5 _ (.int .u8 0) Try.underlying34 byte_info rfl (some ⟨g, 0, none⟩) xs.length cap (u8s xs) hold x ys.length (u8s ys) hs (by omega) (by omega)
      (growslice_fits (by omega) (by show _ * 1 ≤ _; omega))
    rw [hr] at hr2
    obtain ⟨rfl, rfl⟩ := Result.ok.inj hr2
    refine ⟨fun k hk _ => (((Below.refl w.heap.size w).drew).alloc (Nat.le_refl _) _).block k hk, fun k hk => ?_⟩
    simp [Value.ownBlock] at hk
    omega
theorem run_appZ2 {B : Nat} {v : Value} {xs : List UInt8} {w : World} (h : OwnZ B v xs w) {tx : TypeId} {x : Value} {ys : List UInt8} (hs : Src Try.prog 1 tx x ys.length (u8s ys) w) (hy : 0 < ys.length) (hl : xs.length + ys.length ≤ 140737488355328) (ty : TypeId) :
    ∃ v' w', (Builtin.append_ #[34, tx] ty #[v, x]).run Try.prog w = .ok v' w' ∧ OwnB B v' (xs ++ ys) w' ∧ Below B w w' ∧ (∀ k, k < w.heap.size → v.ownBlock ≠ some k → w'.heap[k]? = w.heap[k]?) ∧ OwnNew w v v' := by
  rcases h with ⟨rfl, rfl, hB⟩ | h
  · obtain ⟨v', w', hr, h2, h3⟩ := run_appZ (B := w.heap.size) (.inl ⟨rfl, rfl, Nat.le_refl _⟩) hs hy hl ty
    refine ⟨v', w', hr, h2.mono hB, h3.mono hB, fun k hk _ => h3.block k hk, fun k hk => ?_⟩
    obtain ⟨g, cap, rest, fr, rfl, hg, -⟩ := h2
    simp [Value.ownBlock] at hk
    omega
  · exact run_app2 h hs hl ty
/-- two rows side by side -/
structure Two (B : Nat) (v : Value) (xs : List UInt8) (u : Value) (ys : List UInt8) (w : World) : Prop where
  one : OwnZ B v xs w
  two : OwnZ B u ys w
  ne : ∀ k, v.ownBlock = some k → u.ownBlock ≠ some k
theorem Two.swap {B : Nat} {v : Value} {xs : List UInt8} {u : Value} {ys : List UInt8} {w : World} (h : Two B v xs u ys w) : Two B u ys v xs w := ⟨h.two, h.one, fun k h1 h2 => h.ne k h2 h1⟩
theorem Two.below {B C : Nat} {v : Value} {xs : List UInt8} {u : Value} {ys : List UInt8} {w w' : World} (h : Two B v xs u ys w) (hb : Below C w w') (hC : w.heap.size ≤ C) : Two B v xs u ys w' := ⟨h.one.below hb hC, h.two.below hb hC, h.ne⟩
theorem OwnZ.lt_size {B k : Nat} {v : Value} {xs : List UInt8} {w : World} (h : OwnZ B v xs w) (hk : v.ownBlock = some k) : k < w.heap.size := by
  rcases h with ⟨rfl, -, -⟩ | ⟨g, cap, rest, fr, rfl, hg, hh, -⟩
  · simp [Value.ownBlock] at hk
  · simp [Value.ownBlock] at hk
    subst hk
    exact block_lt hh
theorem OwnZ.keep {B : Nat} {v : Value} {xs : List UInt8} {w w' : World} (h : OwnZ B v xs w) (hs : w.heap.size ≤ w'.heap.size) (hk : ∀ k, v.ownBlock = some k → w'.heap[k]? = w.heap[k]?) : OwnZ B v xs w' := by
  rcases h with ⟨rfl, rfl, hB⟩ | ⟨g, cap, rest, fr, rfl, hg, hh, r⟩
  · exact .inl ⟨rfl, rfl, Nat.le_trans hB hs⟩
  · exact .inr ⟨g, cap, rest, fr, rfl, hg, (hk g rfl).trans hh, r⟩
/-- a new empty row beside one -/
theorem Two.fresh {B : Nat} {v : Value} {xs : List UInt8} {w : World} (h : OwnZ B v xs w) : Two B v xs (.slice (some ⟨w.heap.size, 0, none⟩) 0 0) [] (w.alloc (.cells #[] 5)) := by
  refine ⟨h.below (bw_alloc (Below.refl w.heap.size w) _) (Nat.le_refl _), .inr ⟨w.heap.size, 0, [], (0, 0), rfl, h.lt, heap_alloc_new w _, rfl, by decide, .inl rfl⟩, fun k hk hk2 => ?_⟩
  have := h.lt_size hk
  simp [Value.ownBlock] at hk2
  omega
/-- the row as what is laid behind another -/
theorem OwnZ.src {B : Nat} {v : Value} {xs : List UInt8} {w : World} (h : OwnZ B v xs w) (h0 : 0 < xs.length) : Src Try.prog 1 34 v xs.length (u8s xs) w := by
  rcases h with ⟨-, rfl, -⟩ | ⟨g, cap, rest, fr, rfl, hg, hh, -⟩
  · simp at h0
  · refine Src.ofSlice w Try.underlying34 ⟨g, 0, none⟩ xs.length cap (u8s xs) (by rw [u8s_length, Nat.mul_one]) (fun j y hj => ?_) (u8s_one _)
    have hadd : (⟨g, 0, none⟩ : Addr).add j = ⟨g, j, none⟩ := by unfold Addr.add; split <;> simp_all
    rw [hadd, cell_of_row w g _ _ _ _ hh, List.getElem?_toArray, List.getElem?_append_left (List.getElem?_eq_some_iff.1 hj).1]
    exact hj
theorem wpList_appTwo {ops : Array Oper} {rest : List Oper} {o : Oper} {a : Act} {w : World} {Q : Exit → Act → World → Prop} (hgd : o.guard = none) (sl x : Operand) (tx : TypeId) (ho : o.op = .call { callee := .builtin .append, args := #[sl, x], argTypes := #[34, tx] }) (B : Nat) (v : Value) (xs : List UInt8) (u : Value) (zs : List UInt8) (hv : a.eval sl = v) (h : Two B v xs u zs w)
    (xv : Value) (hx : a.eval x = xv) (ys : List UInt8) (hs : Src Try.prog 1 tx xv ys.length (u8s ys) w) (hy : 0 < ys.length) (hl : xs.length + ys.length ≤ 140737488355328)
    (hK : ∀ v' w', Hid (Two B v' (xs ++ ys) u zs w') → Hid (Below B w w') → wpList Try.prog ops Q rest (a.put o.dst v') w') : wpList Try.prog ops Q (o :: rest) a w := by
  refine wpList_plain hgd fun K hK' => ?_
  obtain ⟨v', w', hr, h2, h3, h4, h5⟩ := run_appZ2 h.one hs hy hl o.type
  unfold Oper.wp execOp
  simp only [ho, resolve, invoke, builtin, Sem.run_bind, Sem.run_pure, Result.andThen_ok, List.map_toArray, List.map_cons, List.map_nil, hv, hx, hr]
  refine hK' _ _ (hK v' w' ⟨.inr h2, h.two.keep h3.size fun k hk => h4 k (h.two.lt_size hk) fun hk2 => h.ne k hk2 hk, fun k hk hk2 => ?_⟩ h3)
  rcases h5 k hk with h6 | h6
  · exact h.ne k h6 hk2
  · have := h.two.lt_size hk2
    omega
end Go.Proofs.Ytbelofikknfoaaa
