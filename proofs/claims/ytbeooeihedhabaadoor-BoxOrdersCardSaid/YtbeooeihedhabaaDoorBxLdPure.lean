/- Blocks of the first chain, the batches that count: plain Lean, and how they lie in memory. -/
import Derived.Test.YtbeooeihedhabaaDoorBxBox
import Derived.Test.YtbeooeihedhabaaDoorBxIt
namespace Go.Proofs.YtbeooeihedhabaaDoor
open Go.RowKit
set_option maxRecDepth 4000
/-- a block, with its slice of items -/
structure BK where
  number : Int
  salt : Int
  parent : List UInt8
  iv : Value
  items : List IT
def BK.cells (b : BK) : List Value := .int .i64 b.number :: .int .i64 b.salt :: (u8s b.parent ++ [b.iv])
/-- one item: does it count? -/
def landStep (num : Int) (acc : List (Int × BT)) (x : IT) : List (Int × BT) :=
  if x.kind = 3 ∧ x.ok = true then match rdBox x.text with
    | .ok b => if b.seq = acc.length then acc ++ [(num, b)] else acc
    | .error _ => acc
  else acc
def landB (acc : List (Int × BT)) (b : BK) : List (Int × BT) := b.items.foldl (landStep b.number) acc
def land (l : List BK) : List (Int × BT) := l.foldl landB []
theorem land_snoc (l : List BK) (b : BK) : land (l ++ [b]) = landB (land l) b := by simp [land]
theorem step_no {num : Int} {acc : List (Int × BT)} {x : IT} (h : ¬ (x.kind = 3 ∧ x.ok = true)) : landStep num acc x = acc := if_neg h
theorem step_err {num : Int} {acc : List (Int × BT)} {x : IT} {e : Int} (h : rdBox x.text = .error e) : landStep num acc x = acc := by
  unfold landStep
  split
  · rw [h]
  · rfl
theorem step_ok {num : Int} {acc : List (Int × BT)} {x : IT} {b : BT} (hk : x.kind = 3 ∧ x.ok = true) (h : rdBox x.text = .ok b) : landStep num acc x = if b.seq = acc.length then acc ++ [(num, b)] else acc := by
  unfold landStep
  rw [if_pos hk, h]
theorem fold_snoc (num : Int) (acc : List (Int × BT)) (l : List IT) (j : Nat) (hj : j < l.length) : (l.take (j + 1)).foldl (landStep num) acc = landStep num ((l.take j).foldl (landStep num) acc) (l[j]'hj) := by
  rw [List.take_succ_eq_append_getElem hj, List.foldl_append]
  rfl
theorem rdB_num {s : ByteArray} {b : BT} (h : rdB s = some b) : numOk b.seq = true := by
  unfold rdB at h
  split at h
  · cases h
  · split at h
    · cases h
    · split at h
      · rename_i hc
        split at h
        · cases h
        · cases h
          exact hc.1
      · cases h
theorem rdBox_num {s : ByteArray} {b : BT} (h : rdBox s = .ok b) : 0 ≤ b.seq ∧ b.seq ≤ 1099511627776 := by
  unfold rdBox at h
  split at h
  · cases h
  · split at h
    · split at h
      · split at h
        · cases h
        · split at h
          · cases h
          · rename_i hb
            injection h with h
            subst h
            exact okN_iff.1 (rdB_num hb)
      · cases h
    · cases h
  · cases h
/-- a batch that counts, with its slice of messages -/
structure LV where
  block : Int
  b : BT
  pv : Value
def LV.cells (x : LV) : List Value := .int .i64 x.block :: x.b.cells x.pv
def lvs (l : List LV) : List Value := l.flatMap LV.cells
def prs (l : List LV) : List (Int × BT) := l.map fun x => (x.block, x.b)
theorem prs_snoc (l : List LV) (x : LV) : prs (l ++ [x]) = prs l ++ [(x.block, x.b)] := by simp [prs]
theorem prs_len (l : List LV) : (prs l).length = l.length := by simp [prs]
theorem lvs_snoc (l : List LV) (x : LV) : lvs (l ++ [x]) = lvs l ++ x.cells := by simp [lvs]
/-- the list of what counts so far, in memory of one's own -/
structure LdAt (B : Nat) (w wr : World) (v : Value) (l : List LV) : Prop where
  b : Below B w wr
  own : wr.ownsRow B 43 5 v l.length (lvs l)
  parts : ∀ x ∈ l, RdRows wr x.pv 2 (x.b.parts.map PT.cells) (fun k => B ≤ k ∧ v.ownBlock ≠ some k)
theorem LdAt.start (w : World) : LdAt w.heap.size w w (.slice none 0 0) [] := ⟨Below.refl _ _, own_nil _ _ _ _, fun x h => by cases h⟩
theorem LdAt.next {B : Nat} {w wr w' : World} {v : Value} {l : List LV} (h : LdAt B w wr v l) (hb : Below wr.heap.size wr w') (hB : B ≤ wr.heap.size) : LdAt B w w' v l :=
  ⟨h.b.trans (hb.mono hB), own_other h.own fun k hk => hb.block k (h.own.lt k hk).2, fun x hx => (h.parts x hx).kept hb.size fun k hk _ => hb.block k hk⟩
theorem LdAt.app {B : Nat} {w wr w' : World} {v v' : Value} {l : List LV} {x : LV} {o : Obj} (h : LdAt B w wr v l) (hx : RdRows wr x.pv 2 (x.b.parts.map PT.cells) (fun k => B ≤ k ∧ v.ownBlock ≠ some k)) (ho : w'.ownsRow B 43 5 v' (l.length + 1) (lvs l ++ x.cells)) (hg : (wr.alloc o).grownBy w' v.ownBlock) (hn : OwnNew (wr.alloc o) v v') (hB : B ≤ wr.heap.size) : LdAt B w w' v' (l ++ [x]) := by
  have hb1 : Below wr.heap.size wr (wr.alloc o) := bw_alloc (Below.refl _ _) _
  have hs1 := hb1.size
  have hs2 := hg.size
  have keep : ∀ y : LV, RdRows wr y.pv 2 (y.b.parts.map PT.cells) (fun k => B ≤ k ∧ v.ownBlock ≠ some k) → RdRows w' y.pv 2 (y.b.parts.map PT.cells) (fun k => B ≤ k ∧ v'.ownBlock ≠ some k) := fun y hy => by
    obtain ⟨A, c, e, r⟩ := hy
    refine ⟨A, c, e, fun k hk => ?_⟩
    obtain ⟨b, off, h1, h2, h3, h4⟩ := r k hk
    refine ⟨b, off, h1, by omega, ⟨h3.1, fun e => ?_⟩, fun j u hj => ?_⟩
    · rcases hn b e with h5 | h5
      · exact h3.2 h5
      · have : (wr.alloc o).heap.size = wr.heap.size + 1 := by simp
        omega
    · refine (cell_of_heap ?_ _).trans (h4 j u hj)
      rw [hg.block b (by omega) (fun e => h3.2 e.symm), hb1.block b h2]
  refine ⟨(h.b.trans (hb1.mono hB)).grown hg (by omega) (fun k hk => own_blk h.own k hk), ?_, ?_⟩
  · rw [List.length_append, lvs_snoc]
    exact ho
  · intro y hy
    rcases List.mem_append.1 hy with hy | hy
    · exact keep y (h.parts y hy)
    · rw [List.mem_singleton] at hy
      subst hy
      exact keep y hx
/-- blocks that can be read -/
def BksAt (w : World) (v : Value) (l : List BK) : Prop :=
  RdRows w v 35 (l.map BK.cells) (fun k => k < w.heap.size) ∧ ∀ b ∈ l, RdRows w b.iv 4 (b.items.map IT.cells) (fun k => k < w.heap.size) ∧ b.parent.length = 32 ∧ b.items.length ≤ 140737488355328 ∧ ∀ x ∈ b.items, x.text.size ≤ 140737488351232
theorem BksAt.below {w w' : World} {v : Value} {l : List BK} (h : BksAt w v l) (hb : Below w.heap.size w w') : BksAt w' v l :=
  ⟨(h.1.below hb (fun _ h => h)).mono fun _k _ hk => Nat.lt_of_lt_of_le hk hb.size, fun b hm => ⟨((h.2 b hm).1.below hb (fun _ h => h)).mono fun _k _ hk => Nat.lt_of_lt_of_le hk hb.size, (h.2 b hm).2⟩⟩
theorem BK.cells_length {b : BK} (h : b.parent.length = 32) : b.cells.length = 35 := by
  simp [BK.cells, u8s_length, h]
theorem BK.at_items {b : BK} (h : b.parent.length = 32) : b.cells[34]? = some b.iv := by
  unfold BK.cells
  rw [List.getElem?_cons_succ, List.getElem?_cons_succ, List.getElem?_append_right (by rw [u8s_length, h]; decide), u8s_length, h]
  rfl
theorem BK.one {b : BK} (h : b.iv.oneCell' = true) : ∀ u ∈ b.cells, u.oneCell' = true := by
  intro u hu
  simp only [BK.cells, List.mem_cons, List.mem_append, List.not_mem_nil, or_false] at hu
  rcases hu with rfl | rfl | hu | rfl
  · rfl
  · rfl
  · exact u8s_one _ u hu
  · exact h
theorem block_info {cs : List Value} (h : cs.length = 35) : (Tryd.prog.info? 62).map (·.size) = some cs.length := by
  rw [h]
  kernel_rfl
abbrev zlL : List Value := [.int .i64 0, .int .i64 0, .int .i64 0, .int .i64 0, .slice none 0 0]
theorem ld_info : (Tryd.prog.info? 43).map (fun i => (i.zero, i.size, i.bytes)) = some (some (.agg zlL.toArray), 5, 56) := by kernel_rfl
theorem ld_fill (x : LV) {ie : TypeInfo} (h : ie.size = 5) : Instr.fill (fun i => some (i * ie.size, ie.size)) ((Array.range (1 * ie.size)).map ((Value.agg zlL.toArray).cells[· % (Value.agg zlL.toArray).cells.size]!)) #[(0, Value.agg (LV.cells x).toArray)].toList = some (LV.cells x).toArray := by
  have hz : (Array.range (1 * 5)).map (fun i => (Value.agg zlL.toArray).cells[i % (Value.agg zlL.toArray).cells.size]!) = zlL.toArray := by kernel_rfl
  rw [h, hz, fill_cons (off := 0) (size := 5) rfl (by rfl) (by decide)]
  rfl
theorem lcells_one {x : LV} (h : x.pv.oneCell' = true) : ∀ u ∈ x.cells, u.oneCell' = true := by
  intro u hu
  rcases List.mem_cons.1 hu with rfl | hu
  · rfl
  · exact bcs_one (x := x.b.seq) (y := x.b.first) (z := x.b.before) (v := x.pv) h u hu
end Go.Proofs.YtbeooeihedhabaaDoor
