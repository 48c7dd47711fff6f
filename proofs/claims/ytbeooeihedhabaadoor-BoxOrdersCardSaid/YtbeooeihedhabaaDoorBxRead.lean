/- notes.ReadBatch: what the call does. -/
import Derived.Test.YtbeooeihedhabaaDoorBxFields
import Derived.Test.YtbeooeihedhabaaDoorBxWrite
import Derived.Deep.MidRow
import Derived.Laws.Cover1
import Derived.Lib.Strings
import Derived.Great.BuildSlice
import Derived.Sort.Walk0
namespace Go.Proofs.YtbeooeihedhabaaDoor
open Go.RowKit
set_option maxHeartbeats 4000000
set_option maxRecDepth 4000
theorem rdPs_snoc : ∀ {l : List ByteArray} {ps : List PT} {t : ByteArray} {p : PT}, rdPs l = some ps → rdPart t = some p → rdPs (l ++ [t]) = some (ps ++ [p])
  | [], ps, t, p, h, hp => by
    cases h
    show rdPs [t] = _
    unfold rdPs
    rw [hp]
    rfl
  | a :: l, ps, t, p, h, hp => by
    unfold rdPs at h
    show rdPs (a :: (l ++ [t])) = _
    unfold rdPs
    split at h
    · cases h
    · rename_i q hq
      split at h
      · cases h
      · rename_i us hu
        cases h
        rw [rdPs_snoc hu hp]
        rfl
theorem rdPs_none : ∀ {l r : List ByteArray} {t : ByteArray}, rdPart t = none → rdPs (l ++ t :: r) = none
  | [], r, t, h => by
    show rdPs (t :: r) = none
    unfold rdPs
    rw [h]
  | a :: l, r, t, h => by
    show rdPs (a :: (l ++ t :: r)) = none
    unfold rdPs
    cases rdPart a with
    | none => rfl
    | some p => dsimp only; rw [rdPs_none h]
def pcs (l : List PT) : List Value := l.flatMap PT.cells
theorem pcs_snoc (l : List PT) (p : PT) : pcs (l ++ [p]) = pcs l ++ PT.cells p := by simp [pcs]
theorem pcs_at : ∀ (l : List PT) (k : Nat) (h : k < l.length) (j : Nat) (u : Value), ((l[k]'h).cells)[j]? = some u → (pcs l)[k * 2 + j]? = some u ∧ k * 2 + j < l.length * 2
  | p :: l, 0, h, j, u, hu => by
    have hj : j < 2 := by
      have := List.getElem?_eq_some_iff.1 hu
      exact this.1
    constructor
    · show (PT.cells p ++ pcs l)[0 * 2 + j]? = some u
      rw [Nat.zero_mul, Nat.zero_add, List.getElem?_append_left hj]
      exact hu
    · rw [List.length_cons]; omega
  | p :: l, k + 1, h, j, u, hu => by
    obtain ⟨h1, h2⟩ := pcs_at l k (by simpa using h) j u hu
    constructor
    · show (PT.cells p ++ pcs l)[(k + 1) * 2 + j]? = some u
      rw [List.getElem?_append_right (by show 2 ≤ _; omega), show (k + 1) * 2 + j - (PT.cells p).length = k * 2 + j from by show (k + 1) * 2 + j - 2 = _; omega]
      exact h1
    · rw [List.length_cons]; omega
theorem PtsOwn {w : World} {base : Nat} {v : Value} {l : List PT} (h : w.ownsRow base 57 2 v l.length (pcs l)) : RdRows w v 2 (l.map PT.cells) (fun b => base ≤ b) := by
  rcases h.2 with ⟨rfl, h0⟩ | ⟨g, cap, cur, rfl, hb, hg, _, _, _, ht⟩
  · have : l = [] := List.length_eq_zero_iff.1 h0
    subst this
    exact ⟨none, 0, rfl, fun k hk => absurd hk (Nat.not_lt_zero k)⟩
  · refine ⟨_, cap, by rw [List.length_map], fun k hk => ⟨g, 0, rfl, block_lt hg, hb, fun j u hu => ?_⟩⟩
    rw [List.getElem_map] at hu
    obtain ⟨h1, h2⟩ := pcs_at l k (by simpa using hk) j u hu
    rw [cell_of_row w g (0 + k * 2 + j) cur _ (0, 0) hg, Nat.zero_add, ← Array.getElem?_toList, ← List.getElem?_take_of_lt h2, ht]
    exact h1
abbrev zlB : List Value := [.int .i64 0, .int .i64 0, .int .i64 0, .slice none 0 0]
theorem part_info : (Tryd.prog.info? 57).map (fun i => (i.zero, i.size, i.bytes)) = some (some (.agg #[.bool false, .string ⟨#[]⟩]), 2, 24) := by kernel_rfl
theorem batch_info (cs : List Value) (h : cs.length = 4) : (Tryd.prog.info? 24).map (·.size) = some cs.length := by
  rw [h]
  kernel_rfl
theorem batch_one : ∀ u ∈ zlB, u.oneCell' = true := by
  intro u hu
  simp only [zlB, List.mem_cons, List.not_mem_nil, or_false] at hu
  rcases hu with rfl | rfl | rfl | rfl <;> rfl
def bcs (x y z : Int) (v : Value) : List Value := [.int .i64 x, .int .i64 y, .int .i64 z, v]
/-- what ReadBatch hands back -/
def RbRes (w : World) (o : Option BT) (e : Ending) (w' : World) : Prop :=
  match o with
  | none => e = .returned (.tuple #[.agg zlB.toArray, .int .i64 6])
  | some b => ∃ v, e = .returned (.tuple #[.agg (b.cells v).toArray, .int .i64 0]) ∧ RdRows w' v 2 (b.parts.map PT.cells) (fun k => w.heap.size ≤ k)
/-- what the loop holds: B = the size behind fields -/
structure RbAt (w wr : World) (B : Nat) (x y z : Int) (v u : Value) (r : List ByteArray) (ps : List PT) : Prop where
  b : Below w.heap.size w wr
  size : B ≤ wr.heap.size
  lo : w.heap.size + 2 ≤ B
  res : wr.heap[w.heap.size]? = some (.cells zlB.toArray 24 (0, 0))
  bt : wr.heap[w.heap.size + 1]? = some (.cells (bcs x y z v).toArray 24 (0, 0))
  own : wr.ownsRow B 57 2 v ps.length (pcs ps)
  row : RdIn wr u (strs r) (fun b => b < B ∧ b ≠ w.heap.size + 1)
theorem RbAt.app {w wr w' : World} {B : Nat} {x y z : Int} {v v' u : Value} {r : List ByteArray} {ps : List PT} {p : PT} {cs : Array Value} {t : TypeId} (h : RbAt w wr B x y z v u r ps) (ho : w'.ownsRow B 57 2 v' (ps.length + 1) (pcs ps ++ p.cells)) (hg : (wr.alloc (.cells cs t)).grownBy w' v.ownBlock) : RbAt w (w'.setCell ⟨w.heap.size + 1, 3, none⟩ v') B x y z v' u r (ps ++ [p]) := by
  have hlo := h.lo
  have hsz := h.size
  have hw := h.b.size
  have hb1 : Below wr.heap.size wr (wr.alloc (.cells cs t)) := bw_alloc (Below.refl _ _) _
  have hs1 := hb1.size
  have hown : ∀ k, v.ownBlock = some k → B ≤ k := fun k hk => own_blk h.own k hk
  have hgs := hg.size
  have hT := Turn.set w' (w.heap.size + 1) 3 v'
  -- a block below B, other than the batch's
  have keep : ∀ k, k < B → k ≠ w.heap.size + 1 → (w'.setCell ⟨w.heap.size + 1, 3, none⟩ v').heap[k]? = wr.heap[k]? := fun k hk hn => by
    rw [hT.block k (by omega) hn, hg.block k (by omega) (fun e => by have := hown k e.symm; omega), hb1.block k (by omega)]
  have hbt : w'.heap[w.heap.size + 1]? = some (.cells (bcs x y z v).toArray 24 (0, 0)) := by
    rw [hg.block _ (by omega) (fun e => by have := hown _ e.symm; omega), hb1.block _ (by omega)]
    exact h.bt
  refine ⟨?_, ?_, hlo, (keep _ (by omega) (by omega)).trans h.res, set_row hbt v', ?_, ?_⟩
  · have h1 : Below w.heap.size w w' := (h.b.trans (hb1.mono hw)).grown hg (by omega) (fun k hk => by have := hown k hk; omega)
    exact hT.below h1 (by omega) (fun k e => by omega)
  · have := hT.size; omega
  · rw [List.length_append, pcs_snoc]
    refine own_other ho fun k hk => hT.block k (ho.lt k hk).2 ?_
    have := own_blk ho k hk
    omega
  · refine h.row.kept (by have := hT.size; omega) fun b _ hs => keep b hs.1 hs.2
theorem RbAt.next {w wr w' : World} {B : Nat} {x y z : Int} {v u : Value} {r : List ByteArray} {ps : List PT} (h : RbAt w wr B x y z v u r ps) (hb : Below wr.heap.size wr w') : RbAt w w' B x y z v u r ps := by
  have hlo := h.lo
  have hsz := h.size
  have hs := hb.size
  exact ⟨h.b.trans (hb.mono h.b.size), by omega, hlo, (hb.block _ (by omega)).trans h.res, (hb.block _ (by omega)).trans h.bt, own_other h.own fun k hk => hb.block k (h.own.lt k hk).2, h.row.kept hs fun b hb' _ => hb.block b hb'⟩
theorem RbAt.mid {w wr w' : World} {B : Nat} {x y z : Int} {v u : Value} {r : List ByteArray} {ps : List PT} {cs : Array Value} {t : TypeId} (h : RbAt w wr B x y z v u r ps) (hg : (wr.alloc (.cells cs t)).grownBy w' v.ownBlock) : w'.heap[w.heap.size + 1]? = some (.cells (bcs x y z v).toArray 24 (0, 0)) := by
  have hlo := h.lo
  have hsz := h.size
  have hb1 : Below wr.heap.size wr (wr.alloc (.cells cs t)) := bw_alloc (Below.refl _ _) _
  have hs1 := hb1.size
  rw [hg.block _ (by omega) (fun e => by have := own_blk h.own _ e.symm; omega), hb1.block _ (by omega)]
  exact h.bt
abbrev zlP : List Value := [.bool false, .string ⟨#[]⟩]
theorem part_fill (p : PT) {ie : TypeInfo} (h : ie.size = 2) : Instr.fill (fun i => some (i * ie.size, ie.size)) ((Array.range (1 * ie.size)).map ((Value.agg zlP.toArray).cells[· % (Value.agg zlP.toArray).cells.size]!)) #[(0, Value.agg (PT.cells p).toArray)].toList = some (PT.cells p).toArray := by
  have hz : (Array.range (1 * 2)).map (fun i => (Value.agg zlP.toArray).cells[i % (Value.agg zlP.toArray).cells.size]!) = zlP.toArray := by kernel_rfl
  rw [h, hz, fill_cons (off := 0) (size := 2) rfl (by rfl) (by decide)]
  rfl
theorem news2 (w : World) (cs : List Value) (t : TypeId) (j : Nat) (u : Value) (h : cs[j]? = some u) : (w.alloc (.cells cs.toArray t)).cell? ((⟨w.heap.size, 0, none⟩ : Addr).add j) = some u := by
  rw [Addr.add_mid, Nat.zero_add, cell_of_row _ _ _ _ _ _ (heap_alloc_new w (.cells cs.toArray t))]
  simpa using h
theorem pcells_one (p : PT) : ∀ u ∈ p.cells, u.oneCell' = true := by
  intro u hu
  simp only [PT.cells, List.mem_cons, List.not_mem_nil, or_false] at hu
  rcases hu with rfl | rfl <;> rfl
theorem bcs_one {x y z : Int} {v : Value} (h : v.oneCell' = true) : ∀ u ∈ bcs x y z v, u.oneCell' = true := by
  intro u hu
  simp only [bcs, List.mem_cons, List.not_mem_nil, or_false] at hu
  rcases hu with rfl | rfl | rfl | rfl
  · rfl
  · rfl
  · rfl
  · exact h
theorem row_shape {w : World} {base n size : Nat} {e : TypeId} {v : Value} {xs : List Value} (h : w.ownsRow base e size v n xs) : ∃ q c, v = .slice q n c := by
  rcases h.2 with ⟨rfl, rfl⟩ | ⟨g, cap, cur, rfl, _⟩
  · exact ⟨_, _, rfl⟩
  · exact ⟨_, _, rfl⟩
theorem row_one {w : World} {base n size : Nat} {e : TypeId} {v : Value} {xs : List Value} (h : w.ownsRow base e size v n xs) : v.oneCell' = true := by
  rcases h.2 with ⟨rfl, rfl⟩ | ⟨g, cap, cur, rfl, _⟩
  · rfl
  · rfl
theorem noGoto_ret {Q : Exit → Act → World → Prop} {a : Act} {w : World} (h : Q .ret a w) : Exit.noGoto Q .ret a w := h
/-- how fields leaves the world -/
def FldAt (w : World) (o : Option (Nat × Nat × Nat × List ByteArray)) (e : Ending) (w5 : World) : Prop :=
  (Below w.heap.size w w5 ∧ w.heap.size + 3 ≤ w5.heap.size ∧ w5.heap[w.heap.size]? = some (.cells zlB.toArray 24 (0, 0))) ∧ ∃ wx : World, wx.heap.size = w.heap.size + 3 ∧ FRes wx (w.heap.size + 1) [.slice none 0 0] 24 o e w5
theorem fld_any (s : ByteArray) (w : World) (hs : s.size ≤ 140737488355328) :
    Calls Tryd.prog 71 #[.string s, .slice (some ⟨w.heap.size + 2, 0, none⟩) 3 3] (((w.alloc (.cells zlB.toArray 24)).alloc (.cells zlB.toArray 24)).alloc (.cells #[ptr (w.heap.size + 1) 0, ptr (w.heap.size + 1) 1, ptr (w.heap.size + 1) 2] 94)) (FldAt w (rdF s)) := by
  have h0 := heap_alloc_new w (.cells zlB.toArray 24)
  have hb0 := bw_alloc (bw_alloc (Below.refl (w.alloc (.cells zlB.toArray 24)).heap.size _) (.cells zlB.toArray 24)) (.cells #[ptr (w.heap.size + 1) 0, ptr (w.heap.size + 1) 1, ptr (w.heap.size + 1) 2] 94)
  have hr := (hb0.block _ (block_lt h0)).trans h0
  have h1 := heap_alloc_new (w.alloc (.cells zlB.toArray 24)) (.cells zlB.toArray 24)
  have h2 := (bw_alloc (Below.refl ((w.alloc (.cells zlB.toArray 24)).alloc (.cells zlB.toArray 24)).heap.size _) (.cells #[ptr (w.heap.size + 1) 0, ptr (w.heap.size + 1) 1, ptr (w.heap.size + 1) 2] 94)).block _ (block_lt h1)
  rw [h1] at h2
  have h3 := heap_alloc_new ((w.alloc (.cells zlB.toArray 24)).alloc (.cells zlB.toArray 24)) (.cells #[ptr (w.heap.size + 1) 0, ptr (w.heap.size + 1) 1, ptr (w.heap.size + 1) 2] 94)
  have hsz : (((w.alloc (.cells zlB.toArray 24)).alloc (.cells zlB.toArray 24)).alloc (.cells #[ptr (w.heap.size + 1) 0, ptr (w.heap.size + 1) 1, ptr (w.heap.size + 1) 2] 94)).heap.size = w.heap.size + 3 := by simp
  have hbb : Below w.heap.size w (((w.alloc (.cells zlB.toArray 24)).alloc (.cells zlB.toArray 24)).alloc (.cells #[ptr (w.heap.size + 1) 0, ptr (w.heap.size + 1) 1, ptr (w.heap.size + 1) 2] 94)) := bw_alloc (bw_alloc (bw_alloc (Below.refl _ _) _) _) _
  have hs1 : (w.alloc (.cells zlB.toArray 24)).heap.size = w.heap.size + 1 := by simp
  have hs2 : ((w.alloc (.cells zlB.toArray 24)).alloc (.cells zlB.toArray 24)).heap.size = w.heap.size + 2 := by simp
  rw [hs1] at h2
  rw [hs2] at h3
  generalize ((w.alloc (.cells zlB.toArray 24)).alloc (.cells zlB.toArray 24)).alloc (.cells #[ptr (w.heap.size + 1) 0, ptr (w.heap.size + 1) 1, ptr (w.heap.size + 1) 2] 94) = wx at *
  refine (fields_any s wx (w.heap.size + 2) (w.heap.size + 1) (.int .i64 0) (.int .i64 0) (.int .i64 0) [.slice none 0 0] 24 hs h3 h2 ⟨⟨0, rfl⟩, ⟨0, rfl⟩, 0, rfl⟩ (by omega)).mono ?_
  rintro e w5 ⟨hT, hR⟩
  have := hT.size
  exact ⟨⟨hT.below hbb (by omega) (fun k e => by omega), by omega, (hT.block _ (by omega) (by show w.heap.size ≠ _; omega)).trans hr⟩, wx, hsz, hR⟩
theorem RbAt.start {w w5 wx : World} {x y z : Nat} {q : Option Addr} {c : Nat} {r : List ByteArray} (h1 : Below w.heap.size w w5) (h2 : w.heap.size + 3 ≤ w5.heap.size) (h3 : w5.heap[w.heap.size]? = some (.cells zlB.toArray 24 (0, 0))) (hx : wx.heap.size = w.heap.size + 3) (h4 : w5.heap[w.heap.size + 1]? = some (.cells (Value.int .i64 (x : Int) :: Value.int .i64 (y : Int) :: Value.int .i64 (z : Int) :: [Value.slice none 0 0]).toArray 24 (0, 0))) (h5 : RdIn w5 (.slice q r.length c) (strs r) (fun b => wx.heap.size ≤ b)) : RbAt w w5 w5.heap.size x y z (.slice none 0 0) (.slice q r.length c) r [] :=
  ⟨h1, Nat.le_refl _, by omega, h3, h4, own_nil _ _ _ _, h5.mono fun b hb hs => ⟨hb, by omega⟩⟩
/-- what is known of the list read so far -/
def RbOk (s : ByteArray) (x y z : Int) (r : List ByteArray) (k : Nat) (okb : Bool) (ps : List PT) : Prop :=
  match okb with
  | true => (numOk x = true ∧ numOk y = true ∧ numOk z = true ∧ r.length ≤ 512) ∧ rdPs (r.take k) = some ps
  | false => rdB s = none
theorem rdF_sizes {s : ByteArray} {x y z : Nat} {r : List ByteArray} (h : rdF s = some (x, y, z, r)) : ∀ t ∈ r, t.size ≤ 65536 := by
  unfold rdF at h
  cases ha : rdAll s with
  | error e => rw [ha] at h; cases h
  | ok l =>
    rw [ha] at h
    have hs := rdAll_sizes ha
    dsimp only at h
    unfold rd3 at h
    split at h
    · split at h
      · cases h
      · split at h
        · cases h
        · split at h
          · cases h
          · cases h
            intro t ht
            exact hs t (by simp [ht])
    · cases h
theorem rdPart_byte {t : ByteArray} (h2 : ¬ t = bstr [2]) (g : 0 < t.size) : rdPart t = if ((t[0]'g).toNat : Int) = 1 ∧ t.size ≤ 657 then some ⟨false, bstr (t.data.toList.drop 1)⟩ else none := by
  unfold rdPart
  rw [if_neg h2]
  have hlen : t.data.toList.length = t.size := rfl
  have hget : t.data.toList[0]? = some (t[0]'g) := by
    rw [List.getElem?_eq_getElem (by omega)]
    rfl
  cases hl : t.data.toList with
  | nil => rw [hl] at hlen; simp at hlen; omega
  | cons b r =>
    rw [hl] at hlen hget
    have hb : b = t[0]'g := by simpa using hget
    rw [← hb]
    rw [List.length_cons] at hlen
    by_cases h1 : b = 1
    · subst h1
      show (if r.length ≤ 656 then some (PT.mk false (bstr r)) else none) = if _ then some (PT.mk false (bstr r)) else none
      by_cases h3 : r.length ≤ 656
      · rw [if_pos h3, if_pos ⟨rfl, by omega⟩]
      · rw [if_neg h3, if_neg (fun h => h3 (by omega))]
    · rw [if_neg (fun h => h1 (by have h4 := h.1; apply UInt8.toNat_inj.1; show b.toNat = 1; omega))]
      split
      · rename_i heq; injection heq with e1 _; exact absurd e1 h1
      · rfl
theorem ext_one (t : ByteArray) : t.extract 1 t.size = bstr (t.data.toList.drop 1) := by
  apply ByteArray.ext
  rw [ByteArray.data_extract]
  show _ = (t.data.toList.drop 1).toArray
  rw [← Array.toList_inj, Array.toList_extract]
  simp [List.extract]
  show List.take (t.data.toList.length - 1) _ = _
  rw [List.take_of_length_le (by rw [List.length_tail]; exact Nat.le_refl _)]
-- A
theorem rbatch_any (s : ByteArray) (w : World) (hs : s.size ≤ 140737488355328) :
    Calls Tryd.prog 36 #[.string s] w fun e w' => Below w.heap.size w w' ∧ RbRes w (rdB s) e w' := by
  obtain ⟨i0, hi, hz0, hz1, hz2⟩ := info_parts part_info
  have hB := rdB_rdF s
  have hF := fld_any s w hs
  cases hr : rdF s with
  | none =>
    rw [hr] at hB hF
    dsimp only at hB
    rw [hB]
    have HF := Lib.hid hF
    clear hB hs hr hF
    go_enter Tryd.func36, Tryd.ntmps36
    go_wp2_with fail
    apply wp_scope_straight
    go_wp2_with fail
    refine HF.out.mono ?_
    rintro e w5 ⟨hA, wx, hx, rfl⟩
    have HA := Lib.hid hA
    clear hA
    go_wp2_with fail
    apply wp_label
    go_wp2_with fail
    go_loopw [6, 36] (fun ok_ i_ wr => ok_ = .bool false ∧ i_ = .int .i64 0 ∧ wr = w5) (fun _ _ _ => 0)
    case atStart => exact ⟨rfl, rfl, rfl⟩
    case round =>
      obtain ⟨rfl, rfl, rfl⟩ := hrel
      have hz := HA.out.2.2
      go_wp2_with ((with_reducible refine wpList_store_whole rfl 24 (.tmp 2) (.tmp 77) rfl w.heap.size zlB zlB 24 rfl rfl hz rfl (batch_info _ rfl) batch_one ?_); intro w6 hU)
      refine noGoto_ret ?_
      exact post_cell_tmp 2 3 24 rfl w.heap.size _ zlB _ _ hU.out.at_ Tryd.underlying24 rfl (batch_info _ rfl) (.int .i64 6) rfl rfl rfl ⟨hU.out.below HA.out.1 (Nat.le_refl _), rfl⟩
  | some q =>
    obtain ⟨x, y, z, r⟩ := q
    rw [hr] at hB hF
    dsimp only at hB
    have HF := Lib.hid hF
    have HBB := Lib.hid hB
    have HTS := Lib.hid (rdF_sizes hr)
    clear hB hs hr hF
    obtain ⟨n, hn⟩ : ∃ n, n = r.length := ⟨_, rfl⟩
    have HN := Lib.hid hn
    clear hn
    go_enter Tryd.func36, Tryd.ntmps36
    go_wp2_with fail
    apply wp_scope_straight
    go_wp2_with fail
    refine HF.out.mono ?_
    rintro e w5 ⟨⟨hA1, hA2, hA3⟩, wx, hx, q, c, rfl, hp, hrd⟩
    have HR5 := Lib.hid (RbAt.start hA1 hA2 hA3 hx hp hrd)
    rw [← HN.out] at HR5 ⊢
    clear hA1 hA2 hA3 hx hp hrd
    have k0 : w5.cell? ⟨w.heap.size + 1, 0, none⟩ = some (.int .i64 x) := by rw [cell_of_row _ _ _ _ _ _ HR5.out.bt]; rfl
    have k1 : w5.cell? ⟨w.heap.size + 1, 1, none⟩ = some (.int .i64 y) := by rw [cell_of_row _ _ _ _ _ _ HR5.out.bt]; rfl
    have k2 : w5.cell? ⟨w.heap.size + 1, 2, none⟩ = some (.int .i64 z) := by rw [cell_of_row _ _ _ _ _ _ HR5.out.bt]; rfl
    have HC : Hid (Calls Tryd.prog 57 #[.slice (some ⟨w5.heap.size, 0, none⟩) 3 3] (w5.alloc (.cells #[.int .i64 x, .int .i64 y, .int .i64 z] 3)) fun e w' => e = .returned (.bool ([(x : Int), y, z].all numOk)) ∧ w' = w5.alloc (.cells #[.int .i64 x, .int .i64 y, .int .i64 z] 3)) := show Calls _ _ _ _ _ from nnum_any [(x : Int), y, z] _ w5.heap.size (heap_alloc_new w5 _) (show 3 ≤ 16 by decide)
    have HR6 := Lib.hid (HR5.out.next (bw_alloc (Below.refl _ _) (.cells #[.int .i64 x, .int .i64 y, .int .i64 z] 3)))
    obtain ⟨g, hg⟩ : ∃ g, g = [(x : Int), y, z].all numOk := ⟨_, rfl⟩
    rw [← hg] at HC
    have HG := Lib.hid hg
    obtain ⟨B, hB⟩ : ∃ B, B = w5.heap.size := ⟨_, rfl⟩
    have HBQ := Lib.hid hB
    clear hg hB
    go_wp2_with fail
    refine HC.out.mono ?_
    rintro e w6 ⟨rfl, hw6⟩
    rw [← hw6, ← HBQ.out] at HR6
    clear hw6 k0 k1 k2
    cases g with
    | true =>
      by_cases hn5 : n ≤ 512
      · have d5 : decide ((n : Int) ≤ 512) = true := decide_eq_true (by omega)
        have HCND : Hid (numOk x = true ∧ numOk y = true ∧ numOk z = true ∧ r.length ≤ 512) := show _ ∧ _ from by
          have := HG.out
          simp only [List.all_cons, List.all_nil, Bool.and_true] at this
          have h2 := this.symm
          simp only [Bool.and_eq_true] at h2
          exact ⟨h2.1, h2.2.1, h2.2.2, by rw [← HN.out]; exact hn5⟩
        go_wp2_with fail
        apply wp_label
        go_wp2_with fail
        go_loopw [6, 36] (fun ok_ i_ wr => ∃ (okb : Bool) (k : Nat) (ps : List PT) (v : Value), ok_ = .bool okb ∧ i_ = .int .i64 k ∧ k ≤ n ∧ ps.length ≤ k ∧ Hid (RbOk s x y z r k okb ps) ∧ Hid (RbAt w wr B x y z v (.slice q n c) r ps)) (fun _ i_ _ => match i_ with | .int _ k => n - k.toNat | _ => 0)
        case atStart => exact ⟨true, 0, [], .slice none 0 0, rfl, rfl, Nat.zero_le _, Nat.le_refl _, (show _ ∧ _ from ⟨HCND.out, rfl⟩), HR6⟩
        case round =>
          obtain ⟨okb, k, ps, v, rfl, rfl, hkn, hpk, HOK, HR⟩ := hrel
          have hz := HR.out.res
          by_cases hlt : k < n
          · have hkl : k < r.length := by have := HN.out; omega
            obtain ⟨gb, go_, hq, hgl, hgs, hc⟩ := HR.out.row.at k (by rw [strs, List.length_map]; exact hkl)
            subst hq
            obtain ⟨t, ht⟩ : ∃ t, t = r[k]'hkl := ⟨_, rfl⟩
            have kt : wr.cell? ⟨gb, go_ + k, none⟩ = some (.string t) := by rw [hc]; simp [strs, ← ht]
            have HDR : Hid (r = r.take k ++ t :: r.drop (k + 1)) := show _ = _ from by
              have h2 := List.take_append_drop k r
              rw [List.drop_eq_getElem_cons hkl, ← ht] at h2
              exact h2.symm
            have HTK : Hid (r.take (k + 1) = r.take k ++ [t]) := show _ = _ from by rw [List.take_succ_eq_append_getElem hkl, ← ht]
            have f0 : (0 : Int) ≤ k := by omega
            have f1 : (k : Int) < n := by omega
            have htz : t.size ≤ 65536 := HTS.out t (by rw [ht]; exact List.getElem_mem hkl)
            clear hc ht hgs
            cases okb with
            | false =>
              have HNB : Hid (rdB s = none) := show _ = _ from HOK.out
              go_wp2_with ((with_reducible refine wpList_store_whole rfl 24 (.tmp 2) (.tmp 77) rfl w.heap.size zlB zlB 24 rfl rfl hz rfl (batch_info _ rfl) batch_one ?_); intro w7 hU)
              refine noGoto_ret ?_
              exact post_cell_tmp 2 3 24 rfl w.heap.size _ zlB _ _ hU.out.at_ Tryd.underlying24 rfl (batch_info _ rfl) (.int .i64 6) rfl rfl rfl ⟨hU.out.below HR.out.b (Nat.le_refl _), by rw [HNB.out]; rfl⟩
            | true =>
              have HNO : Hid (rdPart t = none → rdB s = none) := show _ → _ from fun h => by
                rw [HBB.out, if_pos HCND.out]
                have h2 := rdPs_none (l := r.take k) (r := r.drop (k + 1)) h
                rw [← HDR.out] at h2
                rw [h2]
              by_cases ht0 : t.size = 0
              · have he : t.toList.isEmpty = true := by rw [empty_is, decide_eq_true ht0]
                have HNB : Hid (rdB s = none) := show _ = _ from HNO.out (by
                  have : t = ⟨#[]⟩ := ByteArray.ext (Array.eq_empty_of_size_eq_zero ht0)
                  rw [this]
                  rfl)
                go_wp2_with ((with_reducible refine wpList_store_whole rfl 24 (.tmp 2) (.tmp 77) rfl w.heap.size zlB zlB 24 rfl rfl hz rfl (batch_info _ rfl) batch_one ?_); intro w7 hU)
                refine noGoto_ret ?_
                exact post_cell_tmp 2 3 24 rfl w.heap.size _ zlB _ _ hU.out.at_ Tryd.underlying24 rfl (batch_info _ rfl) (.int .i64 6) rfl rfl rfl ⟨hU.out.below HR.out.b (Nat.le_refl _), by rw [HNB.out]; rfl⟩
              · have he : t.toList.isEmpty = false := by rw [empty_is, decide_eq_false ht0]
                have k3 : wr.cell? ⟨w.heap.size + 1, 3, none⟩ = some v := by rw [cell_of_row _ _ _ _ _ _ HR.out.bt]; rfl
                have HPS := Lib.hid HOK.out.2
                have hn9 : ps.length ≤ 512 := by omega
                have hsz0 : Hid (B ≤ wr.heap.size ∧ 0 < B) := show _ ∧ _ from ⟨HR.out.size, by have := HR.out.lo; omega⟩
                by_cases h2 : t = bstr [2]
                · have hq2 : (t.toList == [2]) = true := by rw [h2, ByteArray.toList_eq, bstr_toList]; exact beq_self_eq_true _
                  have HPT : Hid (rdPart t = some ⟨true, ⟨#[]⟩⟩) := show _ = _ from by rw [h2]; rfl
                  clear h2
                  have HFL := Lib.hid (part_fill (PT.mk true ⟨#[]⟩) hz1)
                  go_wp2_with (first
                    | (refine wpList_buildSlice rfl 22 57 1 #[(0, .tmp 52)] rfl (PT.cells (PT.mk true ⟨#[]⟩)).toArray i0 (.agg zlP.toArray) Tryd.underlying22 hi hz0 (by rw [hz1]; decide) (by rw [hz1]; decide) (by simp only [List.map_toArray, List.map_cons, List.map_nil]; exact HFL.out) ?_)
                    | ((at_builtin; refine wpList_append_own2 rfl (.tmp 51) (.tmp 53) 22 rfl B 57 i0 (.agg zlP.toArray) 2 24 Tryd.underlying22 hi hz0 hz1 hz2 rfl (by decide) _ _ (pcs ps) rfl (HR.out.own.alloc _) ⟨wr.heap.size, 0, none⟩ 1 1 (PT.cells (PT.mk true ⟨#[]⟩)) rfl rfl (news2 _ _ _) (pcells_one _) (by unfold maxLen; omega) (by omega) (by have := hsz0.out.1; simp; omega) ?_); intro v9 w9 hO9 hg9 hn9; obtain ⟨q9, c9, rfl⟩ := row_shape hO9; have c39 : w9.cell? ⟨w.heap.size + 1, 3, none⟩ = some v := (by rw [cell_of_row _ _ _ _ _ _ (HR.out.mid hg9)]; rfl); have cz9 : w9.frozen? ⟨w.heap.size + 1, 3, none⟩ = false := frozen_of_row w9 _ _ _ _ (HR.out.mid hg9); have HR9 := Lib.hid (HR.out.app hO9 hg9); clear hO9 hg9 hn9))
                  go_roundw
                  case rel =>
                    refine ⟨true, k + 1, ps ++ [(PT.mk true ⟨#[]⟩)], _, rfl, by go_num, by omega, by rw [List.length_append]; exact Nat.succ_le_succ hpk, ?_, HR9⟩
                    show _ ∧ _
                    refine ⟨HCND.out, ?_⟩
                    rw [HTK.out]
                    exact rdPs_snoc HPS.out HPT.out
                  case measure => simp; omega
                · have hq2 : (t.toList == [2]) = false := by
                    rw [beq_eq_false_iff_ne, ByteArray.toList_eq]
                    exact fun e => h2 (by rw [← bstr_of t, e])
                  have g1 : (1 : Int) ≤ t.size := by omega
                  have g0 : (0 : Int) < t.size := by omega
                  have g2 : 0 < t.size := by omega
                  have HRP : Hid (rdPart t = if ((t[0]'g2).toNat : Int) = 1 ∧ t.size ≤ 657 then some ⟨false, bstr (t.data.toList.drop 1)⟩ else none) := show _ = _ from rdPart_byte h2 g2
                  clear h2
                  by_cases hb1 : ((t[0]'g2).toNat : Int) = 1
                  · by_cases hsz7 : t.size ≤ 657
                    · have f9 : (t.size : Int) - 1 ≤ 656 := by omega
                      have HPT : Hid (rdPart t = some ⟨false, bstr (t.data.toList.drop 1)⟩) := show _ = _ from by rw [HRP.out, if_pos ⟨hb1, hsz7⟩]
                      have HRd := Lib.hid (HR.out.next (Below.refl wr.heap.size wr).drew)
                      have k3d : wr.drew.cell? ⟨w.heap.size + 1, 3, none⟩ = some v := k3
                      have hT1 : True := True.intro
                      obtain ⟨P, hPE⟩ : ∃ P : PT, P = ⟨false, t.extract 1 t.size⟩ := ⟨_, rfl⟩
                      have HPE : Hid (P = ⟨false, bstr (t.data.toList.drop 1)⟩) := show _ = _ from by
                        rw [hPE, show t.extract 1 t.size = bstr (t.data.toList.drop 1) from ext_one t]
                      have HFL0 := Lib.hid (part_fill P hz1)
                      have HFL : Hid (Instr.fill (fun i => some (i * i0.size, i0.size)) ((Array.range (1 * i0.size)).map ((Value.agg zlP.toArray).cells[· % (Value.agg zlP.toArray).cells.size]!)) #[(0, Value.agg #[.bool false, .string (t.extract 1 t.size)])].toList = some (PT.cells P).toArray) := show _ = _ from by
                        have h := part_fill P hz1
                        rw [hPE] at h ⊢
                        exact h
                      clear hPE
                      have k3f : (wr.alloc (.cells (PT.cells P).toArray 57)).cell? ⟨w.heap.size + 1, 3, none⟩ = some v := by
                        rw [cell_of_row _ _ _ _ _ _ ((HR.out.next (bw_alloc (Below.refl _ _) _)).bt)]
                        rfl
                      have k3e : (wr.alloc (.cells (PT.cells P).toArray 57)).drew.cell? ⟨w.heap.size + 1, 3, none⟩ = some v := k3f
                      go_wp2_with fail
                      refine wp_region_held_drew (S := fun _ => True) (by kernel_rfl) True.intro (fun _ => ?_)
                      refine rg_gen (i := 0) (v := ?_) rfl (by kernel_rfl) (by kernel_rfl) (by kernel_rfl) (fun _ _ _ h => h) rfl (by rfl) ?_ (by assumption) ?_
                      rotate_left
                      · intro w hSw
                        try dsimp only at hSw
                        go_simp
                        try with_reducible rfl
                      try simp only [Act.put, List.setIfInBounds_toArray, List.set_cons_zero, List.set_cons_succ]
                      refine rg_gen (i := 2) (v := ?_) rfl (by kernel_rfl) (by kernel_rfl) (by kernel_rfl) (fun _ _ _ h => h) rfl (by rfl) ?_ (by assumption) ?_
                      rotate_left
                      · intro w hSw
                        try dsimp only at hSw
                        go_simp
                        try with_reducible rfl
                      try simp only [Act.put, List.setIfInBounds_toArray, List.set_cons_zero, List.set_cons_succ]
                      refine rg_gen (i := 3) (v := ?_) rfl (by kernel_rfl) (by kernel_rfl) (by kernel_rfl) (fun _ _ _ h => h) rfl (by rfl) ?_ (by assumption) ?_
                      rotate_left
                      · intro w hSw
                        try dsimp only at hSw
                        go_simp
                        try with_reducible rfl
                      try simp only [Act.put, List.setIfInBounds_toArray, List.set_cons_zero, List.set_cons_succ]
                      refine rg_gen (i := 4) (v := ?_) rfl (by kernel_rfl) (by kernel_rfl) (by kernel_rfl) (fun _ _ _ h => h) rfl (by rfl) ?_ (by assumption) ?_
                      rotate_left
                      · intro w hSw
                        try dsimp only at hSw
                        go_simp
                        try with_reducible rfl
                      try simp only [Act.put, List.setIfInBounds_toArray, List.set_cons_zero, List.set_cons_succ]
                      refine wpAnyH_ready (rs := [1, 5]) (by kernel_rfl) (by simp) ?_
                      refine AllReadyH.cons rfl (fun K hK => ?_) (AllReadyH.cons rfl (fun K hK => ?_) AllReadyH.nil)
                      go_simp
                      refine hK.out _ _ True.intro (fun _ => ?_)
                      clear hK K
                      try simp only [Act.put, List.setIfInBounds_toArray, List.set_cons_zero, List.set_cons_succ]
                      refine rg_one (i := 5) (by kernel_rfl) rfl (fun K hK => ?_)
                      rw [if_pos (by rfl)]
                      refine wp_buildSlice 22 57 1 #[(0, .tmp 70)] rfl (PT.cells P).toArray i0 (.agg zlP.toArray) Tryd.underlying22 hi hz0 (by rw [hz1]; decide) (by rw [hz1]; decide) (by simp only [List.map_toArray, List.map_cons, List.map_nil]; exact HFL.out) ?_
                      refine hK.out _ _ True.intro (fun _ => ?_)
                      clear hK K
                      try simp only [Act.put, List.setIfInBounds_toArray]
                      rotate_left
                      rw [if_pos (by rfl)]
                      refine wp_buildSlice 22 57 1 #[(0, .tmp 70)] rfl (PT.cells P).toArray i0 (.agg zlP.toArray) Tryd.underlying22 hi hz0 (by rw [hz1]; decide) (by rw [hz1]; decide) (by simp only [List.map_toArray, List.map_cons, List.map_nil]; exact HFL.out) ?_
                      refine hK.out _ _ True.intro (fun _ => ?_)
                      clear hK K
                      try simp only [Act.put, List.setIfInBounds_toArray]
                      refine rg_one (i := 1) (by kernel_rfl) rfl (fun K hK => ?_)
                      go_simp
                      refine hK.out _ _ True.intro (fun _ => ?_)
                      clear hK K
                      all_goals
                        try simp only [Act.put, List.setIfInBounds_toArray, List.set_cons_zero, List.set_cons_succ]
                        refine rg_one (i := 6) (by kernel_rfl) rfl (fun K hK => ?_)
                        rw [if_pos (by rfl)]
                        refine wp_append_own2 (.tmp 67) (.tmp 71) 22 rfl B 57 i0 (.agg zlP.toArray) 2 24 Tryd.underlying22 hi hz0 hz1 hz2 rfl (by decide) v _ (pcs ps) (by rfl) (HRd.out.own.alloc _) ⟨wr.drew.heap.size, 0, none⟩ 1 1 (PT.cells P) (by rfl) rfl (news2 _ _ _) (pcells_one _) (by unfold maxLen; omega) (by omega) (by have := hsz0.out.1; simp; omega) ?_
                        intro v9 w9 hO9 hg9 hn9
                        obtain ⟨q9, c9, rfl⟩ := row_shape hO9
                        have c39 : w9.cell? ⟨w.heap.size + 1, 3, none⟩ = some v := (by rw [cell_of_row _ _ _ _ _ _ (HRd.out.mid hg9)]; rfl)
                        have cz9 : w9.frozen? ⟨w.heap.size + 1, 3, none⟩ = false := frozen_of_row w9 _ _ _ _ (HRd.out.mid hg9)
                        have HR9 := Lib.hid (HRd.out.app hO9 hg9)
                        clear hO9 hg9 hn9
                        refine hK.out _ _ True.intro (fun _ => ?_)
                        clear hK K
                        try simp only [Act.put, List.setIfInBounds_toArray]
                        refine rg_gen (i := 7) (v := ?_) rfl (by kernel_rfl) (by kernel_rfl) (by kernel_rfl) (fun _ _ _ h => h) rfl (by rfl) ?_ (by assumption) ?_
                        rotate_left
                        · intro w hSw
                          try dsimp only at hSw
                          go_simp
                          try with_reducible rfl
                        try simp only [Act.put]
                        refine rg_one (i := 8) (by kernel_rfl) rfl (fun K hK => ?_)
                        go_simp
                        refine hK.out _ _ True.intro (fun _ => ?_)
                        clear hK K
                        refine wpAnyH_done (by kernel_rfl) ?_ _
                        rw [HPE.out] at HR9
                        go_wp2_with fail
                        go_roundw
                        case rel =>
                          refine ⟨true, k + 1, ps ++ [⟨false, bstr (t.data.toList.drop 1)⟩], _, rfl, by go_num, by omega, by rw [List.length_append]; exact Nat.succ_le_succ hpk, ?_, HR9⟩
                          show _ ∧ _
                          refine ⟨HCND.out, ?_⟩
                          rw [HTK.out]
                          exact rdPs_snoc HPS.out HPT.out
                        case measure => simp; omega
                    · have f9 : (656 : Int) < t.size - 1 := by omega
                      have HNP : Hid (rdB s = none) := show _ = _ from HNO.out (by rw [HRP.out, if_neg]; intro h; exact hsz7 h.2)
                      go_wp2_with fail
                      refine ⟨⟨false, k + 1, ps, v, rfl, by go_num, by omega, by omega, HNP, HR⟩, ?_⟩
                      simp
                      omega
                  · have HNP : Hid (rdB s = none) := show _ = _ from HNO.out (by rw [HRP.out, if_neg]; intro h; exact hb1 h.1)
                    go_wp2_with fail
                    refine ⟨⟨false, k + 1, ps, v, rfl, by go_num, by omega, by omega, HNP, HR⟩, ?_⟩
                    simp
                    omega
          · obtain rfl : k = n := by omega
            have d9 : decide ((k : Int) < k) = false := decide_eq_false (by omega)
            cases okb with
            | false =>
              have HNB : Hid (rdB s = none) := show _ = _ from HOK.out
              go_wp2_with ((with_reducible refine wpList_store_whole rfl 24 (.tmp 2) (.tmp 77) rfl w.heap.size zlB zlB 24 rfl rfl hz rfl (batch_info _ rfl) batch_one ?_); intro w7 hU)
              refine noGoto_ret ?_
              exact post_cell_tmp 2 3 24 rfl w.heap.size _ zlB _ _ hU.out.at_ Tryd.underlying24 rfl (batch_info _ rfl) (.int .i64 6) rfl rfl rfl ⟨hU.out.below HR.out.b (Nat.le_refl _), by rw [HNB.out]; rfl⟩
            | true =>
              have hb4 := HR.out.bt
              have HO1 := Lib.hid (row_one HR.out.own)
              have HY : Hid (rdB s = some ⟨x, y, z, ps⟩) := show _ = _ from by
                have h2 := HOK.out.2
                rw [List.take_of_length_le (by rw [HN.out]; exact Nat.le_refl _)] at h2
                rw [HBB.out, if_pos HCND.out, h2]
              go_wp2_with (first
                | (with_reducible refine wpList_load_rows rfl 24 (.tmp 4) rfl (w.heap.size + 1) 0 (bcs x y z v) (bcs x y z v) 24 (0, 0) _ rfl hb4 (fun j v h => by rw [Nat.zero_add]; exact h) Tryd.underlying24 rfl (batch_info _ rfl) ?_)
                | ((with_reducible refine wpList_store_whole rfl 24 (.tmp 2) (.tmp 78) rfl w.heap.size (bcs x y z v) zlB 24 rfl rfl hz rfl (batch_info _ rfl) (bcs_one HO1.out) ?_); intro w7 hU))
              refine noGoto_ret ?_
              refine post_cell_tmp 2 3 24 rfl w.heap.size _ (bcs x y z v) _ _ hU.out.at_ Tryd.underlying24 rfl (batch_info _ rfl) (.int .i64 0) rfl rfl rfl ⟨hU.out.below HR.out.b (Nat.le_refl _), ?_⟩
              rw [HY.out]
              refine ⟨v, rfl, (PtsOwn (own_other HR.out.own fun j hj => hU.out.other j ?_)).mono fun b _ hb => ?_⟩
              · have := own_blk HR.out.own j hj; have := HR.out.lo; omega
              · have := HR.out.lo; omega
      · have d5 : decide ((n : Int) ≤ 512) = false := decide_eq_false (by omega)
        have HNB : Hid (∀ W, RbRes w (rdB s) (.returned (.tuple #[.agg zlB.toArray, .int .i64 6])) W) := show ∀ W, _ from by
          rw [HBB.out, if_neg (fun h => hn5 (by rw [HN.out]; exact h.2.2.2))]
          exact fun _ => rfl
        go_wp2_with fail
        apply wp_label
        go_wp2_with fail
        go_loopw [6, 36] (fun ok_ i_ wr => ok_ = .bool false ∧ i_ = .int .i64 0 ∧ wr = w6) (fun _ _ _ => 0)
        case atStart => exact ⟨rfl, rfl, rfl⟩
        case round =>
          obtain ⟨rfl, rfl, rfl⟩ := hrel
          have hz := HR6.out.res
          by_cases hn0 : n = 0
          · have d9 : decide ((0 : Int) < n) = false := decide_eq_false (by omega)
            go_wp2_with ((with_reducible refine wpList_store_whole rfl 24 (.tmp 2) (.tmp 77) rfl w.heap.size zlB zlB 24 rfl rfl hz rfl (batch_info _ rfl) batch_one ?_); intro w7 hU)
            refine noGoto_ret ?_
            exact post_cell_tmp 2 3 24 rfl w.heap.size _ zlB _ _ hU.out.at_ Tryd.underlying24 rfl (batch_info _ rfl) (.int .i64 6) rfl rfl rfl ⟨hU.out.below HR6.out.b (Nat.le_refl _), HNB.out _⟩
          · have f1 : (0 : Int) < n := by omega
            obtain ⟨gb, go_, hq, hgl, -, hc⟩ := HR6.out.row.at 0 (by rw [strs, List.length_map, ← HN.out]; omega)
            subst hq
            rw [Nat.add_zero] at hc
            obtain ⟨t, ht⟩ : ∃ t, t = (strs r)[0]'(by rw [strs, List.length_map, ← HN.out]; omega) := ⟨_, rfl⟩
            rw [← ht] at hc
            have htt : ∃ t', t = .string t' := by rw [ht]; simp [strs]
            obtain ⟨t', rfl⟩ := htt
            clear ht
            go_wp2_with ((with_reducible refine wpList_store_whole rfl 24 (.tmp 2) (.tmp 77) rfl w.heap.size zlB zlB 24 rfl rfl hz rfl (batch_info _ rfl) batch_one ?_); intro w7 hU)
            refine noGoto_ret ?_
            exact post_cell_tmp 2 3 24 rfl w.heap.size _ zlB _ _ hU.out.at_ Tryd.underlying24 rfl (batch_info _ rfl) (.int .i64 6) rfl rfl rfl ⟨hU.out.below HR6.out.b (Nat.le_refl _), HNB.out _⟩
    | false =>
      have HNB : Hid (∀ W, RbRes w (rdB s) (.returned (.tuple #[.agg zlB.toArray, .int .i64 6])) W) := show ∀ W, _ from by
        rw [HBB.out, if_neg (fun h => by have := HG.out; rw [List.all_cons, List.all_cons, List.all_cons, h.1, h.2.1, h.2.2.1] at this; cases this)]
        exact fun _ => rfl
      go_wp2_with fail
      apply wp_label
      go_wp2_with fail
      go_loopw [6, 36] (fun ok_ i_ wr => ok_ = .bool false ∧ i_ = .int .i64 0 ∧ wr = w6) (fun _ _ _ => 0)
      case atStart => exact ⟨rfl, rfl, rfl⟩
      case round =>
        obtain ⟨rfl, rfl, rfl⟩ := hrel
        have hz := HR6.out.res
        by_cases hn0 : n = 0
        · have d9 : decide ((0 : Int) < n) = false := decide_eq_false (by omega)
          go_wp2_with ((with_reducible refine wpList_store_whole rfl 24 (.tmp 2) (.tmp 77) rfl w.heap.size zlB zlB 24 rfl rfl hz rfl (batch_info _ rfl) batch_one ?_); intro w7 hU)
          refine noGoto_ret ?_
          exact post_cell_tmp 2 3 24 rfl w.heap.size _ zlB _ _ hU.out.at_ Tryd.underlying24 rfl (batch_info _ rfl) (.int .i64 6) rfl rfl rfl ⟨hU.out.below HR6.out.b (Nat.le_refl _), HNB.out _⟩
        · have f1 : (0 : Int) < n := by omega
          obtain ⟨gb, go_, hq, hgl, -, hc⟩ := HR6.out.row.at 0 (by rw [strs, List.length_map, ← HN.out]; omega)
          subst hq
          rw [Nat.add_zero] at hc
          obtain ⟨t, ht⟩ : ∃ t, t = (strs r)[0]'(by rw [strs, List.length_map, ← HN.out]; omega) := ⟨_, rfl⟩
          rw [← ht] at hc
          have htt : ∃ t', t = .string t' := by rw [ht]; simp [strs]
          obtain ⟨t', rfl⟩ := htt
          clear ht
          go_wp2_with ((with_reducible refine wpList_store_whole rfl 24 (.tmp 2) (.tmp 77) rfl w.heap.size zlB zlB 24 rfl rfl hz rfl (batch_info _ rfl) batch_one ?_); intro w7 hU)
          refine noGoto_ret ?_
          exact post_cell_tmp 2 3 24 rfl w.heap.size _ zlB _ _ hU.out.at_ Tryd.underlying24 rfl (batch_info _ rfl) (.int .i64 6) rfl rfl rfl ⟨hU.out.below HR6.out.b (Nat.le_refl _), HNB.out _⟩
-- B
end Go.Proofs.YtbeooeihedhabaaDoor
