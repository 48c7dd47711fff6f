/- cavalcaderef05.numbers: what the call does. A message read by the reference: plain. cavalcaderef05.ReadBatch: what the call does. -/
import Derived.Test.YtbeooeihedhabaaDoorBxRead
import Derived.Test.YtbeooeihedhabaaDoorR4
import Derived.Test.YtbeooeihedhabaaDoorRdAll
import Derived.OwnWalk
import Derived.Great.BuildSlice
import Derived.Test.YtbeooeihedhabaaDoorBxRWrite
namespace Go.Proofs.YtbeooeihedhabaaDoor
open Go.RowKit
set_option maxHeartbeats 4000000
set_option maxRecDepth 4000
theorem int_info : (Tryd.prog.info? 3).map (fun i => (i.zero, i.size, i.bytes)) = some (some (.int .i64 0), 1, 8) := by kernel_rfl
theorem rdNum_err0 {t : ByteArray} {e : Int} (h : rdNum t = .error e) : (e != 0) = true := by
  unfold rdNum at h
  rw [bne_iff_ne]
  split at h
  · rename_i x hx
    cases h
    have := rdN_err hx
    omega
  · split at h
    · cases h
    · cases h
      decide
/-- the first k texts are numbers, or they are not -/
def RnsRes (w : World) (k : Nat) (ts : List ByteArray) (e : Ending) (w' : World) : Prop :=
  (∃ ns : List Nat, ns.length = k ∧ k ≤ ts.length ∧ ok3 ts ns ∧ ∃ v, e = .returned (.tuple #[v, .bool true]) ∧ w'.ownsRow w.heap.size 3 1 v k (ints ns)) ∨
  ((ts.length < k ∨ ∃ j t e', j < k ∧ ts[j]? = some t ∧ rdNum t = .error e') ∧ e = .returned (.tuple #[.slice none 0 0, .bool false]))
theorem rnums_any (q : Option Addr) (c k : Nat) (ts : List ByteArray) (w : World) (hr : RdIn w (.slice q ts.length c) (strs ts) (fun b => b < w.heap.size)) (hk : k ≤ 4) (hz : ∀ t ∈ ts, t.size ≤ 65536) :
    Calls Tryd.prog 74 #[.slice q ts.length c, .int .i64 (k : Int)] w fun e w' => Below w.heap.size w w' ∧ RnsRes w k ts e w' := by
  obtain ⟨i0, hi, hz0, hz1, hz2⟩ := info_parts int_info
  have HR := Lib.hid hr
  have HZ := Lib.hid hz
  clear hr hz
  obtain ⟨n, hn⟩ : ∃ n, n = ts.length := ⟨_, rfl⟩
  rw [← hn] at HR ⊢
  have HN := Lib.hid hn
  clear hn
  by_cases hnk : n < k
  · have d1 : decide ((n : Int) < k) = true := decide_eq_true (by omega)
    go_enter Tryd.func74, Tryd.ntmps74
    go_wp2_with fail
    go_ret2
    exact ⟨Below.refl _ _, .inr ⟨.inl (by rw [← HN.out]; exact hnk), rfl⟩⟩
  · have d1 : decide ((n : Int) < k) = false := decide_eq_false (by omega)
    go_enter Tryd.func74, Tryd.ntmps74
    go_wp2_with fail
    go_loopw [6, 7] (fun o_ i_ wr => ∃ ns : List Nat, i_ = .int .i64 (ns.length : Nat) ∧ ns.length ≤ k ∧ Hid (ok3 ts ns) ∧ Hid (Below w.heap.size w wr) ∧ Hid (wr.ownsRow w.heap.size 3 1 o_ ns.length (ints ns))) (fun _ i_ _ => match i_ with | .int _ j => k - j.toNat | _ => 0)
    case atStart => exact ⟨[], rfl, Nat.zero_le _, (show ok3 _ _ from fun j hj => absurd hj (Nat.not_lt_zero j)), (show Below _ _ _ from Below.refl _ _), (show World.ownsRow _ _ _ _ _ _ _ from own_nil _ _ _ _)⟩
    case round =>
      obtain ⟨ns, rfl, hnk2, HOK, HB, HO⟩ := hrel
      by_cases hlt : ns.length < k
      · have hkl : ns.length < ts.length := by have := HN.out; omega
        obtain ⟨gb, go_, hq, hgl, -, hc⟩ := HR.out.at ns.length (by rw [strs, List.length_map]; exact hkl)
        subst hq
        obtain ⟨t, ht⟩ : ∃ t, t = ts[ns.length]'hkl := ⟨_, rfl⟩
        have kt : wr.cell? ⟨gb, go_ + ns.length, none⟩ = some (.string t) := by
          rw [HB.out.cell (p := ⟨gb, go_ + ns.length, none⟩) hgl, hc]
          simp [strs, ← ht]
        have HT : Hid (ts[ns.length]? = some t) := show _ = _ from by rw [ht]; exact List.getElem?_eq_getElem hkl
        have htz : t.size ≤ 65536 := HZ.out t (by rw [ht]; exact List.getElem_mem hkl)
        have HC := r4num_any t wr (by omega)
        have f0 : (0 : Int) ≤ (ns.length : Nat) := by omega
        have f1 : ((ns.length : Nat) : Int) < k := by omega
        have f2 : ((ns.length : Nat) : Int) < n := by omega
        clear hc ht
        cases hv : rdNum t with
        | error e9 =>
          have he := rdNum_err0 hv
          have HBAD : Hid (∃ j t e', j < k ∧ ts[j]? = some t ∧ rdNum t = .error e') := show ∃ j, _ from ⟨_, t, e9, hlt, HT.out, hv⟩
          rw [hv] at HC
          have HC : Hid (Calls Tryd.prog 88 #[.string t] wr fun e w' => e = .returned (.tuple #[.int .i64 0, .int .i64 e9]) ∧ w' = wr) := HC
          clear hv
          go_wp2_with fail
          refine HC.out.mono ?_
          rintro e w5 ⟨rfl, rfl⟩
          go_wp2_with fail
          go_ret2
          exact ⟨HB.out, .inr ⟨.inr HBAD.out, rfl⟩⟩
        | ok x =>
          rw [hv] at HC
          have HC : Hid (Calls Tryd.prog 88 #[.string t] wr fun e w' => e = .returned (.tuple #[.int .i64 (x : Int), .int .i64 0]) ∧ w' = wr) := HC
          have HOK2 := Lib.hid (ok3_snoc HOK.out HT.out hv)
          clear hv
          go_wp2_with fail
          refine HC.out.mono ?_
          rintro e w5 ⟨rfl, rfl⟩
          go_wp2_with (at_builtin; refine wpList_append_own _ rfl (.tmp 29) (.tmp 31) 95 rfl w.heap.size 3 i0 (.int .i64 0) 1 8 Tryd.underlying95 hi hz0 hz1 hz2 rfl (by decide) _ _ (ints ns) rfl (HO.out.alloc _) ⟨w5.heap.size, 0, none⟩ 1 1 [.int .i64 (x : Int)] rfl rfl (fun j u hj => news2 w5 [.int .i64 (x : Int)] 3 j u hj) (by simp [Value.oneCell']) (by unfold maxLen; omega) (by omega) (by have := HB.out.size; simp; omega) ?_; intro v9 w9 hO9 hg9 hn9)
          have HO9 : Hid (w9.ownsRow w.heap.size 3 1 v9 (ns ++ [x]).length (ints (ns ++ [x]))) := show World.ownsRow _ _ _ _ _ _ _ from by
            rw [List.length_append, ints, List.map_append]
            exact hO9
          have HB9 : Hid (Below w.heap.size w w9) := show Below _ _ _ from (bw_alloc HB.out _).grown hg9 (by have := HB.out.size; simp; omega) (fun j hj => own_blk HO.out j hj)
          clear hO9 hg9 hn9
          go_roundw
          case rel => exact ⟨ns ++ [x], by rw [List.length_append]; go_num, by rw [List.length_append]; exact hlt, HOK2, HB9, HO9⟩
          case measure => simp; omega
      · have hkn : ns.length = k := by omega
        have HKN := Lib.hid hkn
        have d2 : decide (((ns.length : Nat) : Int) < k) = false := decide_eq_false (by omega)
        clear hkn
        go_wp2_with fail
        go_ret2
        refine ⟨HB.out, .inl ⟨ns, HKN.out, by rw [← HN.out]; omega, HOK.out, _, rfl, ?_⟩⟩
        rw [← HKN.out]
        exact HO.out
/-- the message that cavalcaderef05.ReadBatch makes of a text -/
def partOf (t : ByteArray) : PT := if t = bstr [2] then ⟨true, ⟨#[]⟩⟩ else ⟨false, bstr (t.data.toList.drop 1)⟩
theorem rdPart_of (t : ByteArray) : rdPart t = if (partOf t).txt = some t then some (partOf t) else none := by
  by_cases h2 : t = bstr [2]
  · subst h2
    rfl
  · have hp : partOf t = ⟨false, bstr (t.data.toList.drop 1)⟩ := if_neg h2
    rw [hp]
    cases hx : (PT.mk false (bstr (t.data.toList.drop 1))).txt with
    | none =>
      rw [if_neg (by intro h; cases h)]
      cases hr : rdPart t with
      | none => rfl
      | some p =>
        exfalso
        unfold rdPart at hr
        rw [if_neg h2] at hr
        split at hr
        · rename_i r hl
          split at hr
          · rename_i hz
            rw [hl] at hx
            unfold PT.txt at hx
            rw [if_neg (by simp), if_pos (by rw [bstr_size]; exact hz)] at hx
            cases hx
          · cases hr
        · cases hr
    | some u =>
      by_cases hu : u = t
      · subst hu
        rw [if_pos rfl]
        exact rdPart_txt hx
      · rw [if_neg (by intro h; injection h with h; exact hu h)]
        cases hr : rdPart t with
        | none => rfl
        | some p =>
          exfalso
          unfold rdPart at hr
          rw [if_neg h2] at hr
          split at hr
          · rename_i r hl
            rw [hl] at hx
            unfold PT.txt at hx
            rw [if_neg (by simp)] at hx
            split at hx
            · cases hx
              apply hu
              rw [← bstr_of t, hl]
              rfl
            · cases hx
          · cases hr
open Go.RowKit
set_option maxHeartbeats 4000000
set_option maxRecDepth 4000
/-- what the loop holds: nb = the batch's block, B = where its messages may lie -/
structure RrAt (w wr : World) (B nb : Nat) (x y z : Int) (v u : Value) (r : List ByteArray) (ps : List PT) : Prop where
  b : Below w.heap.size w wr
  size : B ≤ wr.heap.size
  lo : w.heap.size < nb
  hi : nb < B
  res : wr.heap[w.heap.size]? = some (.cells zlB.toArray 24 (0, 0))
  bt : wr.heap[nb]? = some (.cells (bcs x y z v).toArray 24 (0, 0))
  own : wr.ownsRow B 57 2 v ps.length (pcs ps)
  row : RdIn wr u (strs r) (fun b => b < B ∧ b ≠ nb ∧ b ≠ w.heap.size)
theorem RrAt.app {w wr w' : World} {B nb : Nat} {x y z : Int} {v v' u : Value} {r : List ByteArray} {ps : List PT} {p : PT} {cs : Array Value} {t : TypeId} (h : RrAt w wr B nb x y z v u r ps) (ho : w'.ownsRow B 57 2 v' (ps.length + 1) (pcs ps ++ p.cells)) (hg : (wr.alloc (.cells cs t)).grownBy w' v.ownBlock) : RrAt w (w'.setCell ⟨nb, 3, none⟩ v') B nb x y z v' u r (ps ++ [p]) := by
  have hlo := h.lo
  have hhi := h.hi
  have hsz := h.size
  have hw := h.b.size
  have hb1 : Below wr.heap.size wr (wr.alloc (.cells cs t)) := bw_alloc (Below.refl _ _) _
  have hs1 := hb1.size
  have hown : ∀ k, v.ownBlock = some k → B ≤ k := fun k hk => own_blk h.own k hk
  have hgs := hg.size
  have hT := Turn.set w' nb 3 v'
  -- a block below B, other than the batch's
  have keep : ∀ k, k < B → k ≠ nb → (w'.setCell ⟨nb, 3, none⟩ v').heap[k]? = wr.heap[k]? := fun k hk hn => by
    rw [hT.block k (by omega) hn, hg.block k (by omega) (fun e => by have := hown k e.symm; omega), hb1.block k (by omega)]
  have hbt : w'.heap[nb]? = some (.cells (bcs x y z v).toArray 24 (0, 0)) := by
    rw [hg.block _ (by omega) (fun e => by have := hown _ e.symm; omega), hb1.block _ (by omega)]
    exact h.bt
  refine ⟨?_, ?_, hlo, hhi, (keep _ (by omega) (by omega)).trans h.res, set_row hbt v', ?_, ?_⟩
  · have h1 : Below w.heap.size w w' := (h.b.trans (hb1.mono hw)).grown hg (by omega) (fun k hk => by have := hown k hk; omega)
    exact hT.below h1 (by omega) (fun k e => by omega)
  · have := hT.size; omega
  · rw [List.length_append, pcs_snoc]
    refine own_other ho fun k hk => hT.block k (ho.lt k hk).2 ?_
    have := own_blk ho k hk
    omega
  · refine h.row.kept (by have := hT.size; omega) fun b _ hs => keep b hs.1 hs.2.1
theorem RrAt.next {w wr w' : World} {B nb : Nat} {x y z : Int} {v u : Value} {r : List ByteArray} {ps : List PT} (h : RrAt w wr B nb x y z v u r ps) (hb : Below wr.heap.size wr w') : RrAt w w' B nb x y z v u r ps := by
  have hlo := h.lo
  have hhi := h.hi
  have hsz := h.size
  have hs := hb.size
  have hw := h.b.size
  exact ⟨h.b.trans (hb.mono h.b.size), by omega, hlo, hhi, (hb.block _ (by omega)).trans h.res, (hb.block _ (by omega)).trans h.bt, own_other h.own fun k hk => hb.block k (h.own.lt k hk).2, h.row.kept hs fun b hb' _ => hb.block b hb'⟩
theorem RrAt.mid {w wr w' : World} {B nb : Nat} {x y z : Int} {v u : Value} {r : List ByteArray} {ps : List PT} {cs : Array Value} {t : TypeId} (h : RrAt w wr B nb x y z v u r ps) (hg : (wr.alloc (.cells cs t)).grownBy w' v.ownBlock) : w'.heap[nb]? = some (.cells (bcs x y z v).toArray 24 (0, 0)) := by
  have hlo := h.hi
  have hsz := h.size
  have hb1 : Below wr.heap.size wr (wr.alloc (.cells cs t)) := bw_alloc (Below.refl _ _) _
  have hs1 := hb1.size
  rw [hg.block _ (by omega) (fun e => by have := own_blk h.own _ e.symm; omega), hb1.block _ (by omega)]
  exact h.bt
theorem ints3_cells {W : World} {base : Nat} {q : Option Addr} {c : Nat} {x y z : Nat} (h : W.ownsRow base 3 1 (.slice q 3 c) 3 (ints [x, y, z])) :
    ∃ g, q = some ⟨g, 0, none⟩ ∧ g < W.heap.size ∧ W.cell? ⟨g, 0, none⟩ = some (.int .i64 x) ∧ W.cell? ⟨g, 1, none⟩ = some (.int .i64 y) ∧ W.cell? ⟨g, 2, none⟩ = some (.int .i64 z) := by
  rcases h.2 with ⟨_, h0⟩ | ⟨g, cap, cur, he, hb, hg, _, _, _, ht⟩
  · cases h0
  · injection he with e1 e2 e3
    refine ⟨g, e1, block_lt hg, ?_, ?_, ?_⟩ <;> rw [cell_of_row _ _ _ _ _ _ hg, ← Array.getElem?_toList, ← List.getElem?_take_of_lt (show _ < 3 * 1 by decide), ht] <;> rfl
theorem batch_alloc (w : World) : (Instr.alloc 24 true (.tuple #[])).run Tryd.prog w = .ok (.pointer (some ⟨w.heap.size, 0, none⟩)) (w.alloc (.cells zlB.toArray 24)) := by kernel_rfl
/-- the list's first three are no numbers -/
theorem rd3_bad {ts : List ByteArray} (h : ts.length < 3 ∨ ∃ j t e', j < 3 ∧ ts[j]? = some t ∧ rdNum t = .error e') : rd3 ts = none := by
  rcases h with h | ⟨j, t, e, hj, ht, he⟩
  · unfold rd3
    split
    · simp at h; omega
    · rfl
  · exact rd3_fail hj ht he
-- A
theorem rrbatch_any (s : ByteArray) (w : World) (hs : s.size ≤ 140737488355328) :
    Calls Tryd.prog 41 #[.string s] w fun e w' => Below w.heap.size w w' ∧ RbRes w (rdB s) e w' := by
  obtain ⟨i0, hi, hz0, hz1, hz2⟩ := info_parts part_info
  have HC := Lib.hid (r4list_nil s (w.alloc (.cells zlB.toArray 24)) hs)
  have hz0' := heap_alloc_new w (.cells zlB.toArray 24)
  have HB0 := Lib.hid (bw_alloc (Below.refl w.heap.size w) (.cells zlB.toArray 24))
  have hs0 : (w.alloc (.cells zlB.toArray 24)).heap.size = w.heap.size + 1 := by simp
  cases hr : rdAll s with
  | error x =>
    have hx0 : (x != 0) = true := rdAll_err hr
    have HNB : Hid (rdB s = none) := show _ = _ from by unfold rdB; rw [hr]
    rw [hr] at HC
    have HC : Hid (Calls Tryd.prog 37 #[.string s] (w.alloc (.cells zlB.toArray 24)) fun e w' => Below (w.alloc (.cells zlB.toArray 24)).heap.size (w.alloc (.cells zlB.toArray 24)) w' ∧ e = .returned (.tuple #[.slice none 0 0, .int .i64 x])) := HC
    rw [hs0] at HC
    have HZ := Lib.hid hz0'
    clear hr hs hs0 hz0'
    go_enter Tryd.func41, Tryd.ntmps41
    go_wp2_with fail
    refine HC.out.mono ?_
    rintro e w1 ⟨hb1, rfl⟩
    have HB1 : Hid (Below w.heap.size w w1) := show Below _ _ _ from HB0.out.trans (hb1.mono (by omega))
    have HZ1 : Hid (w1.heap[w.heap.size]? = some (.cells zlB.toArray 24 (0, 0))) := show _ = _ from (hb1.block _ (by omega)).trans HZ.out
    clear hb1
    have HN : Hid (Calls Tryd.prog 74 #[.slice none 0 0, .int .i64 3] w1 fun e w' => Below w1.heap.size w1 w' ∧ RnsRes w1 3 [] e w') := show Calls _ _ _ _ _ from rnums_any none 0 3 [] w1 (RdIn.nil _ _) (by decide) (fun _ h => by cases h)
    go_wp2_with fail
    refine HN.out.mono ?_
    rintro e w2 ⟨hb2, hR⟩
    have he2 : e = .returned (.tuple #[.slice none 0 0, .bool false]) := by
      rcases hR with ⟨ns, _, h2, _⟩ | ⟨_, h⟩
      · exact absurd h2 (by decide)
      · exact h
    subst he2
    have HBX : Hid (Below w.heap.size w w2) := show Below _ _ _ from HB1.out.trans (hb2.mono HB1.out.size)
    have hz : w2.heap[w.heap.size]? = some (.cells zlB.toArray 24 (0, 0)) := (hb2.block _ (block_lt HZ1.out)).trans HZ1.out
    clear hb2 hR
    go_wp2_with ((with_reducible refine wpList_store_whole rfl 24 (.tmp 2) (.tmp 34) rfl w.heap.size zlB zlB 24 rfl rfl hz rfl (batch_info _ rfl) batch_one ?_); intro w7 hU)
    exact post_cell_tmp 2 3 24 rfl w.heap.size _ zlB _ _ hU.out.at_ Tryd.underlying24 rfl (batch_info _ rfl) (.int .i64 6) rfl rfl rfl ⟨hU.out.below HBX.out (Nat.le_refl _), by rw [HNB.out]; rfl⟩
  | ok ts =>
    have hB : rdB s = match rd3 ts with
        | none => none
        | some (x, y, z, r) => if numOk x = true ∧ numOk y = true ∧ numOk z = true ∧ r.length ≤ 512 then match rdPs r with
            | none => none
            | some ps => some ⟨x, y, z, ps⟩
          else none := by unfold rdB; rw [hr]; rfl
    have HBB := Lib.hid hB
    have HTS := Lib.hid (rdAll_sizes hr)
    rw [hr] at HC
    have HC : Hid (Calls Tryd.prog 37 #[.string s] (w.alloc (.cells zlB.toArray 24)) fun e w' => Below (w.alloc (.cells zlB.toArray 24)).heap.size (w.alloc (.cells zlB.toArray 24)) w' ∧ ∃ v, e = .returned (.tuple #[v, .int .i64 0]) ∧ w'.ownsRow (w.alloc (.cells zlB.toArray 24)).heap.size 9 1 v ts.length (strs ts)) := HC
    rw [hs0] at HC
    have HZ := Lib.hid hz0'
    clear hr hs hs0 hz0' hB
    obtain ⟨n, hn⟩ : ∃ n, n = ts.length := ⟨_, rfl⟩
    rw [← hn] at HC
    have HNN := Lib.hid hn
    clear hn
    go_enter Tryd.func41, Tryd.ntmps41
    go_wp2_with fail
    refine HC.out.mono ?_
    rintro e w1 ⟨hb1, v, rfl, ho1⟩
    have HB1 : Hid (Below w.heap.size w w1) := show Below _ _ _ from HB0.out.trans (hb1.mono (by omega))
    have HZ1 : Hid (w1.heap[w.heap.size]? = some (.cells zlB.toArray 24 (0, 0))) := show _ = _ from (hb1.block _ (by omega)).trans HZ.out
    obtain ⟨q, c, rfl⟩ := row_shape ho1
    have HRD : Hid (RdIn w1 (.slice q n c) (strs ts) (fun b => b < w1.heap.size ∧ w.heap.size < b)) := show RdIn _ _ _ _ from (RdIn.of_own ho1).mono fun b hb hS => ⟨hb, by omega⟩
    clear hb1 ho1
    have HN : Hid (Calls Tryd.prog 74 #[.slice q n c, .int .i64 3] w1 fun e w' => Below w1.heap.size w1 w' ∧ RnsRes w1 3 ts e w') := show Calls _ _ _ _ _ from by
      have h := HRD.out
      rw [HNN.out] at h ⊢
      exact rnums_any q c 3 ts w1 (h.mono fun b _ hS => hS.1) (by decide) HTS.out
    go_wp2_with fail
    refine HN.out.mono ?_
    rintro e w2 ⟨hb2, hR⟩
    have HBX : Hid (Below w.heap.size w w2) := show Below _ _ _ from HB1.out.trans (hb2.mono HB1.out.size)
    have hz : w2.heap[w.heap.size]? = some (.cells zlB.toArray 24 (0, 0)) := (hb2.block _ (block_lt HZ1.out)).trans HZ1.out
    have HRD2 : Hid (RdIn w2 (.slice q n c) (strs ts) (fun b => b < w1.heap.size ∧ w.heap.size < b)) := show RdIn _ _ _ _ from HRD.out.kept hb2.size fun b hb hS => hb2.block b hS.1
    have HS12 : Hid (w1.heap.size ≤ w2.heap.size ∧ w.heap.size < w1.heap.size) := show _ ∧ _ from ⟨hb2.size, block_lt HZ1.out⟩
    clear hb2
    rcases hR with ⟨ns, hn3, hl3, hok, v2, rfl, ho2⟩ | ⟨hbad, rfl⟩
    · have HO2 := Lib.hid ho2
      have HOK := Lib.hid hok
      obtain ⟨x, y, z, hxyz⟩ : ∃ x y z, ns = [x, y, z] := by
        match ns, hn3 with
        | [x, y, z], _ => exact ⟨x, y, z, rfl⟩
      subst hxyz
      obtain ⟨r, hr3⟩ : ∃ r, rd3 ts = some (x, y, z, r) ∧ r = ts.drop 3 := by
        match ts, hl3, HOK.out with
        | A :: B :: C :: r, _, h => exact ⟨r, rd3_done h, rfl⟩
      have hB3 := HBB.out
      rw [hr3.1] at hB3
      dsimp only at hB3
      have HB3 := Lib.hid hB3
      have HRT := Lib.hid hr3.2
      have hrl : n = r.length + 3 := by rw [HNN.out, hr3.2, List.length_drop]; omega
      have HRL := Lib.hid hrl
      clear hB3 hr3 ho2 hok hn3
      obtain ⟨q2, c2, rfl⟩ := row_shape HO2.out
      by_cases h5 : n ≤ 515
      · have d5 : decide ((515 : Int) < n) = false := decide_eq_false (by omega)
        obtain ⟨g2, rfl, hg2, c0, c1, c2'⟩ := ints3_cells HO2.out
        have KEEP := Lib.hid (fun W (h : Below w2.heap.size w2 W) => (show W.cell? ⟨g2, 0, none⟩ = some (.int .i64 x) ∧ W.cell? ⟨g2, 1, none⟩ = some (.int .i64 y) ∧ W.cell? ⟨g2, 2, none⟩ = some (.int .i64 z) from ⟨(h.cell (p := ⟨g2, 0, none⟩) hg2).trans c0, (h.cell (p := ⟨g2, 1, none⟩) hg2).trans c1, (h.cell (p := ⟨g2, 2, none⟩) hg2).trans c2'⟩))
        have HBD := Lib.hid (Below.refl w2.heap.size w2).drew
        clear hrl hg2
        go_wp2_with fail
        refine wp_region_held_drew (S := fun W => W.cell? ⟨g2, 0, none⟩ = some (.int .i64 x) ∧ W.cell? ⟨g2, 1, none⟩ = some (.int .i64 y) ∧ W.cell? ⟨g2, 2, none⟩ = some (.int .i64 z)) (by kernel_rfl) ⟨c0, c1, c2'⟩ (fun _ => ?_)
        clear c0 c1 c2'
        refine rg_gen (i := 0) (v := ?_) rfl (by kernel_rfl) (by kernel_rfl) (by kernel_rfl) (fun _ _ _ h => h) rfl (by rfl) ?_ (by assumption) ?_
        rotate_left
        · intro w hSw
          try dsimp only at hSw
          go_simp
          try with_reducible rfl
        try simp only [Act.put, List.setIfInBounds_toArray, List.set_cons_zero, List.set_cons_succ]
        refine rg_gen (i := 1) (v := ?_) rfl (by kernel_rfl) (by kernel_rfl) (by kernel_rfl) (fun _ _ _ h => h) rfl (by rfl) ?_ (by assumption) ?_
        rotate_left
        · intro w hSw
          try dsimp only at hSw
          go_simp
          try with_reducible rfl
        try simp only [Act.put, List.setIfInBounds_toArray, List.set_cons_zero, List.set_cons_succ]
        refine rg_gen (i := 2) (v := ?_) rfl (by kernel_rfl) (by kernel_rfl) (by kernel_rfl) (fun _ _ _ h => h) rfl (by rfl) ?_ (by assumption) ?_
        rotate_left
        · intro w hSw
          try dsimp only at hSw
          go_simp
          try with_reducible rfl
        try simp only [Act.put, List.setIfInBounds_toArray, List.set_cons_zero, List.set_cons_succ]
        refine rg_gen (i := 3) (v := ?_) rfl (by kernel_rfl) (by kernel_rfl) (by kernel_rfl) (fun _ _ _ h => h) rfl (by rfl) ?_ (by assumption) ?_
        rotate_left
        · intro w hSw
          try dsimp only at hSw
          go_simp
          try with_reducible rfl
        try simp only [Act.put, List.setIfInBounds_toArray, List.set_cons_zero, List.set_cons_succ]
        refine rg_gen (i := 4) (v := ?_) rfl (by kernel_rfl) (by kernel_rfl) (by kernel_rfl) (fun _ _ _ h => h) rfl (by rfl) ?_ (by assumption) ?_
        rotate_left
        · intro w hSw
          try dsimp only at hSw
          go_simp
          try with_reducible rfl
        try simp only [Act.put, List.setIfInBounds_toArray, List.set_cons_zero, List.set_cons_succ]
        refine rg_gen (i := 5) (v := ?_) rfl (by kernel_rfl) (by kernel_rfl) (by kernel_rfl) (fun _ _ _ h => h) rfl (by rfl) ?_ (by assumption) ?_
        rotate_left
        · intro w hSw
          try dsimp only at hSw
          go_simp
          try with_reducible rfl
        try simp only [Act.put, List.setIfInBounds_toArray, List.set_cons_zero, List.set_cons_succ]
        refine rg_gen (i := 6) (v := ?_) rfl (by kernel_rfl) (by kernel_rfl) (by kernel_rfl) (fun _ _ _ h => h) rfl (by rfl) ?_ (by assumption) ?_
        rotate_left
        · intro w hSw
          try dsimp only at hSw
          go_simp
          try with_reducible rfl
        try simp only [Act.put, List.setIfInBounds_toArray, List.set_cons_zero, List.set_cons_succ]
        refine rg_gen (i := 7) (v := ?_) rfl (by kernel_rfl) (by kernel_rfl) (by kernel_rfl) (fun _ _ _ h => h) rfl (by rfl) ?_ (by assumption) ?_
        rotate_left
        · intro w hSw
          try dsimp only at hSw
          go_simp
          try with_reducible rfl
        try simp only [Act.put, List.setIfInBounds_toArray, List.set_cons_zero, List.set_cons_succ]
        refine rg_gen (i := 8) (v := ?_) rfl (by kernel_rfl) (by kernel_rfl) (by kernel_rfl) (fun _ _ _ h => h) rfl (by rfl) ?_ (by assumption) ?_
        rotate_left
        · intro w hSw
          try dsimp only at hSw
          go_simp
          try with_reducible rfl
        try simp only [Act.put, List.setIfInBounds_toArray, List.set_cons_zero, List.set_cons_succ]
        refine rg_gen (i := 9) (v := ?_) rfl (by kernel_rfl) (by kernel_rfl) (by kernel_rfl) (fun _ _ _ h => h) rfl (by rfl) ?_ (by assumption) ?_
        rotate_left
        · intro w hSw
          try dsimp only at hSw
          go_simp
          try with_reducible rfl
        try simp only [Act.put, List.setIfInBounds_toArray, List.set_cons_zero, List.set_cons_succ]
        refine rg_one (i := 10) (by kernel_rfl) rfl (fun K hK => ?_)
        refine rg_step (s := Instr.alloc 24 true (.tuple #[])) (by rfl) rfl rfl (batch_alloc w2.drew) ?_
        have HB6 : Hid (Below w2.heap.size w2 (w2.drew.alloc (.cells zlB.toArray 24))) := show Below _ _ _ from bw_alloc HBD.out _
        refine hK.out _ _ (KEEP.out _ HB6.out) (fun _ => ?_)
        clear hK K
        try simp only [Act.put, List.setIfInBounds_toArray, List.set_cons_zero, List.set_cons_succ]
        refine rg_one (i := 11) (by kernel_rfl) rfl (fun K hK => ?_)
        refine rg_store (by rfl) rfl 24 (.tmp 8) (.tmp 44) rfl w2.heap.size (bcs x y z (.slice none 0 0)) zlB 24 rfl rfl (heap_alloc_new w2.drew _) rfl (batch_info _ rfl) (bcs_one rfl) (fun W5 hU => ?_)
        have HR5 : Hid (RrAt w W5 (w2.heap.size + 1) w2.heap.size x y z (.slice none 0 0) (.slice q n c) ts []) := show RrAt _ _ _ _ _ _ _ _ _ _ _ from by
          have hb7 : Below w2.heap.size w2 W5 := hU.below HB6.out (Nat.le_refl _)
          have h1 := HS12.out
          refine ⟨HBX.out.trans (hb7.mono HBX.out.size), ?_, by omega, by omega, (hb7.block _ (by omega)).trans hz, hU.at_, own_nil _ _ _ _, HRD2.out.kept hb7.size (fun b hb hS => hb7.block b hb) |>.mono fun b _ hS => ⟨by omega, by omega, by omega⟩⟩
          have := block_lt hU.at_
          omega
        refine hK.out _ _ (KEEP.out _ (hU.below HB6.out (Nat.le_refl _))) (fun _ => ?_)
        clear hK K hz
        refine wpAnyH_done (by kernel_rfl) ?_ _
        rw [show w2.drew.heap.size = w2.heap.size from rfl]
        generalize hB5 : w2.heap.size = nb at *
        clear hB5
        go_wp2_with fail
        obtain ⟨B, hB⟩ : ∃ B, B = nb + 1 := ⟨_, rfl⟩
        rw [← hB] at HR5
        clear hB HRD2 HO2 HN HS12 HB6 HBD
        go_loopw [9] (fun i_ wr => ∃ (k : Nat) (ps : List PT) (v : Value), i_ = .int .i64 k ∧ 3 ≤ k ∧ k ≤ n ∧ ps.length + 3 = k ∧ Hid (rdPs (r.take (k - 3)) = some ps) ∧ Hid (RrAt w wr B nb x y z v (.slice q n c) ts ps)) (fun i_ _ => match i_ with | .int _ k => n - k.toNat | _ => 0)
        case atStart => exact ⟨3, [], .slice none 0 0, rfl, Nat.le_refl _, (by have := HRL.out; omega), rfl, (show _ = _ from rfl), HR5⟩
        case round =>
          obtain ⟨k, ps, v, rfl, hk3, hkn, hpk, HPS, HR⟩ := hrel
          have hz := HR.out.res
          by_cases hlt : k < n
          · have hkl : k < ts.length := by have := HNN.out; omega
            obtain ⟨gb, go_, hq, hgl, hgs, hc⟩ := HR.out.row.at k (by rw [strs, List.length_map]; exact hkl)
            subst hq
            obtain ⟨t, ht⟩ : ∃ t, t = ts[k]'hkl := ⟨_, rfl⟩
            have kt : wr.cell? ⟨gb, go_ + k, none⟩ = some (.string t) := by rw [hc]; simp [strs, ← ht]
            have hkr : k - 3 < r.length := by have := HRL.out; omega
            have htr : t = r[k - 3]'hkr := by
              rw [ht]
              have h := HRT.out
              subst h
              rw [List.getElem_drop]
              congr 1
              omega
            have HDR : Hid (r = r.take (k - 3) ++ t :: r.drop (k - 3 + 1)) := show _ = _ from by
              have h2 := List.take_append_drop (k - 3) r
              rw [List.drop_eq_getElem_cons hkr, ← htr] at h2
              exact h2.symm
            have HTK : Hid (r.take (k + 1 - 3) = r.take (k - 3) ++ [t]) := show _ = _ from by rw [show k + 1 - 3 = k - 3 + 1 by omega, List.take_succ_eq_append_getElem hkr, ← htr]
            have f0 : (0 : Int) ≤ k := by omega
            have f1 : (k : Int) < n := by omega
            have htz : t.size ≤ 65536 := HTS.out t (by rw [ht]; exact List.getElem_mem hkl)
            have HNO : Hid (rdPart t = none → rdB s = none) := show _ → _ from fun h => by
              have h2 := rdPs_none (l := r.take (k - 3)) (r := r.drop (k - 3 + 1)) h
              rw [← HDR.out] at h2
              rw [HB3.out, h2, ite_self]
            have HPO := Lib.hid (rdPart_of t)
            clear hc ht htr hkr hgs
            by_cases h2 : t = bstr [2]
            · have hq2 : (t.toList == [2]) = true := by rw [h2, ByteArray.toList_eq, bstr_toList]; exact beq_self_eq_true _
              have HPP : Hid (partOf t = ⟨true, ⟨#[]⟩⟩) := show _ = _ from if_pos h2
              clear h2
              go_wp2_with fail
              have HTX := txt_part ⟨true, ⟨#[]⟩⟩
              have HCL := rpart_any ⟨true, ⟨#[]⟩⟩ (wr.alloc (.cells #[.bool true, .string ⟨#[]⟩] 57)) (show 0 ≤ _ from Nat.zero_le _)
              obtain ⟨S, hS⟩ : ∃ S, S = partS ⟨true, ⟨#[]⟩⟩ := ⟨_, rfl⟩
              obtain ⟨g, hg⟩ : ∃ g, g = partOk ⟨true, ⟨#[]⟩⟩ := ⟨_, rfl⟩
              rw [← hS, ← hg] at HCL HTX
              have hpo := HPO.out
              rw [HPP.out, HTX] at hpo
              have HPO2 := Lib.hid hpo
              have hzp := heap_alloc_new wr (.cells #[.bool true, .string ⟨#[]⟩] 57)
              have HR6 := Lib.hid (HR.out.next (bw_alloc (Below.refl _ _) (.cells #[.bool true, .string ⟨#[]⟩] 57)))
              have HRW6 : Hid (wr.heap.size < (wr.alloc (.cells #[.bool true, .string ⟨#[]⟩] 57)).heap.size) := show _ < _ from by simp
              clear hS hg HTX hpo HPP hz
              cases g with
              | false =>
                have HNB : Hid (rdB s = none) := show _ = _ from HNO.out (by rw [HPO2.out, if_neg (by rw [if_neg (by decide)]; exact fun h => by cases h)])
                have HCL := Lib.hid HCL
                clear hzp
                refine HCL.out.mono ?_
                rintro e w7 ⟨rfl, hb7⟩
                have HR7 := Lib.hid (HR6.out.next hb7)
                have hz := HR7.out.res
                have HBX := Lib.hid HR7.out.b
                clear hb7
                go_wp2_with ((with_reducible refine wpList_store_whole rfl 24 (.tmp 2) (.tmp 88) rfl w.heap.size zlB zlB 24 rfl rfl hz rfl (batch_info _ rfl) batch_one ?_); intro w7 hU)
                exact post_cell_tmp 2 3 24 rfl w.heap.size _ zlB _ _ hU.out.at_ Tryd.underlying24 rfl (batch_info _ rfl) (.int .i64 6) rfl rfl rfl ⟨hU.out.below HBX.out (Nat.le_refl _), by rw [HNB.out]; rfl⟩
              | true =>
                by_cases hSt : S = t
                · subst hSt
                  have HPT : Hid (rdPart S = some ⟨true, ⟨#[]⟩⟩) := show _ = _ from by rw [HPO2.out, if_pos (if_pos rfl)]
                  have HCL := Lib.hid HCL
                  refine HCL.out.mono ?_
                  rintro e w7 ⟨rfl, hb7⟩
                  have HR7 := Lib.hid (HR6.out.next hb7)
                  have kd : w7.cell? ⟨wr.heap.size, 0, none⟩ = some (.bool true) := by rw [hb7.cell (p := ⟨wr.heap.size, 0, none⟩) HRW6.out, cell_of_row _ _ _ _ _ _ hzp]; rfl
                  have kx : w7.cell? ⟨wr.heap.size, 1, none⟩ = some (.string ⟨#[]⟩) := by rw [hb7.cell (p := ⟨wr.heap.size, 1, none⟩) HRW6.out, cell_of_row _ _ _ _ _ _ hzp]; rfl
                  have kt7 : w7.cell? ⟨gb, go_ + k, none⟩ = some (.string S) := by
                    rw [hb7.cell (p := ⟨gb, go_ + k, none⟩) (Nat.lt_trans hgl HRW6.out), Below.cell (bw_alloc (Below.refl wr.heap.size wr) _) (p := ⟨gb, go_ + k, none⟩) hgl]
                    exact kt
                  clear hb7 hzp kt
                  have k3 : w7.cell? ⟨nb, 3, none⟩ = some v := by rw [cell_of_row _ _ _ _ _ _ HR7.out.bt]; rfl
                  have hn9 : ps.length ≤ 515 := by omega
                  have hsz0 : Hid (B ≤ w7.heap.size ∧ 0 < B) := show _ ∧ _ from ⟨HR7.out.size, by have := HR7.out.hi; omega⟩
                  have HFL := Lib.hid (part_fill ⟨true, ⟨#[]⟩⟩ hz1)
                  go_wp2_with (first
                    | (refine wpList_buildSlice rfl 22 57 1 #[(0, .tmp 91)] rfl (PT.cells ⟨true, ⟨#[]⟩⟩).toArray i0 (.agg zlP.toArray) Tryd.underlying22 hi hz0 (by rw [hz1]; decide) (by rw [hz1]; decide) (by simp only [List.map_toArray, List.map_cons, List.map_nil]; exact HFL.out) ?_)
                    | ((at_builtin; refine wpList_append_own2 rfl (.tmp 90) (.tmp 92) 22 rfl B 57 i0 (.agg zlP.toArray) 2 24 Tryd.underlying22 hi hz0 hz1 hz2 rfl (by decide) _ _ (pcs ps) rfl (HR7.out.own.alloc _) ⟨w7.heap.size, 0, none⟩ 1 1 (PT.cells ⟨true, ⟨#[]⟩⟩) rfl rfl (news2 _ _ _) (pcells_one _) (by unfold maxLen; omega) (by omega) (by have := hsz0.out.1; simp; omega) ?_); intro v9 w9 hO9 hg9 hn9; obtain ⟨q9, c9, rfl⟩ := row_shape hO9; have c39 : w9.cell? ⟨nb, 3, none⟩ = some v := (by rw [cell_of_row _ _ _ _ _ _ (HR7.out.mid hg9)]; rfl); have cz9 : w9.frozen? ⟨nb, 3, none⟩ = false := frozen_of_row w9 _ _ _ _ (HR7.out.mid hg9); have HR9 := Lib.hid (HR7.out.app hO9 hg9); clear hO9 hg9 hn9))
                  go_roundw
                  case rel =>
                    refine ⟨k + 1, ps ++ [⟨true, ⟨#[]⟩⟩], _, by go_num, by omega, by omega, by rw [List.length_append, List.length_singleton]; omega, ?_, HR9⟩
                    show _ = _
                    rw [HTK.out]
                    exact rdPs_snoc HPS.out HPT.out
                  case measure => simp; omega
                · have HNB : Hid (rdB s = none) := show _ = _ from HNO.out (by rw [HPO2.out, if_neg (by rw [if_pos rfl]; exact fun h => hSt (by injection h))])
                  have q1 : (S.toList == t.toList) = false := by rw [beq_eq_false_iff_ne, ByteArray.toList_eq, ByteArray.toList_eq]; exact fun e => hSt (by rw [← bstr_of S, ← bstr_of t, e])
                  have HCL := Lib.hid HCL
                  refine HCL.out.mono ?_
                  rintro e w7 ⟨rfl, hb7⟩
                  have HR7 := Lib.hid (HR6.out.next hb7)
                  have hz := HR7.out.res
                  have HBX := Lib.hid HR7.out.b
                  have kt7 : w7.cell? ⟨gb, go_ + k, none⟩ = some (.string t) := by
                    rw [hb7.cell (p := ⟨gb, go_ + k, none⟩) (Nat.lt_trans hgl HRW6.out), Below.cell (bw_alloc (Below.refl wr.heap.size wr) _) (p := ⟨gb, go_ + k, none⟩) hgl]
                    exact kt
                  clear hb7 hzp kt hSt
                  go_wp2_with ((with_reducible refine wpList_store_whole rfl 24 (.tmp 2) (.tmp 88) rfl w.heap.size zlB zlB 24 rfl rfl hz rfl (batch_info _ rfl) batch_one ?_); intro w7 hU)
                  exact post_cell_tmp 2 3 24 rfl w.heap.size _ zlB _ _ hU.out.at_ Tryd.underlying24 rfl (batch_info _ rfl) (.int .i64 6) rfl rfl rfl ⟨hU.out.below HBX.out (Nat.le_refl _), by rw [HNB.out]; rfl⟩
            · have hq2 : (t.toList == [2]) = false := by
                rw [beq_eq_false_iff_ne, ByteArray.toList_eq]
                exact fun e => h2 (by rw [← bstr_of t, e])
              have HPP : Hid (partOf t = ⟨false, bstr (t.data.toList.drop 1)⟩) := show _ = _ from if_neg h2
              by_cases ht0 : t.size = 0
              · have he : t.toList.isEmpty = true := by rw [empty_is, decide_eq_true ht0]
                have HPP : Hid (partOf t = ⟨false, ⟨#[]⟩⟩) := show _ = _ from by
                  have : t = ⟨#[]⟩ := ByteArray.ext (Array.eq_empty_of_size_eq_zero ht0)
                  rw [HPP.out, this]
                  rfl
                clear h2
                go_wp2_with fail
                have HTX := txt_part ⟨false, ⟨#[]⟩⟩
                have HCL := rpart_any ⟨false, ⟨#[]⟩⟩ (wr.alloc (.cells #[.bool false, .string ⟨#[]⟩] 57)) (show 0 ≤ _ from Nat.zero_le _)
                obtain ⟨S, hS⟩ : ∃ S, S = partS ⟨false, ⟨#[]⟩⟩ := ⟨_, rfl⟩
                obtain ⟨g, hg⟩ : ∃ g, g = partOk ⟨false, ⟨#[]⟩⟩ := ⟨_, rfl⟩
                rw [← hS, ← hg] at HCL HTX
                have hpo := HPO.out
                rw [HPP.out, HTX] at hpo
                have HPO2 := Lib.hid hpo
                have hzp := heap_alloc_new wr (.cells #[.bool false, .string ⟨#[]⟩] 57)
                have HR6 := Lib.hid (HR.out.next (bw_alloc (Below.refl _ _) (.cells #[.bool false, .string ⟨#[]⟩] 57)))
                have HRW6 : Hid (wr.heap.size < (wr.alloc (.cells #[.bool false, .string ⟨#[]⟩] 57)).heap.size) := show _ < _ from by simp
                clear hS hg HTX hpo HPP hz
                cases g with
                | false =>
                  have HNB : Hid (rdB s = none) := show _ = _ from HNO.out (by rw [HPO2.out, if_neg (by rw [if_neg (by decide)]; exact fun h => by cases h)])
                  have HCL := Lib.hid HCL
                  clear hzp
                  refine HCL.out.mono ?_
                  rintro e w7 ⟨rfl, hb7⟩
                  have HR7 := Lib.hid (HR6.out.next hb7)
                  have hz := HR7.out.res
                  have HBX := Lib.hid HR7.out.b
                  clear hb7
                  go_wp2_with ((with_reducible refine wpList_store_whole rfl 24 (.tmp 2) (.tmp 88) rfl w.heap.size zlB zlB 24 rfl rfl hz rfl (batch_info _ rfl) batch_one ?_); intro w7 hU)
                  exact post_cell_tmp 2 3 24 rfl w.heap.size _ zlB _ _ hU.out.at_ Tryd.underlying24 rfl (batch_info _ rfl) (.int .i64 6) rfl rfl rfl ⟨hU.out.below HBX.out (Nat.le_refl _), by rw [HNB.out]; rfl⟩
                | true =>
                  by_cases hSt : S = t
                  · subst hSt
                    have HPT : Hid (rdPart S = some ⟨false, ⟨#[]⟩⟩) := show _ = _ from by rw [HPO2.out, if_pos (if_pos rfl)]
                    have HCL := Lib.hid HCL
                    refine HCL.out.mono ?_
                    rintro e w7 ⟨rfl, hb7⟩
                    have HR7 := Lib.hid (HR6.out.next hb7)
                    have kd : w7.cell? ⟨wr.heap.size, 0, none⟩ = some (.bool false) := by rw [hb7.cell (p := ⟨wr.heap.size, 0, none⟩) HRW6.out, cell_of_row _ _ _ _ _ _ hzp]; rfl
                    have kx : w7.cell? ⟨wr.heap.size, 1, none⟩ = some (.string ⟨#[]⟩) := by rw [hb7.cell (p := ⟨wr.heap.size, 1, none⟩) HRW6.out, cell_of_row _ _ _ _ _ _ hzp]; rfl
                    have kt7 : w7.cell? ⟨gb, go_ + k, none⟩ = some (.string S) := by
                      rw [hb7.cell (p := ⟨gb, go_ + k, none⟩) (Nat.lt_trans hgl HRW6.out), Below.cell (bw_alloc (Below.refl wr.heap.size wr) _) (p := ⟨gb, go_ + k, none⟩) hgl]
                      exact kt
                    clear hb7 hzp kt
                    have k3 : w7.cell? ⟨nb, 3, none⟩ = some v := by rw [cell_of_row _ _ _ _ _ _ HR7.out.bt]; rfl
                    have hn9 : ps.length ≤ 515 := by omega
                    have hsz0 : Hid (B ≤ w7.heap.size ∧ 0 < B) := show _ ∧ _ from ⟨HR7.out.size, by have := HR7.out.hi; omega⟩
                    have HFL := Lib.hid (part_fill ⟨false, ⟨#[]⟩⟩ hz1)
                    go_wp2_with (first
                      | (refine wpList_buildSlice rfl 22 57 1 #[(0, .tmp 91)] rfl (PT.cells ⟨false, ⟨#[]⟩⟩).toArray i0 (.agg zlP.toArray) Tryd.underlying22 hi hz0 (by rw [hz1]; decide) (by rw [hz1]; decide) (by simp only [List.map_toArray, List.map_cons, List.map_nil]; exact HFL.out) ?_)
                      | ((at_builtin; refine wpList_append_own2 rfl (.tmp 90) (.tmp 92) 22 rfl B 57 i0 (.agg zlP.toArray) 2 24 Tryd.underlying22 hi hz0 hz1 hz2 rfl (by decide) _ _ (pcs ps) rfl (HR7.out.own.alloc _) ⟨w7.heap.size, 0, none⟩ 1 1 (PT.cells ⟨false, ⟨#[]⟩⟩) rfl rfl (news2 _ _ _) (pcells_one _) (by unfold maxLen; omega) (by omega) (by have := hsz0.out.1; simp; omega) ?_); intro v9 w9 hO9 hg9 hn9; obtain ⟨q9, c9, rfl⟩ := row_shape hO9; have c39 : w9.cell? ⟨nb, 3, none⟩ = some v := (by rw [cell_of_row _ _ _ _ _ _ (HR7.out.mid hg9)]; rfl); have cz9 : w9.frozen? ⟨nb, 3, none⟩ = false := frozen_of_row w9 _ _ _ _ (HR7.out.mid hg9); have HR9 := Lib.hid (HR7.out.app hO9 hg9); clear hO9 hg9 hn9))
                    go_roundw
                    case rel =>
                      refine ⟨k + 1, ps ++ [⟨false, ⟨#[]⟩⟩], _, by go_num, by omega, by omega, by rw [List.length_append, List.length_singleton]; omega, ?_, HR9⟩
                      show _ = _
                      rw [HTK.out]
                      exact rdPs_snoc HPS.out HPT.out
                    case measure => simp; omega
                  · have HNB : Hid (rdB s = none) := show _ = _ from HNO.out (by rw [HPO2.out, if_neg (by rw [if_pos rfl]; exact fun h => hSt (by injection h))])
                    have q1 : (S.toList == t.toList) = false := by rw [beq_eq_false_iff_ne, ByteArray.toList_eq, ByteArray.toList_eq]; exact fun e => hSt (by rw [← bstr_of S, ← bstr_of t, e])
                    have HCL := Lib.hid HCL
                    refine HCL.out.mono ?_
                    rintro e w7 ⟨rfl, hb7⟩
                    have HR7 := Lib.hid (HR6.out.next hb7)
                    have hz := HR7.out.res
                    have HBX := Lib.hid HR7.out.b
                    have kt7 : w7.cell? ⟨gb, go_ + k, none⟩ = some (.string t) := by
                      rw [hb7.cell (p := ⟨gb, go_ + k, none⟩) (Nat.lt_trans hgl HRW6.out), Below.cell (bw_alloc (Below.refl wr.heap.size wr) _) (p := ⟨gb, go_ + k, none⟩) hgl]
                      exact kt
                    clear hb7 hzp kt hSt
                    go_wp2_with ((with_reducible refine wpList_store_whole rfl 24 (.tmp 2) (.tmp 88) rfl w.heap.size zlB zlB 24 rfl rfl hz rfl (batch_info _ rfl) batch_one ?_); intro w7 hU)
                    exact post_cell_tmp 2 3 24 rfl w.heap.size _ zlB _ _ hU.out.at_ Tryd.underlying24 rfl (batch_info _ rfl) (.int .i64 6) rfl rfl rfl ⟨hU.out.below HBX.out (Nat.le_refl _), by rw [HNB.out]; rfl⟩
              · have he : t.toList.isEmpty = false := by rw [empty_is, decide_eq_false ht0]
                have g1 : (1 : Int) ≤ t.size := by omega
                have HXE : Hid (t.extract 1 t.size = bstr (t.data.toList.drop 1)) := show _ = _ from ext_one t
                have HXS : Hid ((bstr (t.data.toList.drop 1)).size ≤ 65536) := show _ ≤ _ from by rw [bstr_size, List.length_drop]; exact Nat.le_trans (Nat.sub_le _ _) htz
                clear h2
                go_wp2_with fail
                rw [HXE.out]
                generalize bstr (t.data.toList.drop 1) = X at *
                have HTX := txt_part ⟨false, X⟩
                have HCL := rpart_any ⟨false, X⟩ (wr.alloc (.cells #[.bool false, .string X] 57)) (show X.size ≤ _ from Nat.le_trans HXS.out (by decide))
                obtain ⟨S, hS⟩ : ∃ S, S = partS ⟨false, X⟩ := ⟨_, rfl⟩
                obtain ⟨g, hg⟩ : ∃ g, g = partOk ⟨false, X⟩ := ⟨_, rfl⟩
                rw [← hS, ← hg] at HCL HTX
                have hpo := HPO.out
                rw [HPP.out, HTX] at hpo
                have HPO2 := Lib.hid hpo
                have hzp := heap_alloc_new wr (.cells #[.bool false, .string X] 57)
                have HR6 := Lib.hid (HR.out.next (bw_alloc (Below.refl _ _) (.cells #[.bool false, .string X] 57)))
                have HRW6 : Hid (wr.heap.size < (wr.alloc (.cells #[.bool false, .string X] 57)).heap.size) := show _ < _ from by simp
                clear hS hg HTX hpo HPP hz
                cases g with
                | false =>
                  have HNB : Hid (rdB s = none) := show _ = _ from HNO.out (by rw [HPO2.out, if_neg (by rw [if_neg (by decide)]; exact fun h => by cases h)])
                  have HCL := Lib.hid HCL
                  clear hzp
                  refine HCL.out.mono ?_
                  rintro e w7 ⟨rfl, hb7⟩
                  have HR7 := Lib.hid (HR6.out.next hb7)
                  have hz := HR7.out.res
                  have HBX := Lib.hid HR7.out.b
                  clear hb7
                  go_wp2_with ((with_reducible refine wpList_store_whole rfl 24 (.tmp 2) (.tmp 88) rfl w.heap.size zlB zlB 24 rfl rfl hz rfl (batch_info _ rfl) batch_one ?_); intro w7 hU)
                  exact post_cell_tmp 2 3 24 rfl w.heap.size _ zlB _ _ hU.out.at_ Tryd.underlying24 rfl (batch_info _ rfl) (.int .i64 6) rfl rfl rfl ⟨hU.out.below HBX.out (Nat.le_refl _), by rw [HNB.out]; rfl⟩
                | true =>
                  by_cases hSt : S = t
                  · subst hSt
                    have HPT : Hid (rdPart S = some ⟨false, X⟩) := show _ = _ from by rw [HPO2.out, if_pos (if_pos rfl)]
                    have HCL := Lib.hid HCL
                    refine HCL.out.mono ?_
                    rintro e w7 ⟨rfl, hb7⟩
                    have HR7 := Lib.hid (HR6.out.next hb7)
                    have kd : w7.cell? ⟨wr.heap.size, 0, none⟩ = some (.bool false) := by rw [hb7.cell (p := ⟨wr.heap.size, 0, none⟩) HRW6.out, cell_of_row _ _ _ _ _ _ hzp]; rfl
                    have kx : w7.cell? ⟨wr.heap.size, 1, none⟩ = some (.string X) := by rw [hb7.cell (p := ⟨wr.heap.size, 1, none⟩) HRW6.out, cell_of_row _ _ _ _ _ _ hzp]; rfl
                    have kt7 : w7.cell? ⟨gb, go_ + k, none⟩ = some (.string S) := by
                      rw [hb7.cell (p := ⟨gb, go_ + k, none⟩) (Nat.lt_trans hgl HRW6.out), Below.cell (bw_alloc (Below.refl wr.heap.size wr) _) (p := ⟨gb, go_ + k, none⟩) hgl]
                      exact kt
                    clear hb7 hzp kt
                    have k3 : w7.cell? ⟨nb, 3, none⟩ = some v := by rw [cell_of_row _ _ _ _ _ _ HR7.out.bt]; rfl
                    have hn9 : ps.length ≤ 515 := by omega
                    have hsz0 : Hid (B ≤ w7.heap.size ∧ 0 < B) := show _ ∧ _ from ⟨HR7.out.size, by have := HR7.out.hi; omega⟩
                    have HFL := Lib.hid (part_fill ⟨false, X⟩ hz1)
                    go_wp2_with (first
                      | (refine wpList_buildSlice rfl 22 57 1 #[(0, .tmp 91)] rfl (PT.cells ⟨false, X⟩).toArray i0 (.agg zlP.toArray) Tryd.underlying22 hi hz0 (by rw [hz1]; decide) (by rw [hz1]; decide) (by simp only [List.map_toArray, List.map_cons, List.map_nil]; exact HFL.out) ?_)
                      | ((at_builtin; refine wpList_append_own2 rfl (.tmp 90) (.tmp 92) 22 rfl B 57 i0 (.agg zlP.toArray) 2 24 Tryd.underlying22 hi hz0 hz1 hz2 rfl (by decide) _ _ (pcs ps) rfl (HR7.out.own.alloc _) ⟨w7.heap.size, 0, none⟩ 1 1 (PT.cells ⟨false, X⟩) rfl rfl (news2 _ _ _) (pcells_one _) (by unfold maxLen; omega) (by omega) (by have := hsz0.out.1; simp; omega) ?_); intro v9 w9 hO9 hg9 hn9; obtain ⟨q9, c9, rfl⟩ := row_shape hO9; have c39 : w9.cell? ⟨nb, 3, none⟩ = some v := (by rw [cell_of_row _ _ _ _ _ _ (HR7.out.mid hg9)]; rfl); have cz9 : w9.frozen? ⟨nb, 3, none⟩ = false := frozen_of_row w9 _ _ _ _ (HR7.out.mid hg9); have HR9 := Lib.hid (HR7.out.app hO9 hg9); clear hO9 hg9 hn9))
                    go_roundw
                    case rel =>
                      refine ⟨k + 1, ps ++ [⟨false, X⟩], _, by go_num, by omega, by omega, by rw [List.length_append, List.length_singleton]; omega, ?_, HR9⟩
                      show _ = _
                      rw [HTK.out]
                      exact rdPs_snoc HPS.out HPT.out
                    case measure => simp; omega
                  · have HNB : Hid (rdB s = none) := show _ = _ from HNO.out (by rw [HPO2.out, if_neg (by rw [if_pos rfl]; exact fun h => hSt (by injection h))])
                    have q1 : (S.toList == t.toList) = false := by rw [beq_eq_false_iff_ne, ByteArray.toList_eq, ByteArray.toList_eq]; exact fun e => hSt (by rw [← bstr_of S, ← bstr_of t, e])
                    have HCL := Lib.hid HCL
                    refine HCL.out.mono ?_
                    rintro e w7 ⟨rfl, hb7⟩
                    have HR7 := Lib.hid (HR6.out.next hb7)
                    have hz := HR7.out.res
                    have HBX := Lib.hid HR7.out.b
                    have kt7 : w7.cell? ⟨gb, go_ + k, none⟩ = some (.string t) := by
                      rw [hb7.cell (p := ⟨gb, go_ + k, none⟩) (Nat.lt_trans hgl HRW6.out), Below.cell (bw_alloc (Below.refl wr.heap.size wr) _) (p := ⟨gb, go_ + k, none⟩) hgl]
                      exact kt
                    clear hb7 hzp kt hSt
                    go_wp2_with ((with_reducible refine wpList_store_whole rfl 24 (.tmp 2) (.tmp 88) rfl w.heap.size zlB zlB 24 rfl rfl hz rfl (batch_info _ rfl) batch_one ?_); intro w7 hU)
                    exact post_cell_tmp 2 3 24 rfl w.heap.size _ zlB _ _ hU.out.at_ Tryd.underlying24 rfl (batch_info _ rfl) (.int .i64 6) rfl rfl rfl ⟨hU.out.below HBX.out (Nat.le_refl _), by rw [HNB.out]; rfl⟩
          · obtain rfl : k = n := by omega
            have d9 : decide ((k : Int) < k) = false := decide_eq_false (by omega)
            have hbt := HR.out.bt
            have e0 : wr.cell? ⟨nb, 0, none⟩ = some (.int .i64 x) := by rw [cell_of_row _ _ _ _ _ _ hbt]; rfl
            have e1 : wr.cell? ⟨nb, 1, none⟩ = some (.int .i64 y) := by rw [cell_of_row _ _ _ _ _ _ hbt]; rfl
            have e2 : wr.cell? ⟨nb, 2, none⟩ = some (.int .i64 z) := by rw [cell_of_row _ _ _ _ _ _ hbt]; rfl
            have HPS2 : Hid (rdPs r = some ps) := show _ = _ from by
              have h := HPS.out
              rw [List.take_of_length_le (by have := HRL.out; omega)] at h
              exact h
            have HBX := Lib.hid HR.out.b
            have HC1 := rwithin5_any x wr
            have HC2 := rwithin5_any y wr
            have HC3 := rwithin5_any z wr
            have HN5 : Hid (r.length ≤ 512) := show _ ≤ _ from by have := HRL.out; omega
            cases j1 : numOk (x : Int) with
            | false =>
              rw [j1] at HC1
              have HC1 := Lib.hid HC1
              have HNB : Hid (rdB s = none) := show _ = _ from by rw [HB3.out, if_neg]; exact fun h => by rw [j1] at h; cases h.1
              clear HC2 HC3 j1
              go_wp2_with fail
              refine HC1.out.mono ?_
              rintro e w8 ⟨rfl, rfl⟩
              go_wp2_with ((with_reducible refine wpList_store_whole rfl 24 (.tmp 2) (.tmp 111) rfl w.heap.size zlB zlB 24 rfl rfl hz rfl (batch_info _ rfl) batch_one ?_); intro w7 hU)
              exact post_cell_tmp 2 3 24 rfl w.heap.size _ zlB _ _ hU.out.at_ Tryd.underlying24 rfl (batch_info _ rfl) (.int .i64 6) rfl rfl rfl ⟨hU.out.below HBX.out (Nat.le_refl _), by rw [HNB.out]; rfl⟩
            | true =>
              rw [j1] at HC1
              have HC1 := Lib.hid HC1
              cases j2 : numOk (y : Int) with
              | false =>
                rw [j2] at HC2
                have HC2 := Lib.hid HC2
                have HNB : Hid (rdB s = none) := show _ = _ from by rw [HB3.out, if_neg]; exact fun h => by rw [j2] at h; cases h.2.1
                clear HC3 j1 j2
                go_wp2_with fail
                refine HC1.out.mono ?_
                rintro e w8 ⟨rfl, rfl⟩
                go_wp2_with fail
                refine HC2.out.mono ?_
                rintro e w8 ⟨rfl, rfl⟩
                go_wp2_with ((with_reducible refine wpList_store_whole rfl 24 (.tmp 2) (.tmp 111) rfl w.heap.size zlB zlB 24 rfl rfl hz rfl (batch_info _ rfl) batch_one ?_); intro w7 hU)
                exact post_cell_tmp 2 3 24 rfl w.heap.size _ zlB _ _ hU.out.at_ Tryd.underlying24 rfl (batch_info _ rfl) (.int .i64 6) rfl rfl rfl ⟨hU.out.below HBX.out (Nat.le_refl _), by rw [HNB.out]; rfl⟩
              | true =>
                rw [j2] at HC2
                have HC2 := Lib.hid HC2
                cases j3 : numOk (z : Int) with
                | false =>
                  rw [j3] at HC3
                  have HC3 := Lib.hid HC3
                  have HNB : Hid (rdB s = none) := show _ = _ from by rw [HB3.out, if_neg]; exact fun h => by rw [j3] at h; cases h.2.2.1
                  clear j1 j2 j3
                  go_wp2_with fail
                  refine HC1.out.mono ?_
                  rintro e w8 ⟨rfl, rfl⟩
                  go_wp2_with fail
                  refine HC2.out.mono ?_
                  rintro e w8 ⟨rfl, rfl⟩
                  go_wp2_with fail
                  refine HC3.out.mono ?_
                  rintro e w8 ⟨rfl, rfl⟩
                  go_wp2_with ((with_reducible refine wpList_store_whole rfl 24 (.tmp 2) (.tmp 111) rfl w.heap.size zlB zlB 24 rfl rfl hz rfl (batch_info _ rfl) batch_one ?_); intro w7 hU)
                  exact post_cell_tmp 2 3 24 rfl w.heap.size _ zlB _ _ hU.out.at_ Tryd.underlying24 rfl (batch_info _ rfl) (.int .i64 6) rfl rfl rfl ⟨hU.out.below HBX.out (Nat.le_refl _), by rw [HNB.out]; rfl⟩
                | true =>
                  rw [j3] at HC3
                  have HC3 := Lib.hid HC3
                  have HY : Hid (rdB s = some ⟨x, y, z, ps⟩) := show _ = _ from by
                    rw [HB3.out, if_pos ⟨j1, j2, j3, HN5.out⟩, HPS2.out]
                  have HO1 := Lib.hid (row_one HR.out.own)
                  clear j1 j2 j3
                  go_wp2_with fail
                  refine HC1.out.mono ?_
                  rintro e w8 ⟨rfl, rfl⟩
                  go_wp2_with fail
                  refine HC2.out.mono ?_
                  rintro e w8 ⟨rfl, rfl⟩
                  go_wp2_with fail
                  refine HC3.out.mono ?_
                  rintro e w8 ⟨rfl, rfl⟩
                  go_wp2_with (first
                    | (with_reducible refine wpList_load_rows rfl 24 (.tmp 8) rfl nb 0 (bcs x y z v) (bcs x y z v) 24 (0, 0) _ rfl hbt (fun j v h => by rw [Nat.zero_add]; exact h) Tryd.underlying24 rfl (batch_info _ rfl) ?_)
                    | ((with_reducible refine wpList_store_whole rfl 24 (.tmp 2) (.tmp 112) rfl w.heap.size (bcs x y z v) zlB 24 rfl rfl hz rfl (batch_info _ rfl) (bcs_one HO1.out) ?_); intro w7 hU))
                  refine post_cell_tmp 2 3 24 rfl w.heap.size _ (bcs x y z v) _ _ hU.out.at_ Tryd.underlying24 rfl (batch_info _ rfl) (.int .i64 0) rfl rfl rfl ⟨hU.out.below HR.out.b (Nat.le_refl _), ?_⟩
                  rw [HY.out]
                  have h1 := HR.out.lo
                  have h2 := HR.out.hi
                  refine ⟨v, rfl, (PtsOwn (own_other HR.out.own fun j hj => hU.out.other j ?_)).mono fun b _ hb => ?_⟩
                  · have := own_blk HR.out.own j hj; omega
                  · omega
      · have d5 : decide ((515 : Int) < n) = true := decide_eq_true (by omega)
        have HNB : Hid (rdB s = none) := show _ = _ from by rw [HB3.out, if_neg (fun h => h5 (by have := h.2.2.2; omega))]
        clear hrl
        go_wp2_with ((with_reducible refine wpList_store_whole rfl 24 (.tmp 2) (.tmp 34) rfl w.heap.size zlB zlB 24 rfl rfl hz rfl (batch_info _ rfl) batch_one ?_); intro w7 hU)
        exact post_cell_tmp 2 3 24 rfl w.heap.size _ zlB _ _ hU.out.at_ Tryd.underlying24 rfl (batch_info _ rfl) (.int .i64 6) rfl rfl rfl ⟨hU.out.below HBX.out (Nat.le_refl _), by rw [HNB.out]; rfl⟩
    · have HNB : Hid (rdB s = none) := show _ = _ from by rw [HBB.out, rd3_bad (by have := hbad; exact this)]
      clear hbad
      go_wp2_with ((with_reducible refine wpList_store_whole rfl 24 (.tmp 2) (.tmp 34) rfl w.heap.size zlB zlB 24 rfl rfl hz rfl (batch_info _ rfl) batch_one ?_); intro w7 hU)
      exact post_cell_tmp 2 3 24 rfl w.heap.size _ zlB _ _ hU.out.at_ Tryd.underlying24 rfl (batch_info _ rfl) (.int .i64 6) rfl rfl rfl ⟨hU.out.below HBX.out (Nat.le_refl _), by rw [HNB.out]; rfl⟩
-- B
end Go.Proofs.YtbeooeihedhabaaDoor
