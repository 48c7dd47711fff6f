/- A log of the package order in memory; New, Len, Head, from: what the calls do. The closure of order's from, and from: what the calls do. order's make, put: what the calls do. -/
import Derived.Test.YtckfdmkjeocadaaDoorNLink
namespace Go.Proofs.YtckfdmkjeocadaaDoor
open Go.RowKit
set_option maxHeartbeats 2000000
set_option maxRecDepth 4000
abbrev zlLog : List Value := [.slice none 0 0, .int .i64 0, .int .i64 0, .int .i64 0, .int .i64 0, .int .i64 0, .int .i64 0, .int .i64 0, .int .i64 0, .int .i64 0, .int .i64 0, .int .i64 0, .int .i64 0, .int .i64 0, .int .i64 0, .int .i64 0, .int .i64 0, .int .i64 0, .int .i64 0, .int .i64 0, .int .i64 0, .int .i64 0, .int .i64 0, .int .i64 0, .int .i64 0, .int .i64 0, .int .i64 0, .int .i64 0, .int .i64 0, .int .i64 0, .int .i64 0, .int .i64 0, .int .i64 0, .int .i64 0, .int .i64 0, .int .i64 0, .int .i64 0, .int .i64 0, .int .i64 0, .int .i64 0, .int .i64 0, .int .i64 0, .int .i64 0, .int .i64 0, .int .i64 0, .int .i64 0, .int .i64 0, .int .i64 0, .int .i64 0, .int .i64 0, .int .i64 0, .int .i64 0, .int .i64 0, .int .i64 0, .int .i64 0, .int .i64 0, .int .i64 0, .int .i64 0, .int .i64 0, .int .i64 0, .int .i64 0, .int .i64 0, .int .i64 0, .int .i64 0, .int .i64 0]
def lcells (sv : Value) (nx : List Int) : List Value := sv :: nx.map (Value.int .i64)
def rcells (rs : List RC) : List Value := rs.flatMap RC.cells
theorem rcells_length : ∀ (rs : List RC), (∀ r ∈ rs, r.wf) → (rcells rs).length = rs.length * 68
  | [], _ => rfl
  | r :: rs, h => by
    have h1 := rcells_length rs (fun x hx => h x (List.mem_cons_of_mem _ hx))
    have h2 := RC.cells_length (h r (List.mem_cons_self ..)).prev (h r (List.mem_cons_self ..)).hash
    simp only [rcells, List.flatMap_cons, List.length_append, List.length_cons] at h1 ⊢
    omega
theorem rcells_at : ∀ (rs : List RC), (∀ r ∈ rs, r.wf) → ∀ (k : Nat) (hk : k < rs.length) (j : Nat) (v : Value), (rs[k]'hk).cells[j]? = some v → (rcells rs)[k * 68 + j]? = some v
  | [], _, k, hk, _, _, _ => absurd hk (by simp)
  | r :: rs, h, k, hk, j, v, hv => by
    have h2 := RC.cells_length (h r (List.mem_cons_self ..)).prev (h r (List.mem_cons_self ..)).hash
    simp only [rcells, List.flatMap_cons]
    cases k with
    | zero =>
      simp only [List.getElem_cons_zero] at hv
      have hj : j < r.cells.length := by
        rcases Nat.lt_or_ge j r.cells.length with h3 | h3
        · exact h3
        · rw [List.getElem?_eq_none h3] at hv; cases hv
      rw [List.getElem?_append_left (by omega)]
      simpa using hv
    | succ k =>
      simp only [List.getElem_cons_succ] at hv
      have ih := rcells_at rs (fun x hx => h x (List.mem_cons_of_mem _ hx)) k (by simpa using hk) j v hv
      rw [List.getElem?_append_right (by omega), h2, show (k + 1) * 68 + j - 68 = k * 68 + j by omega]
      exact ih
theorem rcells_app (a b : List RC) : rcells (a ++ b) = rcells a ++ rcells b := by simp [rcells]
theorem rcells_one (r : RC) : rcells [r] = r.cells := by simp [rcells]
theorem rcells_ones (rs : List RC) : ∀ v ∈ rcells rs, v.oneCell' = true := by
  intro v hv
  obtain ⟨r, _, h⟩ := List.mem_flatMap.1 hv
  exact rc_one r v h
/-- a log in memory: its cells, its receipts -/
structure LgAt (W : World) (base l : Nat) (sv : Value) (rs : List RC) (nx : List Int) : Prop where
  len : nx.length = 64
  row : W.heap[l]? = some (.cells (lcells sv nx).toArray 110 (0, 0))
  own : W.ownsRow base 61 68 sv rs.length (rcells rs)
  wf : ∀ r ∈ rs, r.wf
  lt : l < base
  small : rs.length ≤ 1000
  nxb : ∀ x ∈ nx, 0 ≤ x ∧ x ≤ rs.length
theorem LgAt.below {W W' : World} {base l : Nat} {sv : Value} {rs : List RC} {nx : List Int} (h : LgAt W base l sv rs nx) (hb : Below W.heap.size W W') : LgAt W' base l sv rs nx :=
  ⟨h.len, (hb.block _ (block_lt h.row)).trans h.row, own_below h.own hb (Nat.le_refl _), h.wf, h.lt, h.small, h.nxb⟩
theorem LgAt.c0 {W : World} {base l : Nat} {sv : Value} {rs : List RC} {nx : List Int} (h : LgAt W base l sv rs nx) : W.cell? ⟨l, 0, none⟩ = some sv := by
  rw [cell_of_row W l 0 _ _ _ h.row]; rfl
theorem LgAt.cn {W : World} {base l : Nat} {sv : Value} {rs : List RC} {nx : List Int} (h : LgAt W base l sv rs nx) {i : Nat} (hi : i < 64) : W.cell? ⟨l, 1 + i, none⟩ = some (.int .i64 (nx.getD i 0)) := by
  have hl := h.len
  rw [cell_of_row W l _ _ _ _ h.row, List.getElem?_toArray, lcells, Nat.add_comm, List.getElem?_cons_succ, List.getElem?_map, List.getElem?_eq_getElem (by omega)]
  rw [List.getD_eq_getElem?_getD, List.getElem?_eq_getElem (by omega)]
  rfl
theorem LgAt.free {W : World} {base l : Nat} {sv : Value} {rs : List RC} {nx : List Int} (h : LgAt W base l sv rs nx) (k : Nat) : W.frozen? ⟨l, k, none⟩ = false := frozen_of_row W l k _ _ h.row
/-- the row of receipts, where there is one -/
theorem LgAt.at_ {W : World} {base l : Nat} {sv : Value} {rs : List RC} {nx : List Int} (h : LgAt W base l sv rs nx) :
    (sv = .slice none 0 0 ∧ rs = []) ∨ ∃ g cap cur, sv = .slice (some ⟨g, 0, none⟩) rs.length cap ∧ base ≤ g ∧ g < W.heap.size ∧ rs.length ≤ cap ∧ W.heap[g]? = some (.cells (List.toArray cur) 61 (0, 0)) ∧ ∀ (k : Nat) (hk : k < rs.length) (j : Nat) (v : Value), (rs[k]'hk).cells[j]? = some v → cur[k * 68 + j]? = some v := by
  rcases h.own.2 with ⟨h1, h2⟩ | ⟨g, cap, cur, h1, h2, h3, h4, h5, h6, h7⟩
  · exact .inl ⟨h1, List.length_eq_zero_iff.1 h2⟩
  · refine .inr ⟨g, cap, cur.toList, h1, h2, block_lt h3, h4, h3, fun k hk j v hv => ?_⟩
    have h8 := rcells_at rs h.wf k hk j v hv
    rw [← h7] at h8
    rw [List.getElem?_take] at h8
    split at h8
    · exact h8
    · cases h8
def headOf (rs : List RC) : List UInt8 := match rs[rs.length - 1]? with | none => z32 | some r => r.hash
theorem headOf_length {rs : List RC} (h : ∀ r ∈ rs, r.wf) : (headOf rs).length = 32 := by
  unfold headOf
  split
  · rfl
  · rename_i r hr
    exact (h r (List.mem_of_getElem? hr)).hash
def isLate (rs : List RC) (time : Int) : Bool := match rs[rs.length - 1]? with | none => false | some r => decide (time < r.time)
/-- whose transaction, or what is wrong -/
def theirs (nx : List Int) (body : ByteArray) : Int × Int :=
  match rdTx body with
  | .error _ => (0, 6)
  | .ok t => if t.signed = 0 then (if t.nonce = nx.getD t.frm.toNat 0 then (t.frm, 0) else (0, 22)) else (0, 21)
def fromOf (rs : List RC) (nx : List Int) (kind : Int) (body : ByteArray) (time : Int) : Int × Int :=
  if isLate rs time = true then (0, 33) else if kind = 1 then theirs nx body else (-1, 0)
theorem lg_zero (w : World) : (zeroValue 110).run Tryd.prog w = .ok (.agg zlLog.toArray) w := by kernel_rfl
theorem lg_build0 (w : World) : (Instr.build 110 #[]).run Tryd.prog w = .ok (.agg zlLog.toArray) w :=
  run_build_struct (parts := #[]) (places := #[(0, 1), (1, 64)]) w (lg_zero w) Tryd.underlying110 (by kernel_rfl) rfl
theorem new_log (w : World) : Calls Tryd.prog 45 #[] w fun e w' => e = .returned (.pointer (some ⟨w.heap.size, 0, none⟩)) ∧ LgAt w' (w.heap.size + 1) w.heap.size (.slice none 0 0) [] zn64 ∧ Below w.heap.size w w' := by
  have hG : LgAt (w.alloc (.cells zlLog.toArray 110)) (w.heap.size + 1) w.heap.size (.slice none 0 0) [] zn64 := ⟨rfl, heap_alloc_new w _, own_nil _ _ _ _, by simp, Nat.lt_succ_self _, by decide, by decide⟩
  have HG := Lib.hid hG
  clear hG
  go_enter Tryd.func45, Tryd.ntmps45
  go_wp2_with (with_reducible refine wpList_build rfl 110 [] rfl [] (.agg zlLog.toArray) rfl (lg_build0 _) ?_)
  go_ret
  exact ⟨rfl, HG.out, bw_alloc (Below.refl _ _) _⟩
theorem len_any (base l : Nat) (sv : Value) (rs : List RC) (nx : List Int) (w : World) (hL : LgAt w base l sv rs nx) :
    Calls Tryd.prog 48 #[.pointer (some ⟨l, 0, none⟩)] w fun e w' => e = .returned (.int .i64 rs.length) ∧ w' = w := by
  have h0 := hL.c0
  have hsh : ∃ q c, sv = .slice q rs.length c := by
    rcases hL.own.2 with ⟨h1, h2⟩ | ⟨g, cap, cur, h1, _⟩
    · exact ⟨none, 0, by rw [h1, h2]⟩
    · exact ⟨_, _, h1⟩
  obtain ⟨q, c, rfl⟩ := hsh
  clear hL
  go_enter Tryd.func48, Tryd.ntmps48
  go_wp2_with fail
  go_ret
  exact ⟨rfl, rfl⟩
theorem len_nil (w : World) : Calls Tryd.prog 48 #[.pointer none] w fun e w' => e = .returned (.int .i64 0) ∧ w' = w := by
  go_enter Tryd.func48, Tryd.ntmps48
  go_wp2_with fail
  go_ret
  exact ⟨rfl, rfl⟩
theorem hash0_build (w : World) : (Instr.build 23 #[]).run Tryd.prog w = .ok (.agg zl32.toArray) w := by kernel_rfl
theorem head_nil (w : World) : Calls Tryd.prog 44 #[.pointer none] w fun e w' => e = .returned (.agg (u8s z32).toArray) ∧ Below w.heap.size w w' := by
  have hz : (w.alloc (.cells zl32.toArray 23)).heap[w.heap.size]? = some (.cells zl32.toArray 23 (0, 0)) := heap_alloc_new _ _
  go_enter Tryd.func44, Tryd.ntmps44
  go_wp2_with fail
  refine (len_nil _).mono ?_
  rintro e w1 ⟨rfl, rfl⟩
  go_wp2_with ((with_reducible refine wpList_store_whole rfl 23 (.tmp 2) (.tmp 6) rfl w.heap.size zl32 zl32 23 rfl rfl hz rfl (by rw [zl32_eq]; exact hash_info z32_length) zl32_one ?_); intro w3 hU)
  exact post_cell 2 23 rfl w.heap.size _ zl32 _ _ hU.out.at_ Tryd.underlying23 rfl (by rw [zl32_eq]; exact hash_info z32_length) rfl rfl ⟨by rw [zl32_eq], hU.out.below (bw_alloc (Below.refl _ _) _) (Nat.le_refl _)⟩
theorem head_any (base l : Nat) (sv : Value) (rs : List RC) (nx : List Int) (w : World) (hL : LgAt w base l sv rs nx) :
    Calls Tryd.prog 44 #[.pointer (some ⟨l, 0, none⟩)] w fun e w' => e = .returned (.agg (u8s (headOf rs)).toArray) ∧ Below w.heap.size w w' := by
  have hz : (w.alloc (.cells zl32.toArray 23)).heap[w.heap.size]? = some (.cells zl32.toArray 23 (0, 0)) := heap_alloc_new _ _
  have hL1 := hL.below (bw_alloc (Below.refl _ _) (.cells zl32.toArray 23))
  have HL1 := Lib.hid hL1
  have h0 := hL1.c0
  rcases hL1.at_ with ⟨rfl, rfl⟩ | ⟨g, cap, cur, rfl, hg1, hg2, hcap, hg, hat⟩
  · clear hL hL1
    go_enter Tryd.func44, Tryd.ntmps44
    go_wp2_with fail
    refine (len_any _ _ _ _ _ _ HL1.out).mono ?_
    rintro e w1 ⟨rfl, rfl⟩
    go_wp2_with ((with_reducible refine wpList_store_whole rfl 23 (.tmp 2) (.tmp 6) rfl w.heap.size zl32 zl32 23 rfl rfl hz rfl (by rw [zl32_eq]; exact hash_info z32_length) zl32_one ?_); intro w3 hU)
    exact post_cell 2 23 rfl w.heap.size _ zl32 _ _ hU.out.at_ Tryd.underlying23 rfl (by rw [zl32_eq]; exact hash_info z32_length) rfl rfl ⟨by rw [zl32_eq]; rfl, hU.out.below (bw_alloc (Below.refl _ _) _) (Nat.le_refl _)⟩
  · clear hL hL1
    by_cases hn : rs.length = 0
    · have hrs : rs = [] := List.length_eq_zero_iff.1 hn
      subst hrs
      clear hn hat hg
      go_enter Tryd.func44, Tryd.ntmps44
      go_wp2_with fail
      refine (len_any _ _ _ _ _ _ HL1.out).mono ?_
      rintro e w1 ⟨rfl, rfl⟩
      go_wp2_with ((with_reducible refine wpList_store_whole rfl 23 (.tmp 2) (.tmp 6) rfl w.heap.size zl32 zl32 23 rfl rfl hz rfl (by rw [zl32_eq]; exact hash_info z32_length) zl32_one ?_); intro w3 hU)
      exact post_cell 2 23 rfl w.heap.size _ zl32 _ _ hU.out.at_ Tryd.underlying23 rfl (by rw [zl32_eq]; exact hash_info z32_length) rfl rfl ⟨by rw [zl32_eq]; rfl, hU.out.below (bw_alloc (Below.refl _ _) _) (Nat.le_refl _)⟩
    · obtain ⟨m, hm⟩ : ∃ m, m = rs.length := ⟨_, rfl⟩
      obtain ⟨n, hn2⟩ : ∃ n, m = n + 1 := ⟨m - 1, by omega⟩
      have HLEN := Lib.hid (len_any _ _ _ _ _ _ HL1.out)
      rw [← hm] at h0 HLEN
      have hsm := HL1.out.small
      have hb : ((m : Int) == 0) = false := by rw [beq_eq_false_iff_ne]; omega
      have e1 : IntKind.i64.wrap ((m : Int) - 1) = (n : Int) := by rw [show (m : Int) - 1 = n by omega]; exact IntWalk.i64_in _ (by omega)
      have f0 : (0 : Int) ≤ n := by omega
      have f1 : (n : Int) < m := by omega
      have HN := Lib.hid hn2
      have HM := Lib.hid hm
      have hnl : n < rs.length := by omega
      obtain ⟨r, hr⟩ : ∃ r, r = rs[n]'hnl := ⟨_, rfl⟩
      have hrw : Hid r.wf := show _ from by rw [hr]; exact HL1.out.wf _ (List.getElem_mem hnl)
      have hho : Hid (headOf rs = r.hash) := show _ = _ by unfold headOf; rw [show rs.length - 1 = n by omega, List.getElem?_eq_getElem hnl, hr]
      have hat' : ∀ j v, (u8s r.hash)[j]? = some v → cur[n * 68 + 36 + j]? = some v := fun j v hv => by
        rw [Nat.add_assoc]
        exact hat n hnl (36 + j) v (by rw [← hr]; exact RC.at_hash hrw.out.prev j v hv)
      clear hn hn2 hm hsm hr hnl hat
      go_enter Tryd.func44, Tryd.ntmps44
      go_wp2_with fail
      refine HLEN.out.mono ?_
      rintro e w1 ⟨rfl, rfl⟩
      go_wp2_with fail
      have HB1 := Lib.hid (bw_alloc (Below.refl w.heap.size w) (.cells zl32.toArray 23))
      generalize w.alloc (.cells zl32.toArray 23) = W1 at *
      clear HLEN
      go_still_tail 12, (by kernel_rfl)
      change wpList _ _ _ _ _ W1.drew
      have HB2 := Lib.hid HB1.out.drew
      have hg' : W1.drew.heap[g]? = some (.cells cur.toArray 61 (0, 0)) := hg
      have hz' : W1.drew.heap[w.heap.size]? = some (.cells zl32.toArray 23 (0, 0)) := hz
      clear hg hz HB1 h0
      generalize W1.drew = W2 at *
      go_wp2_with (first
        | (with_reducible refine wpList_load_rows rfl 23 (.tmp 18) rfl g (n * 68 + 36) (u8s r.hash) cur 61 (0, 0) _ rfl hg' hat' Tryd.underlying23 rfl (hash_info hrw.out.hash) ?_)
        | ((with_reducible refine wpList_store_whole rfl 23 (.tmp 2) (.tmp 19) rfl w.heap.size (u8s r.hash) zl32 23 rfl rfl hz' (by rw [u8s_length, hrw.out.hash, zl32_length]) (hash_info hrw.out.hash) (u8s_one _) ?_); intro w3 hU))
      exact post_cell 2 23 rfl w.heap.size _ (u8s r.hash) _ _ hU.out.at_ Tryd.underlying23 rfl (hash_info hrw.out.hash) rfl rfl ⟨by rw [hho.out], hU.out.below HB2.out (Nat.le_refl _)⟩
open Go.RowKit
set_option maxHeartbeats 2000000
set_option maxRecDepth 4000
theorem theirs_any (b4 b6 base l : Nat) (sv : Value) (rs : List RC) (nx : List Int) (body : ByteArray) (w : World) (h4 : w.heap[b4]? = some (.cells #[.pointer (some ⟨l, 0, none⟩)] 55 (0, 0))) (h6 : w.heap[b6]? = some (.cells #[.string body] 9 (0, 0)))
    (hL : LgAt w base l sv rs nx) (hs : body.size ≤ 140737488351232) (hR : RoundsAt w) :
    Calls Tryd.prog 108 #[.pointer (some ⟨b6, 0, none⟩), .pointer (some ⟨b4, 0, none⟩)] w fun e w' => e = .returned (.tuple #[.int .i64 (theirs nx body).1, .int .i64 (theirs nx body).2]) ∧ Below w.heap.size w w' := by
  have HL := Lib.hid hL
  have HR := Lib.hid hR
  have H4 := Lib.hid h4
  have c6 := cell_of_one h6
  have hs2 : body.size ≤ 140737488355328 := by omega
  obtain ⟨q, hq⟩ : ∃ q, q = theirs nx body := ⟨_, rfl⟩
  rw [← hq]
  have HQ := Lib.hid hq
  clear hL hR h4 h6 hq
  cases hr : rdTx body with
  | error x =>
    have HRD := Lib.hid hr
    have hx0 : (x != 0) = true := rdTx_err hr
    have HQ2 : Hid (q = (0, 6)) := show _ = _ by rw [HQ.out, theirs, hr]
    clear hr
    go_enter Tryd.func108, Tryd.ntmps108
    go_wp2_with fail
    refine (read_any body _ hs2).mono ?_
    rintro e w1 ⟨rfl, hb1⟩
    rw [HRD.out]
    simp only [txOf, errOf]
    have hz1 : (w1.alloc (.cells Tryd.zeroCells25 25)).heap[w1.heap.size]? = some (.cells zlTx.toArray 25 (0, 0)) := heap_alloc_new w1 _
    have HB1 := Lib.hid (bw_alloc hb1 (.cells Tryd.zeroCells25 25))
    have hle := hb1.size
    clear hb1 c6
    go_wp2_with ((with_reducible refine wpList_store_whole rfl 25 (.tmp 4) (.tmp 9) rfl w1.heap.size TX.zero.cells zlTx 25 rfl rfl hz1 rfl (tx_info TX.zero_wf) (start_one _) ?_); intro w2 hU2)
    go_ret2
    exact ⟨by rw [HQ2.out]; rfl, hU2.out.below HB1.out hle⟩
  | ok t =>
    have HRD := Lib.hid hr
    obtain ⟨htw, htc, hst⟩ := tx_back hr
    obtain ⟨⟨⟨⟨z1, z2⟩, z3⟩, z4⟩, hrest⟩ := TX.chk_zero htc
    have HT := Lib.hid htw
    have HTL : Hid (t.cells.length = zlTx.length) := show _ = _ from t.cells_length HT.out.by_ HT.out.tag
    have HQ1 : Hid (q = if t.signed = 0 then (if t.nonce = nx.getD t.frm.toNat 0 then (t.frm, 0) else (0, 22)) else (0, 21)) := show _ = _ by rw [HQ.out, theirs, hr]
    obtain ⟨sg, hsg⟩ : ∃ s, s = t.signed := ⟨_, rfl⟩
    rw [← hsg] at HQ1
    have HSG := Lib.hid hsg
    clear hr hst hrest htw htc hsg
    go_enter Tryd.func108, Tryd.ntmps108
    go_wp2_with fail
    refine (read_any body _ hs2).mono ?_
    rintro e w1 ⟨rfl, hb1⟩
    rw [HRD.out]
    simp only [txOf, errOf]
    have hz1 : (w1.alloc (.cells Tryd.zeroCells25 25)).heap[w1.heap.size]? = some (.cells zlTx.toArray 25 (0, 0)) := heap_alloc_new w1 _
    have HB1 := Lib.hid (bw_alloc hb1 (.cells Tryd.zeroCells25 25))
    have hle := hb1.size
    clear hb1 c6
    go_wp2_with (first
      | ((with_reducible refine wpList_store_whole rfl 25 (.tmp 4) (.tmp 9) rfl w1.heap.size t.cells zlTx 25 rfl rfl hz1 HTL.out (tx_info HT.out) (start_one _) ?_); intro w2 hU2; have hT2 := hU2.out.at_; have HB2 := Lib.hid (hU2.out.below HB1.out hle); clear hz1)
      | (with_reducible refine wpList_load_rows rfl 25 (.tmp 4) rfl w1.heap.size 0 t.cells t.cells 25 (0, 0) _ rfl hT2 id_at Tryd.underlying25 rfl (tx_info HT.out) ?_))
    refine (signed_any t _ HT.out (HR.out.below HB2.out HR.out.1)).mono ?_
    rintro e w3 ⟨rfl, hb3⟩
    rw [← HSG.out]
    have hT3 := (hb3.block _ (block_lt hT2)).trans hT2
    have HB3 := Lib.hid (bw_call HB2.out hb3)
    have HL3 := Lib.hid (HL.out.below HB3.out)
    have c4 : w3.cell? ⟨b4, 0, none⟩ = some (.pointer (some ⟨l, 0, none⟩)) := cell_of_one ((HB3.out.block _ (block_lt H4.out)).trans H4.out)
    clear hb3 hT2
    generalize w1.heap.size = b1 at *
    by_cases hs0 : sg = 0
    · subst hs0
      obtain ⟨fr, hfr⟩ : ∃ fr : Nat, t.frm = (fr : Int) := ⟨t.frm.toNat, by omega⟩
      have hfr64 : fr < 64 := by omega
      obtain ⟨nn, hnn⟩ : ∃ x, x = nx.getD fr 0 := ⟨_, rfl⟩
      have k0 : w3.cell? ⟨b1, 0, none⟩ = some (.int .i64 fr) := by rw [← hfr, cell_of_row w3 b1 0 _ _ _ hT3]; rfl
      have k1 : w3.cell? ⟨b1, 1, none⟩ = some (.int .i64 t.nonce) := by rw [cell_of_row w3 b1 1 _ _ _ hT3]; rfl
      have g1 : w3.cell? ⟨l, 1 + fr, none⟩ = some (.int .i64 nn) := by rw [hnn]; exact HL3.out.cn hfr64
      have f0 : (0 : Int) ≤ fr := by omega
      have f1 : (fr : Int) < 64 := by omega
      have HQ2 : Hid (q = if t.nonce = nn then ((fr : Int), 0) else (0, 22)) := show _ = _ by rw [HQ1.out, if_pos rfl, hnn, hfr]; rfl
      clear hnn hfr z1 z2 z3 z4
      by_cases hn : t.nonce = nn
      · have hd : (t.nonce != nn) = false := by simpa using hn
        have HQ3 : Hid (q = ((fr : Int), 0)) := show _ = _ by rw [HQ2.out, if_pos hn]
        clear hn
        go_wp2_with fail
        go_quiet (fail)
        have hb4 := bw_drewN HB3.out nq
        have HB4 := Lib.hid hb4
        have k0 : (w3.drewN nq).cell? ⟨b1, 0, none⟩ = some (.int .i64 fr) := k0
        go_wp2_with fail
        go_ret2
        exact ⟨by rw [HQ3.out]; rfl, HB4.out⟩
      · have hd : (t.nonce != nn) = true := by simpa using hn
        have HQ3 : Hid (q = (0, 22)) := show _ = _ by rw [HQ2.out, if_neg hn]
        clear hn
        go_wp2_with fail
        go_quiet (fail)
        have hb4 := bw_drewN HB3.out nq
        have HB4 := Lib.hid hb4
        go_wp2_with fail
        go_ret2
        exact ⟨by rw [HQ3.out]; rfl, HB4.out⟩
    · have hd : (sg != 0) = true := by simpa using hs0
      have HQ2 : Hid (q = (0, 21)) := show _ = _ by rw [HQ1.out, if_neg hs0]
      go_wp2_with fail
      go_ret2
      exact ⟨by rw [HQ2.out]; rfl, HB3.out⟩
theorem from_any (base l : Nat) (sv : Value) (rs : List RC) (nx : List Int) (kind : Int) (body : ByteArray) (time : Int) (w : World) (hL : LgAt w base l sv rs nx) (hs : body.size ≤ 140737488351232) (hR : RoundsAt w) :
    Calls Tryd.prog 103 #[.pointer (some ⟨l, 0, none⟩), .int .i64 kind, .string body, .int .i64 time] w fun e w' => e = .returned (.tuple #[.int .i64 (fromOf rs nx kind body time).1, .int .i64 (fromOf rs nx kind body time).2]) ∧ Below w.heap.size w w' := by
  have hB0 := bw_alloc (bw_alloc (Below.refl w.heap.size w) (.cells #[.pointer (some ⟨l, 0, none⟩)] 55)) (.cells #[.string body] 9)
  have hL0 := hL.below hB0
  have h4 : ((w.alloc (.cells #[.pointer (some ⟨l, 0, none⟩)] 55)).alloc (.cells #[.string body] 9)).heap[w.heap.size]? = some (.cells #[.pointer (some ⟨l, 0, none⟩)] 55 (0, 0)) := (Below.heap_alloc _ _ _ (by simp)).trans (heap_alloc_new w _)
  have h6 : ((w.alloc (.cells #[.pointer (some ⟨l, 0, none⟩)] 55)).alloc (.cells #[.string body] 9)).heap[w.heap.size + 1]? = some (.cells #[.string body] 9 (0, 0)) := heap_alloc2_new w _ _
  have HTH := Lib.hid (theirs_any w.heap.size (w.heap.size + 1) base l sv rs nx body _ h4 h6 hL0 hs (hR.below hB0 hR.1))
  have HB0 := Lib.hid hB0
  have c4 := cell_of_one h4
  have c0 := hL0.c0
  obtain ⟨q, hq⟩ : ∃ q, q = fromOf rs nx kind body time := ⟨_, rfl⟩
  rw [← hq]
  have HQ := Lib.hid hq
  have hsh : ∃ q c, sv = .slice q rs.length c := by
    rcases hL.own.2 with ⟨h1, h2⟩ | ⟨g, cap, cur, h1, _⟩
    · exact ⟨none, 0, by rw [h1, h2]⟩
    · exact ⟨_, _, h1⟩
  by_cases hm0 : rs.length = 0
  · have HQ1 : Hid (q = if kind = 1 then theirs nx body else (-1, 0)) := show _ = _ by
      rw [HQ.out, fromOf, isLate, List.length_eq_zero_iff.1 hm0]
      rfl
    obtain ⟨sq, sc, rfl⟩ := hsh
    rw [hm0] at c0
    by_cases hk : kind = 1
    · have HQ2 : Hid (q = theirs nx body) := show _ = _ by rw [HQ1.out, if_pos hk]
      have hd : (kind == 1) = true := by simpa using hk
      clear hL hR hL0 hB0 h4 h6 hq hm0 hk
      go_enter Tryd.func103, Tryd.ntmps103
      go_wp2_with fail
      refine HTH.out.mono ?_
      rintro e w1 ⟨rfl, hb1⟩
      have HB1 := Lib.hid (bw_call HB0.out hb1)
      clear hb1
      go_wp2_with fail
      go_ret2
      exact ⟨by rw [HQ2.out]; rfl, HB1.out⟩
    · have HQ2 : Hid (q = (-1, 0)) := show _ = _ by rw [HQ1.out, if_neg hk]
      have hd : (kind == 1) = false := by simpa using hk
      clear hL hR hL0 hB0 h4 h6 hq hm0 hk
      go_enter Tryd.func103, Tryd.ntmps103
      go_wp2_with fail
      go_ret2
      exact ⟨by rw [HQ2.out]; rfl, HB0.out⟩
  · clear hsh
    rcases hL0.at_ with ⟨_, h2⟩ | ⟨g, cap, cur, rfl, hg1, hg2, hcap, hg, hat⟩
    · exact absurd (by rw [h2]; rfl) hm0
    · obtain ⟨m, hm⟩ : ∃ m, m = rs.length := ⟨_, rfl⟩
      obtain ⟨n, hn2⟩ : ∃ n, m = n + 1 := ⟨m - 1, by omega⟩
      rw [← hm] at c0
      have hsm := hL.small
      have hd0 : decide ((0 : Int) < m) = true := decide_eq_true (by omega)
      have e1 : IntKind.i64.wrap ((m : Int) - 1) = (n : Int) := by rw [show (m : Int) - 1 = n by omega]; exact IntWalk.i64_in _ (by omega)
      have f0 : (0 : Int) ≤ n := by omega
      have f1 : (n : Int) < m := by omega
      have hnl : n < rs.length := by omega
      obtain ⟨r, hr⟩ : ∃ r, r = rs[n]'hnl := ⟨_, rfl⟩
      have ct : ((w.alloc (.cells #[.pointer (some ⟨l, 0, none⟩)] 55)).alloc (.cells #[.string body] 9)).cell? ⟨g, n * 68 + 2, none⟩ = some (.int .i64 r.time) := by
        rw [cell_of_row _ g _ _ _ _ hg, List.getElem?_toArray]
        exact hat n hnl 2 _ (by rw [← hr]; rfl)
      have HQ0 : Hid (q = if decide (time < r.time) = true then (0, 33) else if kind = 1 then theirs nx body else (-1, 0)) := show _ = _ by
        rw [HQ.out, fromOf, isLate, show rs.length - 1 = n by omega, List.getElem?_eq_getElem hnl, hr]
      have HM := Lib.hid hm
      clear hL hR hL0 hB0 h4 h6 hq hm hm0 hn2 hsm hat hr hnl hg hcap
      by_cases hlt : time < r.time
      · have HQ2 : Hid (q = (0, 33)) := show _ = _ by rw [HQ0.out, if_pos (decide_eq_true hlt)]
        have hd : decide (time < r.time) = true := decide_eq_true hlt
        clear hlt
        go_enter Tryd.func103, Tryd.ntmps103
        go_wp2_with fail
        go_ret2
        exact ⟨by rw [HQ2.out]; rfl, HB0.out⟩
      · have HQ1 : Hid (q = if kind = 1 then theirs nx body else (-1, 0)) := show _ = _ by rw [HQ0.out, if_neg (by simpa using hlt)]
        have hd : decide (time < r.time) = false := decide_eq_false hlt
        clear hlt
        by_cases hk : kind = 1
        · have HQ2 : Hid (q = theirs nx body) := show _ = _ by rw [HQ1.out, if_pos hk]
          have hd : (kind == 1) = true := by simpa using hk
          clear hk
          go_enter Tryd.func103, Tryd.ntmps103
          go_wp2_with fail
          refine HTH.out.mono ?_
          rintro e w1 ⟨rfl, hb1⟩
          have HB1 := Lib.hid (bw_call HB0.out hb1)
          clear hb1
          go_wp2_with fail
          go_ret2
          exact ⟨by rw [HQ2.out]; rfl, HB1.out⟩
        · have HQ2 : Hid (q = (-1, 0)) := show _ = _ by rw [HQ1.out, if_neg hk]
          have hd : (kind == 1) = false := by simpa using hk
          clear hk
          go_enter Tryd.func103, Tryd.ntmps103
          go_wp2_with fail
          go_ret2
          exact ⟨by rw [HQ2.out]; rfl, HB0.out⟩
theorem from_nil (kind : Int) (body : ByteArray) (time : Int) (w : World) :
    Calls Tryd.prog 103 #[.pointer none, .int .i64 kind, .string body, .int .i64 time] w fun e w' => e = .returned (.tuple #[.int .i64 0, .int .i64 1]) ∧ Below w.heap.size w w' := by
  have HB0 := Lib.hid (bw_alloc (bw_alloc (Below.refl w.heap.size w) (.cells #[.pointer none] 55)) (.cells #[.string body] 9))
  have c4 : ((w.alloc (.cells #[.pointer none] 55)).alloc (.cells #[.string body] 9)).cell? ⟨w.heap.size, 0, none⟩ = some (.pointer none) := cell_of_one ((Below.heap_alloc _ _ _ (by simp)).trans (heap_alloc_new w _))
  go_enter Tryd.func103, Tryd.ntmps103
  go_wp2_with fail
  go_ret2
  exact ⟨rfl, HB0.out⟩
open Go.RowKit
set_option maxHeartbeats 2000000
set_option maxRecDepth 4000
def mkRc (rs : List RC) (nx : List Int) (kind : Int) (body : ByteArray) (time : Int) : RC := if (fromOf rs nx kind body time).2 = 0 then linkRes (headOf rs) rs.length kind time body else RC.zero
def mkWho (rs : List RC) (nx : List Int) (kind : Int) (body : ByteArray) (time : Int) : Int := if (fromOf rs nx kind body time).2 = 0 then (fromOf rs nx kind body time).1 else 0
def mkErr (rs : List RC) (nx : List Int) (kind : Int) (body : ByteArray) (time : Int) : Int := if (fromOf rs nx kind body time).2 = 0 then linkErr (headOf rs) rs.length kind time body else (fromOf rs nx kind body time).2
structure MkAt (w W : World) (base l : Nat) (sv : Value) (rs : List RC) (nx : List Int) : Prop where
  lg : LgAt W base l sv rs nx
  z : W.heap[w.heap.size]? = some (.cells zlRc.toArray 61 (0, 0))
  b : Below w.heap.size w W
theorem MkAt.next {w W W' : World} {base l : Nat} {sv : Value} {rs : List RC} {nx : List Int} (h : MkAt w W base l sv rs nx) (hb : Below W.heap.size W W') : MkAt w W' base l sv rs nx :=
  ⟨h.lg.below hb, (hb.block _ (block_lt h.z)).trans h.z, bw_call h.b hb⟩
theorem rc0_wf {rs : List RC} (h : ∀ r ∈ rs, r.wf) (hn : rs.length ≤ 1000) {kind time : Int} {body : ByteArray} (h1 : i64ok kind) (h2 : i64ok time) (hs : body.size ≤ 140737488351232) : (RC.mk rs.length kind time body (headOf rs) z32).wf :=
  ⟨⟨by show _ ≤ (rs.length : Int); omega, by show (rs.length : Int) ≤ _; omega⟩, h1, h2, hs, headOf_length h, rfl⟩
theorem store_row {P : Program} {w : World} {b : Nat} {cur vs : List Value} {t : TypeId} (hg : w.heap[b]? = some (.cells cur.toArray t (0, 0))) (hl : vs.length = cur.length) (h1 : ∀ v ∈ vs, v.oneCell' = true) :
    ∃ W', (storeCells ⟨b, 0, none⟩ vs).run P w = .ok () W' ∧ Upd w W' b (.cells vs.toArray t (0, 0)) := by
  refine ⟨w.setCells b (0 + 0) vs, run_storeCells_cells b 0 vs 0 w (fun j hj => ?_) (fun j hj => frozen_of_row w b _ _ _ hg) h1, ?_⟩
  · rw [cell_of_row w b _ _ _ _ hg, List.getElem?_toArray, show 0 + 0 + j = j by omega, List.getElem?_eq_getElem (by omega)]
    rfl
  · have hU := upd_setCells (o := 0) (vs := vs) hg (by omega)
    rw [splice_all _ _ hl] at hU
    exact hU
theorem bw_allocd (w : World) (o : Obj) : Below w.heap.size w (w.alloc o).drew := (bw_alloc (Below.refl _ _) o).drew
theorem post_cell_tmp2 {P : Program} {R : Ending → World → Prop} {fn : Func} {a : Act} {w : World} (p t s : Tmp) (ty : TypeId) (h : fn.results = #[.cell p ty, .tmp t, .tmp s]) (g : Nat) (T : TypeId) (cs : List Value) (fr : Nat × Nat) (d : TypeDesc)
    (hg : w.heap[g]? = some (.cells cs.toArray T fr)) (hu : P.underlying ty = some d) (hd : d.isRow = true) (hi : (P.info? ty).map (·.size) = some cs.length) (v u : Value)
    (hp : a.tmps.getD p undef = .pointer (some ⟨g, 0, none⟩)) (hv : a.tmps.getD t undef = v) (hv2 : a.tmps.getD s undef = u) (hdf : a.defers = []) (hR : R (.returned (.tuple #[.agg cs.toArray, v, u])) w) : bodyPost P fn R .ret a w := by
  subst hv hv2
  refine bodyPost_ret ?_ hdf hR
  have hp' : a.tmps[p]?.getD undef = .pointer (some ⟨g, 0, none⟩) := by simpa using hp
  have hl := run_loadVar_row (P := P) w g T ty cs.toArray fr d hg hu (by cases d <;> simp_all) (by simpa using hi)
  simp [results, h, hp', asAddr, hl]
theorem make_any (base l : Nat) (sv : Value) (rs : List RC) (nx : List Int) (kind : Int) (body : ByteArray) (time : Int) (w : World) (hL : LgAt w base l sv rs nx) (h1 : i64ok kind) (h2 : i64ok time) (hs : body.size ≤ 140737488351232) (hR : RoundsAt w) :
    Calls Tryd.prog 85 #[.pointer (some ⟨l, 0, none⟩), .int .i64 kind, .string body, .int .i64 time] w fun e w' => e = .returned (.tuple #[.agg (mkRc rs nx kind body time).cells.toArray, .int .i64 (mkWho rs nx kind body time), .int .i64 (mkErr rs nx kind body time)]) ∧ Below w.heap.size w w' := by
  have hM0 : MkAt w (w.alloc (.cells Tryd.zeroCells61 61)) base l sv rs nx := ⟨hL.below (bw_alloc (Below.refl _ _) _), heap_alloc_new _ _, bw_alloc (Below.refl _ _) _⟩
  have HFR := Lib.hid (from_any base l sv rs nx kind body time _ hM0.lg hs (hR.below hM0.b hR.1))
  obtain ⟨wh, hwh⟩ : ∃ x, x = (fromOf rs nx kind body time).1 := ⟨_, rfl⟩
  obtain ⟨er, her⟩ : ∃ x, x = (fromOf rs nx kind body time).2 := ⟨_, rfl⟩
  obtain ⟨r1, hr1⟩ : ∃ x, x = mkRc rs nx kind body time := ⟨_, rfl⟩
  obtain ⟨r2, hr2⟩ : ∃ x, x = mkWho rs nx kind body time := ⟨_, rfl⟩
  obtain ⟨r3, hr3⟩ : ∃ x, x = mkErr rs nx kind body time := ⟨_, rfl⟩
  rw [← hr1, ← hr2, ← hr3]
  rw [← hwh, ← her] at HFR
  have HR1 := Lib.hid hr1
  have HR2 := Lib.hid hr2
  have HR3 := Lib.hid hr3
  have HWH := Lib.hid hwh
  have HER := Lib.hid her
  have HM0 := Lib.hid hM0
  have HR := Lib.hid hR
  have HLW := Lib.hid (rc0_wf hL.wf hL.small h1 h2 hs)
  have hsh : ∃ q c, sv = .slice q rs.length c := by
    rcases hL.own.2 with ⟨h1, h2⟩ | ⟨g, cap, cur, h1, _⟩
    · exact ⟨none, 0, by rw [h1, h2]⟩
    · exact ⟨_, _, h1⟩
  clear hr1 hr2 hr3 hwh her hM0 hR hL
  by_cases he : er = 0
  · have HQ : Hid (r1 = linkRes (headOf rs) rs.length kind time body ∧ r2 = wh ∧ r3 = linkErr (headOf rs) rs.length kind time body) := show _ ∧ _ by
      rw [HR1.out, HR2.out, HR3.out, mkRc, mkWho, mkErr, ← HER.out, ← HWH.out, he]
      exact ⟨rfl, rfl, rfl⟩
    subst he
    obtain ⟨sq, c, rfl⟩ := hsh
    obtain ⟨m, hm⟩ : ∃ m, m = rs.length := ⟨_, rfl⟩
    obtain ⟨h, hh⟩ : ∃ h, h = headOf rs := ⟨_, rfl⟩
    rw [← hm, ← hh] at HQ HLW
    have HLK := Lib.hid (fun W hRW => nlink_any h m kind time body W HLW.out hRW)
    obtain ⟨rc, hrc⟩ : ∃ x, x = linkRes h m kind time body := ⟨_, rfl⟩
    obtain ⟨el, hel⟩ : ∃ x, x = linkErr h m kind time body := ⟨_, rfl⟩
    rw [← hrc, ← hel] at HLK HQ
    have HRW : Hid rc.wf := show _ from by rw [hrc]; exact linkRes_wf HLW.out
    have HRL : Hid (rc.cells.length = zlRc.length) := show _ = _ from rc_len HRW.out
    have HHD := Lib.hid (fun W hW => head_any base l (.slice sq m c) rs nx W hW)
    rw [← hm] at HM0
    rw [← hh] at HHD
    have KEEP : Hid (∀ W', MkAt w W' base l (.slice sq m c) rs nx → (MkAt w W' base l (.slice sq m c) rs nx ∧ W'.cell? ⟨l, 0, none⟩ = some (.slice sq m c))) := show ∀ W', _ from fun W' h => ⟨h, h.lg.c0⟩
    clear hm hh hrc hel
    go_enter Tryd.func85, Tryd.ntmps85
    go_wp2_with fail
    refine HFR.out.mono ?_
    rintro e w1 ⟨rfl, hb1⟩
    have hT1 := HM0.out.next hb1
    clear hb1
    go_wp2_with fail
    go_region_held3 (fun W' => MkAt w W' base l (.slice sq m c) rs nx ∧ W'.cell? ⟨l, 0, none⟩ = some (.slice sq m c))
      (first | assumption | exact KEEP.out _ hT1 | exact KEEP.out _ (hT1.next (Below.refl _ _).drew) | exact KEEP.out _ (hT1.next (bw_alloc (Below.refl _ _) _)) | exact KEEP.out _ (hT1.next (bw_alloc (Below.refl _ _) _).drew) | exact KEEP.out _ hTH | exact KEEP.out _ (hTH.next (bw_alloc (Below.refl _ _) _)) | exact KEEP.out _ hTK | exact KEEP.out _ (hTK.next (bw_alloc (Below.refl _ _) _)) | exact KEEP.out _ hTS | fail)
      (first
        | (go_at_call 44; refine (HHD.out _ (MkAt.lg (And.left (by assumption)))).mono ?_; rintro e w' ⟨rfl, hbH⟩; have hTH := MkAt.next (And.left (by assumption)) hbH)
        | (go_at_call 104; refine (HLK.out _ (HR.out.below (MkAt.b (And.left (by assumption))) HR.out.1)).mono ?_; rintro e w2 ⟨rfl, hbK⟩; have hTK := MkAt.next (And.left (by assumption)) hbK
           first
             | (obtain ⟨W5, hST, hU5⟩ := store_row (P := Tryd.prog) (keep_row hbK (heap_alloc_new w' (.cells Tryd.zeroCells61 61))) HRL.out (rc_one rc); have hTS := hTH.next (hU5.below (bw_call (bw_alloc (Below.refl _ _) _) hbK) (Nat.le_refl _)); have hT13 := hU5.at_)
             | (have hbA : Below w1.heap.size w1.drew w' := hbH; obtain ⟨W5, hST, hU5⟩ := store_row (P := Tryd.prog) (heap_alloc_new w2 (.cells Tryd.zeroCells61 61)) HRL.out (rc_one rc); have hTS := hTK.next (hU5.below (bw_alloc (Below.refl _ _) _) (Nat.le_refl _)); have hT13 := hU5.at_)
             | (have hZ := keep_row hbK (keep_row hbH (show _ = some (.cells zlRc.toArray 61 (0, 0)) from heap_alloc_new w1 (.cells Tryd.zeroCells61 61))); obtain ⟨W5, hST, hU5⟩ := store_row (P := Tryd.prog) hZ HRL.out (rc_one rc); have hY := bw_call (bw_call (bw_allocd w1 (.cells Tryd.zeroCells61 61)) hbH) hbK; have hT13 := hU5.at_; have hTS := hT1.next (hU5.below hY (Nat.le_refl _)))))
    all_goals
      have hz := hTS.z
      have HTS := Lib.hid hTS
      clear hTS hTK hTH hT1 hbH hbK hST hU5 KEEP
      go_wp2_with (first
        | (with_reducible refine wpList_load_rows rfl 61 (.tmp 13) rfl _ 0 rc.cells rc.cells 61 (0, 0) _ rfl hT13 id_at Tryd.underlying61 rfl (rc_info HRW.out) ?_)
        | ((with_reducible refine wpList_store_whole rfl 61 (.tmp 8) (.tmp 40) rfl w.heap.size rc.cells zlRc 61 rfl rfl hz HRL.out (rc_info HRW.out) (rc_one _) ?_); intro w6 hU6))
      exact post_cell_tmp2 8 9 10 61 rfl w.heap.size _ rc.cells _ _ hU6.out.at_ Tryd.underlying61 rfl (rc_info HRW.out) (.int .i64 wh) (.int .i64 el) rfl rfl rfl rfl ⟨by rw [HQ.out.1, HQ.out.2.1, HQ.out.2.2], hU6.out.below HTS.out.b (Nat.le_refl _)⟩
  · have HQ : Hid (r1 = RC.zero ∧ r2 = 0 ∧ r3 = er) := show _ ∧ _ by
      rw [HR1.out, HR2.out, HR3.out, mkRc, mkWho, mkErr, ← HER.out, if_neg he, if_neg he, if_neg he]
      exact ⟨rfl, rfl, rfl⟩
    have hd : (er != 0) = true := by simpa using he
    clear he
    go_enter Tryd.func85, Tryd.ntmps85
    go_wp2_with fail
    refine HFR.out.mono ?_
    rintro e w1 ⟨rfl, hb1⟩
    have hT1 := HM0.out.next hb1
    have hz := hT1.z
    have HB1 := Lib.hid hT1.b
    clear hb1 hT1
    go_wp2_with (first
      | (with_reducible refine wpList_build rfl 61 [] rfl [] (.agg zlRc.toArray) rfl (rc_build0 _) ?_)
      | ((with_reducible refine wpList_store_whole rfl 61 (.tmp 8) (.tmp 24) rfl w.heap.size zlRc zlRc 61 rfl rfl hz rfl zlRc_info zlRc_one ?_); intro w6 hU6))
    exact post_cell_tmp2 8 9 10 61 rfl w.heap.size _ zlRc _ _ hU6.out.at_ Tryd.underlying61 rfl zlRc_info (.int .i64 0) (.int .i64 er) rfl rfl rfl rfl ⟨by rw [HQ.out.1, HQ.out.2.1, HQ.out.2.2]; rfl, hU6.out.below HB1.out (Nat.le_refl _)⟩
end Go.Proofs.YtckfdmkjeocadaaDoor
