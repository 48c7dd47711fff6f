/- A log of the package order in memory; New, Len, Head, from: what the calls do. -/
import Derived.Test.YtckfdmkjeocadaaDoorNLink
namespace Go.Proofs.YtckfdmkjeocadaaDoor
open Go.RowKit
set_option maxHeartbeats 2000000
set_option maxRecDepth 4000
abbrev zlLog : List Value := [.slice none 0 0, .int .i64 0, .int .i64 0, .int .i64 0, .int .i64 0, .int .i64 0, .int .i64 0, .int .i64 0, .int .i64 0, .int .i64 0, .int .i64 0, .int .i64 0, .int .i64 0, .int .i64 0, .int .i64 0, .int .i64 0, .int .i64 0, .int .i64 0, .int .i64 0, .int .i64 0, .int .i64 0, .int .i64 0, .int .i64 0, .int .i64 0, .int .i64 0, .int .i64 0, .int .i64 0, .int .i64 0, .int .i64 0, .int .i64 0, .int .i64 0, .int .i64 0, .int .i64 0, .int .i64 0, .int .i64 0, .int .i64 0, .int .i64 0, .int .i64 0, .int .i64 0, .int .i64 0, .int .i64 0, .int .i64 0, .int .i64 0, .int .i64 0, .int .i64 0, .int .i64 0, .int .i64 0, .int .i64 0, .int .i64 0, .int .i64 0, .int .i64 0, .int .i64 0, .int .i64 0, .int .i64 0, .int .i64 0, .int .i64 0, .int .i64 0, .int .i64 0, .int .i64 0, .int .i64 0, .int .i64 0, .int .i64 0, .int .i64 0, .int .i64 0, .int .i64 0]
def lcells (sv : Value) (nx : List Int) : List Value := sv :: nx.map (Value.int .i64)
def rcells (rs : List RC) : List Value := rs.flatMap RC.cells
theorem rcells_length : ∀ (rs : List RC), (∀ r ∈ rs, r.wf) → (rcells rs).length = rs.length * 68
  | [], _ => rfl
  | r :: rs, h => by
    have h1 := rcells_length rs (fun x hx => h x (List.mem_cons_of_mem _ hx))
    have h2 := RC.cells_length (h r (List.mem_cons_self ..)).prev (h r (List.mem_cons_self ..)).hash
    simp only [rcells, List.flatMap_cons, List.length_append, List.length_cons] at h1 ⊢
    omega
theorem rcells_at : ∀ (rs : List RC), (∀ r ∈ rs, r.wf) → ∀ (k : Nat) (hk : k < rs.length) (j : Nat) (v : Value), (rs[k]'hk).cells[j]? = some v → (rcells rs)[k * 68 + j]? = some v
  | [], _, k, hk, _, _, _ => absurd hk (by simp)
  | r :: rs, h, k, hk, j, v, hv => by
    have h2 := RC.cells_length (h r (List.mem_cons_self ..)).prev (h r (List.mem_cons_self ..)).hash
    simp only [rcells, List.flatMap_cons]
    cases k with
    | zero =>
      simp only [List.getElem_cons_zero] at hv
      have hj : j < r.cells.length := by
        rcases Nat.lt_or_ge j r.cells.length with h3 | h3
        · exact h3
        · rw [List.getElem?_eq_none h3] at hv; cases hv
      rw [List.getElem?_append_left (by omega)]
      simpa using hv
    | succ k =>
      simp only [List.getElem_cons_succ] at hv
      have ih := rcells_at rs (fun x hx => h x (List.mem_cons_of_mem _ hx)) k (by simpa using hk) j v hv
      rw [List.getElem?_append_right (by omega), h2, show (k + 1) * 68 + j - 68 = k * 68 + j by omega]
      exact ih
theorem rcells_app (a b : List RC) : rcells (a ++ b) = rcells a ++ rcells b := by simp [rcells]
theorem rcells_one (r : RC) : rcells [r] = r.cells := by simp [rcells]
theorem rcells_ones (rs : List RC) : ∀ v ∈ rcells rs, v.oneCell' = true := by
  intro v hv
  obtain ⟨r, _, h⟩ := List.mem_flatMap.1 hv
  exact rc_one r v h
/-- a log in memory: its cells, its receipts -/
structure LgAt (W : World) (base l : Nat) (sv : Value) (rs : List RC) (nx : List Int) : Prop where
  len : nx.length = 64
  row : W.heap[l]? = some (.cells (lcells sv nx).toArray 110 (0, 0))
  own : W.ownsRow base 61 68 sv rs.length (rcells rs)
  wf : ∀ r ∈ rs, r.wf
  lt : l < base
  small : rs.length ≤ 1000
  nxb : ∀ x ∈ nx, 0 ≤ x ∧ x ≤ rs.length
theorem LgAt.below {W W' : World} {base l : Nat} {sv : Value} {rs : List RC} {nx : List Int} (h : LgAt W base l sv rs nx) (hb : Below W.heap.size W W') : LgAt W' base l sv rs nx :=
  ⟨h.len, (hb.block _ (block_lt h.row)).trans h.row, own_below h.own hb (Nat.le_refl _), h.wf, h.lt, h.small, h.nxb⟩
theorem LgAt.c0 {W : World} {base l : Nat} {sv : Value} {rs : List RC} {nx : List Int} (h : LgAt W base l sv rs nx) : W.cell? ⟨l, 0, none⟩ = some sv := by
  rw [cell_of_row W l 0 _ _ _ h.row]; rfl
theorem LgAt.cn {W : World} {base l : Nat} {sv : Value} {rs : List RC} {nx : List Int} (h : LgAt W base l sv rs nx) {i : Nat} (hi : i < 64) : W.cell? ⟨l, 1 + i, none⟩ = some (.int .i64 (nx.getD i 0)) := by
  have hl := h.len
  rw [cell_of_row W l _ _ _ _ h.row, List.getElem?_toArray, lcells, Nat.add_comm, List.getElem?_cons_succ, List.getElem?_map, List.getElem?_eq_getElem (by omega)]
  rw [List.getD_eq_getElem?_getD, List.getElem?_eq_getElem (by omega)]
  rfl
theorem LgAt.free {W : World} {base l : Nat} {sv : Value} {rs : List RC} {nx : List Int} (h : LgAt W base l sv rs nx) (k : Nat) : W.frozen? ⟨l, k, none⟩ = false := frozen_of_row W l k _ _ h.row
/-- the row of receipts, where there is one -/
theorem LgAt.at_ {W : World} {base l : Nat} {sv : Value} {rs : List RC} {nx : List Int} (h : LgAt W base l sv rs nx) :
    (sv = .slice none 0 0 ∧ rs = []) ∨ ∃ g cap cur, sv = .slice (some ⟨g, 0, none⟩) rs.length cap ∧ base ≤ g ∧ g < W.heap.size ∧ rs.length ≤ cap ∧ W.heap[g]? = some (.cells (List.toArray cur) 61 (0, 0)) ∧ ∀ (k : Nat) (hk : k < rs.length) (j : Nat) (v : Value), (rs[k]'hk).cells[j]? = some v → cur[k * 68 + j]? = some v := by
  rcases h.own.2 with ⟨h1, h2⟩ | ⟨g, cap, cur, h1, h2, h3, h4, h5, h6, h7⟩
  · exact .inl ⟨h1, List.length_eq_zero_iff.1 h2⟩
  · refine .inr ⟨g, cap, cur.toList, h1, h2, block_lt h3, h4, h3, fun k hk j v hv => ?_⟩
    have h8 := rcells_at rs h.wf k hk j v hv
    rw [← h7] at h8
    rw [List.getElem?_take] at h8
    split at h8
    · exact h8
    · cases h8
def headOf (rs : List RC) : List UInt8 := match rs[rs.length - 1]? with | none => z32 | some r => r.hash
theorem headOf_length {rs : List RC} (h : ∀ r ∈ rs, r.wf) : (headOf rs).length = 32 := by
  unfold headOf
  split
  · rfl
  · rename_i r hr
    exact (h r (List.mem_of_getElem? hr)).hash
def isLate (rs : List RC) (time : Int) : Bool := match rs[rs.length - 1]? with | none => false | some r => decide (time < r.time)
/-- whose transaction, or what is wrong -/
def theirs (nx : List Int) (body : ByteArray) : Int × Int :=
  match rdTx body with
  | .error _ => (0, 6)
  | .ok t => if t.signed = 0 then (if t.nonce = nx.getD t.frm.toNat 0 then (t.frm, 0) else (0, 22)) else (0, 21)
def fromOf (rs : List RC) (nx : List Int) (kind : Int) (body : ByteArray) (time : Int) : Int × Int :=
  if isLate rs time = true then (0, 33) else if kind = 1 then theirs nx body else (-1, 0)
theorem lg_zero (w : World) : (zeroValue 110).run Tryd.prog w = .ok (.agg zlLog.toArray) w := by kernel_rfl
theorem lg_build0 (w : World) : (Instr.build 110 #[]).run Tryd.prog w = .ok (.agg zlLog.toArray) w :=
  run_build_struct (parts := #[]) (places := #[(0, 1), (1, 64)]) w (lg_zero w) Tryd.underlying110 (by kernel_rfl) rfl
theorem new_log (w : World) : Calls Tryd.prog 45 #[] w fun e w' => e = .returned (.pointer (some ⟨w.heap.size, 0, none⟩)) ∧ LgAt w' (w.heap.size + 1) w.heap.size (.slice none 0 0) [] zn64 ∧ Below w.heap.size w w' := by
  have hG : LgAt (w.alloc (.cells zlLog.toArray 110)) (w.heap.size + 1) w.heap.size (.slice none 0 0) [] zn64 := ⟨rfl, heap_alloc_new w _, own_nil _ _ _ _, by simp, Nat.lt_succ_self _, by decide, by decide⟩
  have HG := Lib.hid hG
  clear hG
  go_enter Tryd.func45, Tryd.ntmps45
  go_wp2_with (with_reducible refine wpList_build rfl 110 [] rfl [] (.agg zlLog.toArray) rfl (lg_build0 _) ?_)
  go_ret
  exact ⟨rfl, HG.out, bw_alloc (Below.refl _ _) _⟩
theorem len_any (base l : Nat) (sv : Value) (rs : List RC) (nx : List Int) (w : World) (hL : LgAt w base l sv rs nx) :
    Calls Tryd.prog 48 #[.pointer (some ⟨l, 0, none⟩)] w fun e w' => e = .returned (.int .i64 rs.length) ∧ w' = w := by
  have h0 := hL.c0
  have hsh : ∃ q c, sv = .slice q rs.length c := by
    rcases hL.own.2 with ⟨h1, h2⟩ | ⟨g, cap, cur, h1, _⟩
    · exact ⟨none, 0, by rw [h1, h2]⟩
    · exact ⟨_, _, h1⟩
  obtain ⟨q, c, rfl⟩ := hsh
  clear hL
  go_enter Tryd.func48, Tryd.ntmps48
  go_wp2_with fail
  go_ret
  exact ⟨rfl, rfl⟩
theorem len_nil (w : World) : Calls Tryd.prog 48 #[.pointer none] w fun e w' => e = .returned (.int .i64 0) ∧ w' = w := by
  go_enter Tryd.func48, Tryd.ntmps48
  go_wp2_with fail
  go_ret
  exact ⟨rfl, rfl⟩
theorem hash0_build (w : World) : (Instr.build 23 #[]).run Tryd.prog w = .ok (.agg zl32.toArray) w := by kernel_rfl
theorem head_nil (w : World) : Calls Tryd.prog 44 #[.pointer none] w fun e w' => e = .returned (.agg (u8s z32).toArray) ∧ Below w.heap.size w w' := by
  have hz : (w.alloc (.cells zl32.toArray 23)).heap[w.heap.size]? = some (.cells zl32.toArray 23 (0, 0)) := heap_alloc_new _ _
  go_enter Tryd.func44, Tryd.ntmps44
  go_wp2_with fail
  refine (len_nil _).mono ?_
  rintro e w1 ⟨rfl, rfl⟩
  go_wp2_with ((with_reducible refine wpList_store_whole rfl 23 (.tmp 2) (.tmp 6) rfl w.heap.size zl32 zl32 23 rfl rfl hz rfl (by rw [zl32_eq]; exact hash_info z32_length) zl32_one ?_); intro w3 hU)
  exact post_cell 2 23 rfl w.heap.size _ zl32 _ _ hU.out.at_ Tryd.underlying23 rfl (by rw [zl32_eq]; exact hash_info z32_length) rfl rfl ⟨by rw [zl32_eq], hU.out.below (bw_alloc (Below.refl _ _) _) (Nat.le_refl _)⟩
theorem head_any (base l : Nat) (sv : Value) (rs : List RC) (nx : List Int) (w : World) (hL : LgAt w base l sv rs nx) :
    Calls Tryd.prog 44 #[.pointer (some ⟨l, 0, none⟩)] w fun e w' => e = .returned (.agg (u8s (headOf rs)).toArray) ∧ Below w.heap.size w w' := by
  have hz : (w.alloc (.cells zl32.toArray 23)).heap[w.heap.size]? = some (.cells zl32.toArray 23 (0, 0)) := heap_alloc_new _ _
  have hL1 := hL.below (bw_alloc (Below.refl _ _) (.cells zl32.toArray 23))
  have HL1 := Lib.hid hL1
  have h0 := hL1.c0
  rcases hL1.at_ with ⟨rfl, rfl⟩ | ⟨g, cap, cur, rfl, hg1, hg2, hcap, hg, hat⟩
  · clear hL hL1
    go_enter Tryd.func44, Tryd.ntmps44
    go_wp2_with fail
    refine (len_any _ _ _ _ _ _ HL1.out).mono ?_
    rintro e w1 ⟨rfl, rfl⟩
    go_wp2_with ((with_reducible refine wpList_store_whole rfl 23 (.tmp 2) (.tmp 6) rfl w.heap.size zl32 zl32 23 rfl rfl hz rfl (by rw [zl32_eq]; exact hash_info z32_length) zl32_one ?_); intro w3 hU)
    exact post_cell 2 23 rfl w.heap.size _ zl32 _ _ hU.out.at_ Tryd.underlying23 rfl (by rw [zl32_eq]; exact hash_info z32_length) rfl rfl ⟨by rw [zl32_eq]; rfl, hU.out.below (bw_alloc (Below.refl _ _) _) (Nat.le_refl _)⟩
  · clear hL hL1
    by_cases hn : rs.length = 0
    · have hrs : rs = [] := List.length_eq_zero_iff.1 hn
      subst hrs
      clear hn hat hg
      go_enter Tryd.func44, Tryd.ntmps44
      go_wp2_with fail
      refine (len_any _ _ _ _ _ _ HL1.out).mono ?_
      rintro e w1 ⟨rfl, rfl⟩
      go_wp2_with ((with_reducible refine wpList_store_whole rfl 23 (.tmp 2) (.tmp 6) rfl w.heap.size zl32 zl32 23 rfl rfl hz rfl (by rw [zl32_eq]; exact hash_info z32_length) zl32_one ?_); intro w3 hU)
      exact post_cell 2 23 rfl w.heap.size _ zl32 _ _ hU.out.at_ Tryd.underlying23 rfl (by rw [zl32_eq]; exact hash_info z32_length) rfl rfl ⟨by rw [zl32_eq]; rfl, hU.out.below (bw_alloc (Below.refl _ _) _) (Nat.le_refl _)⟩
    · obtain ⟨m, hm⟩ : ∃ m, m = rs.length := ⟨_, rfl⟩
      obtain ⟨n, hn2⟩ : ∃ n, m = n + 1 := ⟨m - 1, by omega⟩
      have HLEN := Lib.hid (len_any _ _ _ _ _ _ HL1.out)
      rw [← hm] at h0 HLEN
      have hsm := HL1.out.small
      have hb : ((m : Int) == 0) = false := by rw [beq_eq_false_iff_ne]; omega
      have e1 : IntKind.i64.wrap ((m : Int) - 1) = (n : Int) := by rw [show (m : Int) - 1 = n by omega]; exact IntWalk.i64_in _ (by omega)
      have f0 : (0 : Int) ≤ n := by omega
      have f1 : (n : Int) < m := by omega
      have HN := Lib.hid hn2
      have HM := Lib.hid hm
      have hnl : n < rs.length := by omega
      obtain ⟨r, hr⟩ : ∃ r, r = rs[n]'hnl := ⟨_, rfl⟩
      have hrw : Hid r.wf := show _ from by rw [hr]; exact HL1.out.wf _ (List.getElem_mem hnl)
      have hho : Hid (headOf rs = r.hash) := show _ = _ by unfold headOf; rw [show rs.length - 1 = n by omega, List.getElem?_eq_getElem hnl, hr]
      have hat' : ∀ j v, (u8s r.hash)[j]? = some v → cur[n * 68 + 36 + j]? = some v := fun j v hv => by
        rw [Nat.add_assoc]
        exact hat n hnl (36 + j) v (by rw [← hr]; exact RC.at_hash hrw.out.prev j v hv)
      clear hn hn2 hm hsm hr hnl hat
      go_enter Tryd.func44, Tryd.ntmps44
      go_wp2_with fail
      refine HLEN.out.mono ?_
      rintro e w1 ⟨rfl, rfl⟩
      go_wp2_with fail
      have HB1 := Lib.hid (bw_alloc (Below.refl w.heap.size w) (.cells zl32.toArray 23))
      generalize w.alloc (.cells zl32.toArray 23) = W1 at *
      clear HLEN
      go_still_tail 12, (by kernel_rfl)
      change wpList _ _ _ _ _ W1.drew
      have HB2 := Lib.hid HB1.out.drew
      have hg' : W1.drew.heap[g]? = some (.cells cur.toArray 61 (0, 0)) := hg
      have hz' : W1.drew.heap[w.heap.size]? = some (.cells zl32.toArray 23 (0, 0)) := hz
      clear hg hz HB1 h0
      generalize W1.drew = W2 at *
      go_wp2_with (first
        | (with_reducible refine wpList_load_rows rfl 23 (.tmp 18) rfl g (n * 68 + 36) (u8s r.hash) cur 61 (0, 0) _ rfl hg' hat' Tryd.underlying23 rfl (hash_info hrw.out.hash) ?_)
        | ((with_reducible refine wpList_store_whole rfl 23 (.tmp 2) (.tmp 19) rfl w.heap.size (u8s r.hash) zl32 23 rfl rfl hz' (by rw [u8s_length, hrw.out.hash, zl32_length]) (hash_info hrw.out.hash) (u8s_one _) ?_); intro w3 hU))
      exact post_cell 2 23 rfl w.heap.size _ (u8s r.hash) _ _ hU.out.at_ Tryd.underlying23 rfl (hash_info hrw.out.hash) rfl rfl ⟨by rw [hho.out], hU.out.below HB2.out (Nat.le_refl _)⟩
end Go.Proofs.YtckfdmkjeocadaaDoor
