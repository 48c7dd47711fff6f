/- cavalcaderef19.Taken, Next: what the calls do. -/
import Derived.Test.YtckfdmkjeocadaaDoorMade
import Derived.Test.YtckfdmkjeocadaaDoorRRead
namespace Go.Proofs.YtckfdmkjeocadaaDoor
open Go.RowKit
set_option maxHeartbeats 2000000
set_option maxRecDepth 4000
theorem rtaken_any (base : Nat) (v : Value) (rs : List RC) (i : Int) (w : World) (hO : w.ownsRow base 61 68 v rs.length (rcells rs)) (hwf : ∀ r ∈ rs, r.wf) (hsm : rs.length ≤ 1000) :
    Calls Tryd.prog 55 #[v, .int .i64 i] w fun e w' => e = .returned (.int .i64 (takenOf rs i)) ∧ w' = w := by
  obtain ⟨q, c, rfl, hq⟩ := own_rcs2 hO
  have HQ := Lib.hid hq
  have HWF := Lib.hid hwf
  obtain ⟨m, hm⟩ : ∃ m, m = rs.length := ⟨_, rfl⟩
  rw [← hm]
  have HM := Lib.hid hm
  rw [← hm] at hsm
  clear hO hq hwf hm
  go_enter Tryd.func55, Tryd.ntmps55
  go_wp2_with fail
  go_loopw [5, 6] (fun n k wr => ∃ j cn : Nat, j ≤ m ∧ cn ≤ j ∧ j ≤ i.toNat ∧ k = .int .i64 j ∧ n = .int .i64 cn ∧ Hid (cn = (rs.take j).countP (fun r => decide (r.kind = 2))) ∧ wr = w) (fun _ k _ => m - (intOf k).toNat)
  case atStart => exact ⟨0, 0, by omega, by omega, by omega, rfl, rfl, show _ = _ from rfl, rfl⟩
  case round =>
    obtain ⟨j, cn, hj, hcj, hji, rfl, rfl, HC, rfl⟩ := hrel
    by_cases hlt : j < m
    · have hd0 : decide ((j : Int) < m) = true := decide_eq_true (by omega)
      have hlt2 : j < rs.length := by have := HM.out; omega
      rcases HQ.out with h | ⟨g, rfl, hrow, -, -, -⟩
      · exact absurd hlt2 (by rw [h]; simp)
      · obtain ⟨cur, fr, hg, hat⟩ := hrow.one HWF.out j hlt2
        obtain ⟨r, hr⟩ : ∃ r, r = rs[j]'hlt2 := ⟨_, rfl⟩
        have HT := Lib.hid (taken_snoc rs j hlt2)
        rw [← hr] at hat HT
        have k1 : wr.cell? ⟨g, j * 68 + 1, none⟩ = some (.int .i64 r.kind) := by
          rw [cell_of_row wr g _ _ _ _ hg, List.getElem?_toArray]
          have := hat 1 _ (show r.cells[1]? = some _ from rfl)
          rw [Nat.zero_add] at this
          exact this
        have f0 : (0 : Int) ≤ j := by omega
        have f1 : (j : Int) < m := by omega
        clear hrow hat hr hg hlt2
        by_cases hi : (j : Int) < i
        · have hd1 : decide ((j : Int) < i) = true := decide_eq_true hi
          by_cases hk : r.kind = 2
          · have hd2 : (r.kind == 2) = true := by simpa using hk
            rw [if_pos hk] at HT
            clear hk
            go_wp2_with fail
            go_roundw
            case rel => exact ⟨j + 1, cn + 1, by omega, by omega, by omega, by go_num, by go_num, show _ = _ by rw [HT.out, ← HC.out], trivial⟩
            case measure => simp [intOf]; omega
          · have hd2 : (r.kind == 2) = false := by simpa using hk
            rw [if_neg hk] at HT
            clear hk
            go_wp2_with fail
            go_roundw
            case rel => exact ⟨j + 1, cn, by omega, by omega, by omega, by go_num, rfl, show _ = _ by rw [HT.out, ← HC.out]; rfl, trivial⟩
            case measure => simp [intOf]; omega
        · have hd1 : decide ((j : Int) < i) = false := decide_eq_false hi
          have HF : Hid (takenOf rs i = cn) := show _ = _ by rw [HC.out, takenOf, show i.toNat = j by omega]
          clear hi
          go_wp2_with fail
          go_ret
          exact ⟨by rw [HF.out]; rfl, rfl⟩
    · have hd0 : decide ((j : Int) < m) = false := decide_eq_false (by omega)
      obtain rfl : j = m := by omega
      have HF : Hid (takenOf rs i = cn) := show _ = _ by
        rw [HC.out, takenOf, HM.out, List.take_length, List.take_of_length_le (by have := HM.out; omega)]
      go_wp2_with fail
      go_ret
      exact ⟨by rw [HF.out]; rfl, rfl⟩
def isOf (who : Int) (r : RC) : Bool := decide (r.kind = 1) && (match rdTx r.body with | .ok t => decide (t.frm = who) | .error _ => false)
/-- how many transactions of somebody -/
def nextCnt (rs : List RC) (who : Int) : Nat := rs.countP (isOf who)
theorem nextCnt_snoc (rs : List RC) (who : Int) (j : Nat) (h : j < rs.length) : (rs.take (j + 1)).countP (isOf who) = (rs.take j).countP (isOf who) + (if isOf who (rs[j]'h) = true then 1 else 0) := by
  rw [List.take_succ_eq_append_getElem h, List.countP_append]
  congr 1
  simp [List.countP_cons]
theorem rnext_any (base : Nat) (v : Value) (rs : List RC) (who : Int) (w : World) (hO : w.ownsRow base 61 68 v rs.length (rcells rs)) (hwf : ∀ r ∈ rs, r.wf) (hsm : rs.length ≤ 1000) :
    Calls Tryd.prog 53 #[v, .int .i64 who] w fun e w' => e = .returned (.int .i64 (nextCnt rs who)) ∧ Below w.heap.size w w' := by
  obtain ⟨q, c, rfl, hq⟩ := own_rcs2 hO
  have HQ := Lib.hid hq
  have HWF := Lib.hid hwf
  obtain ⟨m, hm⟩ : ∃ m, m = rs.length := ⟨_, rfl⟩
  rw [← hm]
  have HM := Lib.hid hm
  rw [← hm] at hsm
  clear hO hq hwf hm
  go_enter Tryd.func53, Tryd.ntmps53
  go_wp2_with fail
  go_loopw [5, 6] (fun n k wr => ∃ j cn : Nat, j ≤ m ∧ cn ≤ j ∧ k = .int .i64 j ∧ n = .int .i64 cn ∧ Hid (cn = (rs.take j).countP (isOf who)) ∧ Hid (Below w.heap.size w wr)) (fun _ k _ => m - (intOf k).toNat)
  case atStart => exact ⟨0, 0, by omega, by omega, rfl, rfl, show _ = _ from rfl, Below.refl _ _⟩
  case round =>
    obtain ⟨j, cn, hj, hcj, rfl, rfl, HC, HB⟩ := hrel
    by_cases hlt : j < m
    · have hlt2 : j < rs.length := by have := HM.out; omega
      rcases HQ.out with h | ⟨g, rfl, hrow, -, hgl, -⟩
      · exact absurd hlt2 (by rw [h]; simp)
      · obtain ⟨cur, fr, hg, hat⟩ := hrow.one HWF.out j hlt2
        obtain ⟨r, hr⟩ : ∃ r, r = rs[j]'hlt2 := ⟨_, rfl⟩
        have HT := Lib.hid (nextCnt_snoc rs who j hlt2)
        rw [← hr] at hat HT
        have HRW : Hid r.wf := show _ from by rw [hr]; exact HWF.out _ (List.getElem_mem hlt2)
        have hgw := (HB.out.block _ hgl).trans hg
        have k1 : wr.cell? ⟨g, j * 68 + 1, none⟩ = some (.int .i64 r.kind) := by
          rw [cell_of_row wr g _ _ _ _ hgw, List.getElem?_toArray]
          have := hat 1 _ (show r.cells[1]? = some _ from rfl)
          rw [Nat.zero_add] at this
          exact this
        have k3 : wr.cell? ⟨g, j * 68 + 3, none⟩ = some (.string r.body) := by
          rw [cell_of_row wr g _ _ _ _ hgw, List.getElem?_toArray]
          have := hat 3 _ (show r.cells[3]? = some _ from rfl)
          rw [Nat.zero_add] at this
          exact this
        have f0 : (0 : Int) ≤ j := by omega
        have f1 : (j : Int) < m := by omega
        clear hrow hat hr hg hlt2 hgw hgl
        by_cases hk : r.kind = 1
        · have hd2 : (r.kind == 1) = true := by simpa using hk
          have HK := Lib.hid hk
          clear hk
          go_wp2_with fail
          refine (rread_any r.body _ (Nat.le_trans HRW.out.body (by decide))).mono ?_
          rintro e w2 ⟨rfl, hb2⟩
          have hz2 : (w2.alloc (.cells Tryd.zeroCells25 25)).heap[w2.heap.size]? = some (.cells zlTx.toArray 25 (0, 0)) := heap_alloc_new w2 _
          have HB2 := Lib.hid (bw_alloc (bw_call HB.out hb2) (.cells Tryd.zeroCells25 25))
          have hl2 := (bw_call HB.out hb2).size
          clear hb2 k1 k3
          cases hrd : rdTx r.body with
          | error x =>
            have hx0 : (x == 0) = false := by have := rdTx_err hrd; simpa using this
            have HIS : Hid (isOf who r = false) := show _ = _ by rw [isOf, hrd, Bool.and_false]
            simp only [txOf, errOf]
            clear hrd
            go_wp2_with ((with_reducible refine wpList_store_whole rfl 25 (.tmp 7) (.tmp 28) rfl w2.heap.size TX.zero.cells zlTx 25 rfl rfl hz2 rfl (tx_info TX.zero_wf) (start_one _) ?_); intro w3 hU3; have HB3 := Lib.hid (hU3.out.below HB2.out hl2); clear hz2)
            go_roundw
            case rel => exact ⟨j + 1, cn, by omega, by omega, by go_num, rfl, show _ = _ by rw [HT.out, ← HC.out, HIS.out]; rfl, HB3⟩
            case measure => simp [intOf]; omega
          | ok t =>
            have HTW : Hid t.wf := show _ from (tx_back hrd).1
            have HTL : Hid (t.cells.length = zlTx.length) := show _ = _ from t.cells_length HTW.out.by_ HTW.out.tag
            have HIS : Hid (isOf who r = decide (t.frm = who)) := show _ = _ by rw [isOf, hrd, decide_eq_true HK.out, Bool.true_and]
            simp only [txOf, errOf]
            clear hrd
            by_cases hf : t.frm = who
            · have hd3 : (t.frm == who) = true := by simpa using hf
              rw [decide_eq_true hf] at HIS
              clear hf
              go_wp2_with ((with_reducible refine wpList_store_whole rfl 25 (.tmp 7) (.tmp 28) rfl w2.heap.size t.cells zlTx 25 rfl rfl hz2 HTL.out (tx_info HTW.out) (start_one _) ?_); intro w3 hU3; have HB3 := Lib.hid (hU3.out.below HB2.out hl2); have c0 : w3.cell? ⟨w2.heap.size, 0, none⟩ = some (.int .i64 t.frm) := (by rw [cell_of_row w3 w2.heap.size 0 _ _ _ hU3.out.at_]; rfl); clear hz2)
              go_roundw
              case rel => exact ⟨j + 1, cn + 1, by omega, by omega, by go_num, by go_num, show _ = _ by rw [HT.out, ← HC.out, HIS.out]; rfl, HB3⟩
              case measure => simp [intOf]; omega
            · have hd3 : (t.frm == who) = false := by simpa using hf
              rw [decide_eq_false hf] at HIS
              clear hf
              go_wp2_with ((with_reducible refine wpList_store_whole rfl 25 (.tmp 7) (.tmp 28) rfl w2.heap.size t.cells zlTx 25 rfl rfl hz2 HTL.out (tx_info HTW.out) (start_one _) ?_); intro w3 hU3; have HB3 := Lib.hid (hU3.out.below HB2.out hl2); have c0 : w3.cell? ⟨w2.heap.size, 0, none⟩ = some (.int .i64 t.frm) := (by rw [cell_of_row w3 w2.heap.size 0 _ _ _ hU3.out.at_]; rfl); clear hz2)
              go_roundw
              case rel => exact ⟨j + 1, cn, by omega, by omega, by go_num, rfl, show _ = _ by rw [HT.out, ← HC.out, HIS.out]; rfl, HB3⟩
              case measure => simp [intOf]; omega
        · have hd2 : (r.kind == 1) = false := by simpa using hk
          have HIS : Hid (isOf who r = false) := show _ = _ by rw [isOf, decide_eq_false hk, Bool.false_and]
          clear hk
          go_wp2_with fail
          go_roundw
          case rel => exact ⟨j + 1, cn, by omega, by omega, by go_num, rfl, show _ = _ by rw [HT.out, ← HC.out, HIS.out]; rfl, HB⟩
          case measure => simp [intOf]; omega
    · obtain rfl : j = m := by omega
      have HF : Hid (nextCnt rs who = cn) := show _ = _ by rw [HC.out, nextCnt, HM.out, List.take_length]
      go_wp2_with fail
      go_ret
      exact ⟨by rw [HF.out]; rfl, HB.out⟩
theorem cnt1_get (nx : List Int) (r : RC) (k : Nat) (hk : k < 64) (hl : nx.length = 64) : (cnt1 nx r).length = 64 ∧ (cnt1 nx r).getD k 0 = nx.getD k 0 + (if isOf (k : Int) r = true then 1 else 0) := by
  unfold cnt1
  by_cases h1 : r.kind = 1
  · rw [if_pos h1]
    cases hr : rdTx r.body with
    | error e =>
      have hi : isOf (k : Int) r = false := by rw [isOf, hr, Bool.and_false]
      refine ⟨hl, ?_⟩
      rw [hi]
      simp
    | ok t =>
      have hf := frm_of hr
      have hi : isOf (k : Int) r = decide (t.frm = k) := by rw [isOf, hr, decide_eq_true h1, Bool.true_and]
      show (bump nx t.frm).length = 64 ∧ (bump nx t.frm).getD k 0 = _
      rw [bump, if_pos hf.1, hi]
      refine ⟨by rw [List.length_set]; exact hl, ?_⟩
      rw [List.getD_eq_getElem?_getD, List.getElem?_set]
      by_cases he : t.frm.toNat = k
      · have he2 : t.frm = k := by omega
        rw [if_pos he, if_pos (by omega), decide_eq_true he2, he]
        simp
      · have he2 : ¬ t.frm = k := by omega
        rw [if_neg he, decide_eq_false he2, ← List.getD_eq_getElem?_getD]
        simp
  · have hi : isOf (k : Int) r = false := by rw [isOf, decide_eq_false h1, Bool.false_and]
    rw [if_neg h1, hi]
    exact ⟨hl, by simp⟩
theorem cnt_next : ∀ (rs : List RC) (nx : List Int) (k : Nat), k < 64 → nx.length = 64 → (rs.foldl cnt1 nx).getD k 0 = nx.getD k 0 + (nextCnt rs (k : Int) : Nat)
  | [], nx, k, _, _ => by simp [nextCnt]
  | r :: rs, nx, k, hk, hl => by
    have h1 := cnt1_get nx r k hk hl
    have h2 := cnt_next rs (cnt1 nx r) k hk h1.1
    rw [List.foldl_cons, h2, h1.2]
    unfold nextCnt
    rw [List.countP_cons]
    by_cases h3 : isOf (k : Int) r = true
    · rw [if_pos h3, if_pos h3]
      omega
    · rw [if_neg h3, if_neg h3]
      omega
end Go.Proofs.YtckfdmkjeocadaaDoor
