/- order's At, From, Next, Taken: what the calls do. cavalcadelaw19.awake: what the call does. -/
import Derived.Test.YtckfdmkjeocadaaDoorLogAdd
import Derived.WalkMore
namespace Go.Proofs.YtckfdmkjeocadaaDoor
open Go.RowKit
set_option maxHeartbeats 2000000
set_option maxRecDepth 4000
/-- receipts that are laid one behind the other, from a block's place off on -/
def RcsAt (W : World) (g off : Nat) (rs : List RC) : Prop := ∃ (cur : List Value) (fr : Nat × Nat), W.heap[g]? = some (.cells cur.toArray 61 fr) ∧ ∀ j u, (rcells rs)[j]? = some u → cur[off + j]? = some u
theorem RcsAt.one {W : World} {g off : Nat} {rs : List RC} (h : RcsAt W g off rs) (hw : ∀ r ∈ rs, r.wf) (k : Nat) (hk : k < rs.length) : ∃ (cur : List Value) (fr : Nat × Nat), W.heap[g]? = some (.cells cur.toArray 61 fr) ∧ ∀ j u, (rs[k]'hk).cells[j]? = some u → cur[off + k * 68 + j]? = some u := by
  obtain ⟨cur, fr, h1, h2⟩ := h
  refine ⟨cur, fr, h1, fun j u hu => ?_⟩
  have := h2 _ _ (rcells_at rs hw k hk j u hu)
  rw [← Nat.add_assoc] at this
  exact this
theorem own_rcs {W : World} {base : Nat} {v : Value} {rs : List RC} (h : W.ownsRow base 61 68 v rs.length (rcells rs)) : (v = .slice none 0 0 ∧ rs = []) ∨ ∃ g c, v = .slice (some ⟨g, 0, none⟩) rs.length c ∧ RcsAt W g 0 rs ∧ base ≤ g ∧ g < W.heap.size ∧ rs.length ≤ c := by
  rcases h.2 with ⟨h1, h2⟩ | ⟨g, cap, cur, h1, h2, h3, h4, h5, h6, h7⟩
  · exact .inl ⟨h1, List.length_eq_zero_iff.1 h2⟩
  · refine .inr ⟨g, cap, h1, ⟨cur.toList, (0, 0), h3, fun j u hu => ?_⟩, h2, block_lt h3, h4⟩
    rw [← h7, List.getElem?_take] at hu
    split at hu
    · rw [Nat.zero_add]; exact hu
    · cases hu
theorem rcells_drop : ∀ (rs : List RC) (m : Nat), (∀ r ∈ rs, r.wf) → rcells (rs.drop m) = (rcells rs).drop (m * 68)
  | _, 0, _ => by simp
  | [], m + 1, _ => by simp [rcells]
  | r :: rs, m + 1, h => by
    have ih := rcells_drop rs m (fun x hx => h x (List.mem_cons_of_mem _ hx))
    have h2 := RC.cells_length (h r (List.mem_cons_self ..)).prev (h r (List.mem_cons_self ..)).hash
    have h3 : r.cells.drop ((m + 1) * 68) = [] := List.drop_eq_nil_of_le (by omega)
    rw [List.drop_succ_cons, ih]
    show _ = (r.cells ++ rcells rs).drop _
    rw [List.drop_append, h3, List.nil_append, h2, show (m + 1) * 68 - 68 = m * 68 by omega]
theorem RcsAt.below {W W' : World} {g off : Nat} {rs : List RC} (h : RcsAt W g off rs) (hb : Below W.heap.size W W') : RcsAt W' g off rs := by
  obtain ⟨cur, fr, h1, h2⟩ := h
  exact ⟨cur, fr, keep_row hb h1, h2⟩
theorem RcsAt.news {W : World} {g : Nat} {rs : List RC} (h : RcsAt W g 0 rs) (hw : ∀ r ∈ rs, r.wf) (m : Nat) : ∀ j u, (rcells (rs.drop m))[j]? = some u → W.cell? ((⟨g, m * 68, none⟩ : Addr).add j) = some u := by
  obtain ⟨cur, fr, h1, h2⟩ := h
  intro j u hu
  rw [rcells_drop rs m hw, List.getElem?_drop] at hu
  have h3 := h2 _ _ hu
  rw [Addr.add_lit, cell_of_row W g _ _ _ _ h1, List.getElem?_toArray]
  rw [Nat.zero_add] at h3
  exact h3
def atRc (rs : List RC) (i : Int) : RC := if 0 ≤ i then (rs[i.toNat]?).getD RC.zero else RC.zero
def atErr (rs : List RC) (i : Int) : Int := if 0 ≤ i ∧ i < rs.length then 0 else 4
theorem at_any (base l : Nat) (sv : Value) (rs : List RC) (nx : List Int) (i : Int) (w : World) (hL : LgAt w base l sv rs nx) :
    Calls Tryd.prog 52 #[.pointer (some ⟨l, 0, none⟩), .int .i64 i] w fun e w' => e = .returned (.tuple #[.agg (atRc rs i).cells.toArray, .int .i64 (atErr rs i)]) ∧ Below w.heap.size w w' := by
  have hz : (w.alloc (.cells Tryd.zeroCells61 61)).heap[w.heap.size]? = some (.cells zlRc.toArray 61 (0, 0)) := heap_alloc_new _ _
  have hB0 := bw_alloc (Below.refl w.heap.size w) (.cells Tryd.zeroCells61 61)
  have hL1 := hL.below hB0
  have h0 := hL1.c0
  have HB0 := Lib.hid hB0
  have hsh : ∃ q c, sv = .slice q rs.length c := by
    rcases hL.own.2 with ⟨h1, h2⟩ | ⟨g, cap, cur, h1, _⟩
    · exact ⟨none, 0, by rw [h1, h2]⟩
    · exact ⟨_, _, h1⟩
  by_cases hin : 0 ≤ i ∧ i < rs.length
  · obtain ⟨k, rfl⟩ : ∃ k : Nat, i = (k : Int) := ⟨i.toNat, by omega⟩
    have hk : k < rs.length := by omega
    rcases own_rcs hL1.own with ⟨_, h2⟩ | ⟨g, c, rfl, hrow, _, _⟩
    · exact absurd hk (by rw [h2]; simp)
    · obtain ⟨cur, fr, hg, hat⟩ := hrow.one hL1.wf k hk
      obtain ⟨r, hr⟩ : ∃ r, r = rs[k]'hk := ⟨_, rfl⟩
      rw [← hr] at hat
      have HRW : Hid r.wf := show _ from by rw [hr]; exact hL1.wf _ (List.getElem_mem hk)
      have HQ : Hid (atRc rs (k : Int) = r ∧ atErr rs (k : Int) = 0) := show _ ∧ _ from ⟨by rw [atRc, if_pos hin.1, Int.toNat_natCast, List.getElem?_eq_getElem hk, hr]; rfl, by rw [atErr, if_pos hin]⟩
      have HRL : Hid (r.cells.length = zlRc.length) := show _ = _ from rc_len HRW.out
      obtain ⟨n, hn⟩ : ∃ n, n = rs.length := ⟨_, rfl⟩
      rw [← hn] at h0 hin hk
      have hat' : ∀ j v, r.cells[j]? = some v → cur[k * 68 + j]? = some v := fun j v hv => by have := hat j v hv; rw [Nat.zero_add] at this; exact this
      have f0 : (0 : Int) ≤ k := hin.1
      have f1 : (k : Int) < n := hin.2
      have hd0 : decide ((k : Int) < 0) = false := decide_eq_false (by omega)
      have hd1 : decide ((n : Int) ≤ k) = false := decide_eq_false (by omega)
      clear hsh hL hL1 hB0 hr hin hrow hat hn hk
      go_enter Tryd.func52, Tryd.ntmps52
      go_wp2_with (first
        | (with_reducible refine wpList_load_rows rfl 61 (.tmp 28) rfl g (k * 68) r.cells cur 61 fr _ rfl hg hat' Tryd.underlying61 rfl (rc_info HRW.out) ?_)
        | ((with_reducible refine wpList_store_whole rfl 61 (.tmp 4) (.tmp 29) rfl w.heap.size r.cells zlRc 61 rfl rfl hz HRL.out (rc_info HRW.out) (rc_one _) ?_); intro w3 hU))
      exact post_cell_tmp 4 5 61 rfl w.heap.size _ r.cells _ _ hU.out.at_ Tryd.underlying61 rfl (rc_info HRW.out) (.int .i64 0) rfl rfl rfl ⟨by rw [HQ.out.1, HQ.out.2], hU.out.below HB0.out (Nat.le_refl _)⟩
  · have HQ : Hid (atRc rs i = RC.zero ∧ atErr rs i = 4) := show _ ∧ _ from by
      refine ⟨?_, by rw [atErr, if_neg hin]⟩
      unfold atRc
      split
      · rename_i h1
        rw [List.getElem?_eq_none (by omega)]
        rfl
      · rfl
    obtain ⟨q, c, rfl⟩ := hsh
    obtain ⟨n, hn⟩ : ∃ n, n = rs.length := ⟨_, rfl⟩
    rw [← hn] at h0 hin
    by_cases hneg : i < 0
    · have hd0 : decide (i < 0) = true := decide_eq_true hneg
      clear hL hL1 hB0 hin hneg hn
      go_enter Tryd.func52, Tryd.ntmps52
      go_wp2_with (first
        | (with_reducible refine wpList_build rfl 61 [] rfl [] (.agg zlRc.toArray) rfl (rc_build0 _) ?_)
        | ((with_reducible refine wpList_store_whole rfl 61 (.tmp 4) (.tmp 22) rfl w.heap.size zlRc zlRc 61 rfl rfl hz rfl zlRc_info zlRc_one ?_); intro w3 hU))
      exact post_cell_tmp 4 5 61 rfl w.heap.size _ zlRc _ _ hU.out.at_ Tryd.underlying61 rfl zlRc_info (.int .i64 4) rfl rfl rfl ⟨by rw [HQ.out.1, HQ.out.2]; rfl, hU.out.below HB0.out (Nat.le_refl _)⟩
    · have hd0 : decide (i < 0) = false := decide_eq_false hneg
      have hd1 : decide ((n : Int) ≤ i) = true := decide_eq_true (by omega)
      clear hL hL1 hB0 hin hneg hn
      go_enter Tryd.func52, Tryd.ntmps52
      go_wp2_with (first
        | (with_reducible refine wpList_build rfl 61 [] rfl [] (.agg zlRc.toArray) rfl (rc_build0 _) ?_)
        | ((with_reducible refine wpList_store_whole rfl 61 (.tmp 4) (.tmp 22) rfl w.heap.size zlRc zlRc 61 rfl rfl hz rfl zlRc_info zlRc_one ?_); intro w3 hU))
      exact post_cell_tmp 4 5 61 rfl w.heap.size _ zlRc _ _ hU.out.at_ Tryd.underlying61 rfl zlRc_info (.int .i64 4) rfl rfl rfl ⟨by rw [HQ.out.1, HQ.out.2]; rfl, hU.out.below HB0.out (Nat.le_refl _)⟩
theorem at_nil (i : Int) (w : World) : Calls Tryd.prog 52 #[.pointer none, .int .i64 i] w fun e w' => e = .returned (.tuple #[.agg RC.zero.cells.toArray, .int .i64 1]) ∧ Below w.heap.size w w' := by
  have hz : (w.alloc (.cells Tryd.zeroCells61 61)).heap[w.heap.size]? = some (.cells zlRc.toArray 61 (0, 0)) := heap_alloc_new _ _
  have HB0 := Lib.hid (bw_alloc (Below.refl w.heap.size w) (.cells Tryd.zeroCells61 61))
  go_enter Tryd.func52, Tryd.ntmps52
  go_wp2_with (first
    | (with_reducible refine wpList_build rfl 61 [] rfl [] (.agg zlRc.toArray) rfl (rc_build0 _) ?_)
    | ((with_reducible refine wpList_store_whole rfl 61 (.tmp 4) (.tmp 9) rfl w.heap.size zlRc zlRc 61 rfl rfl hz rfl zlRc_info zlRc_one ?_); intro w3 hU))
  exact post_cell_tmp 4 5 61 rfl w.heap.size _ zlRc _ _ hU.out.at_ Tryd.underlying61 rfl zlRc_info (.int .i64 1) rfl rfl rfl ⟨rfl, hU.out.below HB0.out (Nat.le_refl _)⟩
def lnextOf (nx : List Int) (who : Int) : Int := if 0 ≤ who ∧ who < 64 then nx.getD who.toNat 0 else 0
theorem lnext_any (base l : Nat) (sv : Value) (rs : List RC) (nx : List Int) (who : Int) (w : World) (hL : LgAt w base l sv rs nx) :
    Calls Tryd.prog 56 #[.pointer (some ⟨l, 0, none⟩), .int .i64 who] w fun e w' => e = .returned (.int .i64 (lnextOf nx who)) ∧ w' = w := by
  by_cases h0 : who < 0
  · have hd0 : decide (who < 0) = true := decide_eq_true h0
    have HQ : Hid (lnextOf nx who = 0) := show _ = _ from if_neg (by omega)
    clear hL h0
    go_enter Tryd.func56, Tryd.ntmps56
    go_wp2_with fail
    go_ret
    exact ⟨by rw [HQ.out]; rfl, rfl⟩
  · have hd0 : decide (who < 0) = false := decide_eq_false h0
    by_cases h1 : 64 ≤ who
    · have hd1 : decide ((64 : Int) ≤ who) = true := decide_eq_true h1
      have HQ : Hid (lnextOf nx who = 0) := show _ = _ from if_neg (by omega)
      clear hL h0 h1
      go_enter Tryd.func56, Tryd.ntmps56
      go_wp2_with fail
      go_ret
      exact ⟨by rw [HQ.out]; rfl, rfl⟩
    · obtain ⟨k, rfl⟩ : ∃ k : Nat, who = (k : Int) := ⟨who.toNat, by omega⟩
      have hd1 : decide ((64 : Int) ≤ k) = false := decide_eq_false h1
      have f0 : (0 : Int) ≤ k := by omega
      have f1 : (k : Int) < 64 := by omega
      have hk : k < 64 := by omega
      obtain ⟨x, hx⟩ : ∃ x, x = nx.getD k 0 := ⟨_, rfl⟩
      have g1 : w.cell? ⟨l, 1 + k, none⟩ = some (.int .i64 x) := by rw [hx]; exact hL.cn hk
      have HQ : Hid (lnextOf nx (k : Int) = x) := show _ = _ from by rw [lnextOf, if_pos ⟨f0, f1⟩, hx]; rfl
      clear hL h0 h1 hx
      go_enter Tryd.func56, Tryd.ntmps56
      go_wp2_with fail
      go_ret
      exact ⟨by rw [HQ.out]; rfl, rfl⟩
theorem lnext_nil (who : Int) (w : World) : Calls Tryd.prog 56 #[.pointer none, .int .i64 who] w fun e w' => e = .returned (.int .i64 0) ∧ w' = w := by
  go_enter Tryd.func56, Tryd.ntmps56
  go_wp2_with fail
  go_ret
  exact ⟨rfl, rfl⟩
theorem lfrom_nil (i : Int) (w : World) : Calls Tryd.prog 41 #[.pointer none, .int .i64 i] w fun e w' => e = .returned (.slice none 0 0) ∧ w' = w := by
  go_enter Tryd.func41, Tryd.ntmps41
  go_wp2_with fail
  go_ret
  exact ⟨rfl, rfl⟩
/-- the receipts from one on -/
def fromI (rs : List RC) (i : Int) : List RC := if (rs.length : Int) < i then [] else rs.drop i.toNat
theorem lfrom_any (base l : Nat) (sv : Value) (rs : List RC) (nx : List Int) (i : Int) (w : World) (hL : LgAt w base l sv rs nx) (_hbs : base ≤ w.heap.size) :
    Calls Tryd.prog 41 #[.pointer (some ⟨l, 0, none⟩), .int .i64 i] w fun e w' => (∃ v, e = .returned v ∧ w'.ownsRow w.heap.size 61 68 v (fromI rs i).length (rcells (fromI rs i))) ∧ Below w.heap.size w w' := by
  have h0 := hL.c0
  have hsh : ∃ q c, sv = .slice q rs.length c := by
    rcases hL.own.2 with ⟨h1, h2⟩ | ⟨g, cap, cur, h1, _⟩
    · exact ⟨none, 0, by rw [h1, h2]⟩
    · exact ⟨_, _, h1⟩
  by_cases hi : (rs.length : Int) < i
  · obtain ⟨q, c, rfl⟩ := hsh
    have HQ : Hid (fromI rs i = []) := show _ = _ from if_pos hi
    obtain ⟨n, hn⟩ : ∃ n, n = rs.length := ⟨_, rfl⟩
    rw [← hn] at h0 hi
    have hd0 : decide ((n : Int) < i) = true := decide_eq_true hi
    clear hL hi hn
    go_enter Tryd.func41, Tryd.ntmps41
    go_wp2_with fail
    go_ret
    exact ⟨⟨_, rfl, by rw [HQ.out]; exact own_nil _ _ _ _⟩, Below.refl _ _⟩
  · have HQ : Hid (fromI rs i = rs.drop i.toNat) := show _ = _ from if_neg hi
    obtain ⟨m, hm⟩ : ∃ m, m = i.toNat := ⟨_, rfl⟩
    have hmax : max i 0 = (m : Int) := by omega
    rw [← hm] at HQ
    have hc1 : ∀ v, w.cell? ⟨l, 0, none⟩ = some v → (w.alloc (.cells #[] 61)).cell? ⟨l, 0, none⟩ = some v := fun v h => ((bw_alloc (Below.refl _ _) (.cells #[] 61)).cell (block_of_cell h)).trans h
    have hown0 : (w.alloc (.cells #[] 61)).ownsRow w.heap.size 61 68 (.slice (some ⟨w.heap.size, 0, none⟩) 0 0) 0 [] := ⟨rfl, .inr ⟨w.heap.size, 0, #[], rfl, Nat.le_refl _, heap_alloc_new _ _, Nat.le_refl _, by decide, rfl, rfl⟩⟩
    have HO0 := Lib.hid hown0
    clear hown0
    rcases own_rcs hL.own with ⟨rfl, rfl⟩ | ⟨g, c, rfl, hrow, _, _, hcap⟩
    · obtain rfl : m = 0 := by simp at hi; omega
      have hd0 : decide ((0 : Int) < i) = false := decide_eq_false (by simpa using hi)
      have h1 := hc1 _ h0
      by_cases hneg : i < 0
      · clear hL hsh hi hm hmax hc1
        go_enter Tryd.func41, Tryd.ntmps41
        go_wp2_with fail
        go_ret
        exact ⟨⟨_, rfl, by rw [HQ.out]; exact HO0.out⟩, bw_alloc (Below.refl _ _) _⟩
      · obtain rfl : i = 0 := by simp at hi; omega
        clear hL hsh hi hm hmax hc1 hneg
        go_enter Tryd.func41, Tryd.ntmps41
        go_wp2_with fail
        go_ret
        exact ⟨⟨_, rfl, by rw [HQ.out]; exact HO0.out⟩, bw_alloc (Below.refl _ _) _⟩
    · obtain ⟨n, hn⟩ : ∃ n, n = rs.length := ⟨_, rfl⟩
      have HWF := Lib.hid hL.wf
      have hsm := hL.small
      have HRO := Lib.hid (hrow.below (bw_alloc (Below.refl _ _) (.cells #[] 61)))
      have HDL : Hid ((rcells (rs.drop m)).length = (n - m) * 68) := show _ = _ by rw [rcells_length _ (fun r hr => hL.wf r (List.mem_of_mem_drop hr)), List.length_drop, hn]
      rw [← hn] at h0 hi hsm hcap
      have h1 := hc1 _ h0
      have hd0 : decide ((n : Int) < i) = false := decide_eq_false hi
      have f0 : m ≤ n := by omega
      have HN := Lib.hid hn
      by_cases hneg : i < 0
      · obtain rfl : m = 0 := by omega
        clear hL hsh hi hc1 hmax hm hn hrow
        go_enter Tryd.func41, Tryd.ntmps41
        go_wp2_with ((at_builtin; refine wpList_append_own2 rfl (.tmp 16) (.tmp 23) 57 rfl w.heap.size 61 _ (.agg zlRc.toArray) 68 104 Tryd.underlying57 rcinfo rfl rfl rfl rfl (by decide) _ 0 [] rfl HO0.out ⟨g, 0, none⟩ (n) (c) (rcells (rs)) rfl (by have := HDL.out; simpa using this) (by have := HRO.out.news HWF.out 0; simpa using this) (rcells_ones _) (by unfold maxLen; omega) (by omega) (by simp) ?_); intro v5 w5 hO5 hg5 _)
        go_ret
        refine ⟨⟨_, rfl, ?_⟩, (bw_alloc (Below.refl _ _) (.cells #[] 61)).grown hg5 (by simp) (fun k hk => by have h3 : w.heap.size = k := Option.some.inj hk; omega)⟩
        rw [HQ.out, List.length_drop, ← HN.out]
        simpa using hO5
      · obtain rfl : i = (m : Int) := by omega
        have f1 : (m : Int) ≤ n := by omega
        by_cases hcm : c = m
        · obtain rfl : n = m := by omega
          subst hcm
          clear hL hsh hi hc1 hmax hm hneg hn hrow
          go_enter Tryd.func41, Tryd.ntmps41
          go_wp2_with fail
          go_ret
          exact ⟨⟨_, rfl, by rw [HQ.out, List.drop_of_length_le (by have := HN.out; omega)]; exact HO0.out⟩, bw_alloc (Below.refl _ _) _⟩
        · have f2 : c - m ≠ 0 := by omega
          clear hL hsh hi hc1 hmax hm hneg hn hrow
          go_enter Tryd.func41, Tryd.ntmps41
          go_wp2_with ((at_builtin; refine wpList_append_own2 rfl (.tmp 16) (.tmp 23) 57 rfl w.heap.size 61 _ (.agg zlRc.toArray) 68 104 Tryd.underlying57 rcinfo rfl rfl rfl rfl (by decide) _ 0 [] rfl HO0.out ⟨g, m * 68, none⟩ (n - m) (c - m) (rcells (rs.drop m)) rfl HDL.out (HRO.out.news HWF.out m) (rcells_ones _) (by unfold maxLen; omega) (by omega) (by simp) ?_); intro v5 w5 hO5 hg5 _)
          go_ret
          refine ⟨⟨_, rfl, ?_⟩, (bw_alloc (Below.refl _ _) (.cells #[] 61)).grown hg5 (by simp) (fun k hk => by have h3 : w.heap.size = k := Option.some.inj hk; omega)⟩
          rw [HQ.out, List.length_drop, ← HN.out]
          simpa using hO5
def takenOf (rs : List RC) (i : Int) : Nat := (rs.take i.toNat).countP (fun r => decide (r.kind = 2))
theorem taken_snoc (rs : List RC) (j : Nat) (h : j < rs.length) : (rs.take (j + 1)).countP (fun r => decide (r.kind = 2)) = (rs.take j).countP (fun r => decide (r.kind = 2)) + (if (rs[j]'h).kind = 2 then 1 else 0) := by
  rw [List.take_succ_eq_append_getElem h, List.countP_append]
  congr 1
  simp [List.countP_cons]
theorem from_zero (rs : List RC) : fromI rs 0 = rs := by
  unfold fromI
  rw [if_neg (by omega)]
  rfl
theorem own_rcs2 {W : World} {base : Nat} {v : Value} {rs : List RC} (h : W.ownsRow base 61 68 v rs.length (rcells rs)) : ∃ q c, v = .slice q rs.length c ∧ (rs = [] ∨ ∃ g, q = some ⟨g, 0, none⟩ ∧ RcsAt W g 0 rs ∧ base ≤ g ∧ g < W.heap.size ∧ rs.length ≤ c) := by
  rcases own_rcs h with ⟨h1, h2⟩ | ⟨g, c, h1, h2⟩
  · exact ⟨none, 0, by rw [h1, h2]; rfl, .inl h2⟩
  · exact ⟨_, c, h1, .inr ⟨g, rfl, h2⟩⟩
theorem taken_any (base l : Nat) (sv : Value) (rs : List RC) (nx : List Int) (i : Int) (w : World) (hL : LgAt w base l sv rs nx) (hbs : base ≤ w.heap.size) :
    Calls Tryd.prog 54 #[.pointer (some ⟨l, 0, none⟩), .int .i64 i] w fun e w' => e = .returned (.int .i64 (takenOf rs i)) ∧ Below w.heap.size w w' := by
  have HFR := Lib.hid (lfrom_any base l sv rs nx 0 w hL hbs)
  have HWF := Lib.hid hL.wf
  have hsm := hL.small
  clear hL
  go_enter Tryd.func54, Tryd.ntmps54
  go_wp2_with fail
  apply wp_scope_straight
  go_wp2_with fail
  apply wp_label
  go_wp2_with fail
  refine HFR.out.mono ?_
  rintro e w1 ⟨⟨v, rfl, hO⟩, hb1⟩
  rw [from_zero] at hO
  obtain ⟨q, c, rfl, hq⟩ := own_rcs2 hO
  have HQ := Lib.hid hq
  have HB1 := Lib.hid hb1
  obtain ⟨m, hm⟩ : ∃ m, m = rs.length := ⟨_, rfl⟩
  rw [← hm]
  have HM := Lib.hid hm
  rw [← hm] at hsm
  clear hO hb1 hq HFR hm
  go_wp2_with fail
  go_loopw [5, 11] (fun n k wr => ∃ j cn : Nat, j ≤ m ∧ cn ≤ j ∧ j ≤ i.toNat ∧ k = .int .i64 j ∧ n = .int .i64 cn ∧ Hid (cn = (rs.take j).countP (fun r => decide (r.kind = 2))) ∧ Hid (Below w1.heap.size w1 wr)) (fun _ k _ => m - (intOf k).toNat)
  case atStart => exact ⟨0, 0, by omega, by omega, by omega, rfl, rfl, show _ = _ from rfl, Below.refl _ _⟩
  case round =>
    obtain ⟨j, cn, hj, hcj, hji, rfl, rfl, HC, HB⟩ := hrel
    by_cases hlt : j < m
    · have hlt2 : j < rs.length := by have := HM.out; omega
      rcases HQ.out with h | ⟨g, rfl, hrow, -, hgl, -⟩
      · exact absurd hlt2 (by rw [h]; simp)
      · obtain ⟨cur, fr, hg, hat⟩ := hrow.one HWF.out j hlt2
        obtain ⟨r, hr⟩ : ∃ r, r = rs[j]'hlt2 := ⟨_, rfl⟩
        have HT := Lib.hid (taken_snoc rs j hlt2)
        rw [← hr] at hat HT
        have HRW : Hid r.wf := show _ from by rw [hr]; exact HWF.out _ (List.getElem_mem hlt2)
        have HRL : Hid (r.cells.length = zlRc.length) := show _ = _ from rc_len HRW.out
        have hgw := (HB.out.block _ hgl).trans hg
        have hat' : ∀ x v, r.cells[x]? = some v → cur[j * 68 + x]? = some v := fun x v hv => by have := hat x v hv; rw [Nat.zero_add] at this; exact this
        have hz : (wr.alloc (.cells Tryd.zeroCells61 61)).heap[wr.heap.size]? = some (.cells zlRc.toArray 61 (0, 0)) := heap_alloc_new wr _
        have HBz := Lib.hid (bw_alloc HB.out (.cells Tryd.zeroCells61 61))
        have hle := HB.out.size
        have f0 : (0 : Int) ≤ j := by omega
        have f1 : (j : Int) < m := by omega
        clear hrow hat hr hg hgl hlt2
        by_cases hi : i ≤ j
        · have hd : decide (i ≤ (j : Int)) = true := decide_eq_true hi
          have HF : Hid (takenOf rs i = cn) := show _ = _ by
            rw [HC.out, takenOf, show i.toNat = j by omega]
          clear hi
          go_wp2_with (first
            | (with_reducible refine wpList_load_rows rfl 61 (.tmp 14) rfl g (j * 68) r.cells cur 61 fr _ rfl hgw hat' Tryd.underlying61 rfl (rc_info HRW.out) ?_)
            | ((with_reducible refine wpList_store_whole rfl 61 (.tmp 7) (.tmp 15) rfl wr.heap.size r.cells zlRc 61 rfl rfl hz HRL.out (rc_info HRW.out) (rc_one _) ?_); intro w2 hU2; have ck : w2.cell? ⟨wr.heap.size, 1, none⟩ = some (.int .i64 r.kind) := (by rw [cell_of_row w2 wr.heap.size 1 _ _ _ hU2.out.at_]; rfl); have HB2 := Lib.hid (hU2.out.below HBz.out hle)))
          rw [Exit.noGoto_ret]
          go_ret
          exact ⟨by rw [HF.out]; rfl, bw_call HB1.out HB2.out⟩
        · have hd : decide (i ≤ (j : Int)) = false := decide_eq_false hi
          by_cases hk : r.kind = 2
          · have hd2 : (r.kind == 2) = true := by simpa using hk
            rw [if_pos hk] at HT
            have HK := Lib.hid hk
            clear hk
            go_wp2_with (first
              | (with_reducible refine wpList_load_rows rfl 61 (.tmp 14) rfl g (j * 68) r.cells cur 61 fr _ rfl hgw hat' Tryd.underlying61 rfl (rc_info HRW.out) ?_)
              | ((with_reducible refine wpList_store_whole rfl 61 (.tmp 7) (.tmp 15) rfl wr.heap.size r.cells zlRc 61 rfl rfl hz HRL.out (rc_info HRW.out) (rc_one _) ?_); intro w2 hU2; have ck : w2.cell? ⟨wr.heap.size, 1, none⟩ = some (.int .i64 r.kind) := (by rw [cell_of_row w2 wr.heap.size 1 _ _ _ hU2.out.at_]; rfl); have HB2 := Lib.hid (hU2.out.below HBz.out hle)))
            go_roundw
            case rel => exact ⟨j + 1, cn + 1, by omega, by omega, by omega, by go_num, by go_num, show _ = _ by rw [HT.out, ← HC.out], HB2⟩
            case measure => simp [intOf]; omega
          · have hd2 : (r.kind == 2) = false := by simpa using hk
            rw [if_neg hk] at HT
            clear hk
            go_wp2_with (first
              | (with_reducible refine wpList_load_rows rfl 61 (.tmp 14) rfl g (j * 68) r.cells cur 61 fr _ rfl hgw hat' Tryd.underlying61 rfl (rc_info HRW.out) ?_)
              | ((with_reducible refine wpList_store_whole rfl 61 (.tmp 7) (.tmp 15) rfl wr.heap.size r.cells zlRc 61 rfl rfl hz HRL.out (rc_info HRW.out) (rc_one _) ?_); intro w2 hU2; have ck : w2.cell? ⟨wr.heap.size, 1, none⟩ = some (.int .i64 r.kind) := (by rw [cell_of_row w2 wr.heap.size 1 _ _ _ hU2.out.at_]; rfl); have HB2 := Lib.hid (hU2.out.below HBz.out hle)))
            go_roundw
            case rel => exact ⟨j + 1, cn, by omega, by omega, by omega, by go_num, rfl, show _ = _ by rw [HT.out, ← HC.out]; rfl, HB2⟩
            case measure => simp [intOf]; omega
    · obtain rfl : j = m := by omega
      have HF : Hid (takenOf rs i = cn) := show _ = _ by
        rw [HC.out, takenOf, HM.out, List.take_length, List.take_of_length_le (by have := HM.out; omega)]
      go_wp2_with fail
      rw [Exit.noGoto_ret]
      go_ret
      exact ⟨by rw [HF.out]; rfl, bw_call HB1.out HB.out⟩
open Go.RowKit
set_option maxHeartbeats 4000000
set_option maxRecDepth 4000
theorem hash_eqG (op : BinOp) (x y : Operand) (xs ys : Array Value) (w : World) : (eqGuard op 23 x y (.agg xs) (.agg ys)).run Tryd.prog w = .ok () w := run_eqGuard_agg w op _ x y xs ys (by kernel_rfl)
theorem hash_eql {a b : List UInt8} (ha : a.length = 32) (hb : b.length = 32) (w : World) : (binOp .eql 23 (.agg (u8s a).toArray) (.agg (u8s b).toArray)).run Tryd.prog w = .ok (.bool (decide (a = b))) w := by
  rw [run_eql_struct, eq_hash ha hb]
  rfl
theorem hash_neq {a b : List UInt8} (ha : a.length = 32) (hb : b.length = 32) (w : World) : (binOp .neq 23 (.agg (u8s a).toArray) (.agg (u8s b).toArray)).run Tryd.prog w = .ok (.bool !(decide (a = b))) w := by
  rw [run_neq_struct, eq_hash ha hb]
  rfl
theorem awake_first : mkErr [] (cnt []) 2 ⟨#[97]⟩ 3 = 0 := by decide
theorem awake_late (r : RC) (h : r.time = 3) : mkErr [r] (cnt [r]) 2 ⟨#[98]⟩ 2 = 33 := by
  have h1 : isLate [r] 2 = true := by
    show decide ((2 : Int) < r.time) = true
    rw [h]; decide
  have h2 : fromOf [r] (cnt [r]) 2 ⟨#[98]⟩ 2 = (0, 33) := by rw [fromOf, if_pos h1]
  rw [mkErr, h2, if_neg (by decide)]
theorem awake19_any (w : World) (hR : RoundsAt w) : Calls Tryd.prog 40 #[] w fun e w' => e = .returned (.bool true) ∧ Below w.heap.size w w' := by
  have HR := Lib.hid hR
  obtain ⟨r, hr⟩ : ∃ r, r = mkRc [] (cnt []) 2 ⟨#[97]⟩ 3 := ⟨_, rfl⟩
  have hrl : r = linkOf z32 0 2 3 ⟨#[97]⟩ := by rw [hr, (mk_ok awake_first).2.2.1]; rfl
  have HF : Hid (r.index = 0 ∧ r.kind = 2 ∧ r.time = 3) := show _ ∧ _ from by rw [hrl]; exact ⟨rfl, rfl, rfl⟩
  have HRW : Hid r.wf := show _ from by rw [hr]; exact mkRc_wf (by simp) (by decide) ⟨by decide, by decide⟩ ⟨by decide, by decide⟩ (by decide)
  have HN1 : Hid (nextRs [] 2 ⟨#[97]⟩ 3 = [r]) := show _ = _ by rw [hr, (next_ok awake_first).1]; rfl
  have HE2 : Hid (mkErr [r] (cnt [r]) 2 ⟨#[98]⟩ 2 = 33) := show _ = _ from awake_late r HF.out.2.2
  have HM2 : Hid (mkRc [r] (cnt [r]) 2 ⟨#[98]⟩ 2 = RC.zero) := show _ = _ from mk_bad (by rw [HE2.out]; decide)
  have HN2 : Hid (nextRs [r] 2 ⟨#[98]⟩ 2 = [r]) := show _ = _ from next_bad (by rw [HE2.out]; decide)
  have HRL : Hid (r.cells.length = zlRc.length) := show _ = _ from rc_len HRW.out
  have HR1 : Hid (mkRc [] (cnt []) 2 ⟨#[97]⟩ 3 = r ∧ mkErr [] (cnt []) 2 ⟨#[97]⟩ 3 = 0) := show _ ∧ _ from ⟨hr.symm, awake_first⟩
  have HTK : Hid (takenOf [r] 9 = 1) := show _ = _ by
    show ([r].take 9).countP (fun r => decide (r.kind = 2)) = 1
    simp [HF.out.2.1]
  have HHD : Hid (headOf [r] = r.hash) := show _ = _ from rfl
  clear hrl hr hR
  go_enter Tryd.func40, Tryd.ntmps40
  go_wp2_with fail
  refine (new_log _).mono ?_
  rintro e w1 ⟨rfl, hL1, hb1⟩
  have HL1 := Lib.hid hL1
  have HB1 := Lib.hid hb1
  have hlw : w.heap.size < w1.heap.size := hL1.lts.1
  clear hL1 hb1
  go_wp2_with fail
  refine (add_any (w.heap.size + 1) w.heap.size (.slice none 0 0) [] 2 ⟨#[97]⟩ 3 _ HL1.out ⟨by decide, by decide⟩ ⟨by decide, by decide⟩ (by decide) (HR.out.below HB1.out HR.out.1) (by decide) hlw).mono ?_
  rintro e w2 ⟨rfl, ⟨sv2, hL2, -⟩, hT2⟩
  rw [HN1.out] at hL2
  rw [HR1.out.1, HR1.out.2]
  have hB2 := hT2.below HB1.out (Nat.le_refl _) (fun k hk => by have := own_blk HL1.out.own k hk; omega) HB1.out.size
  have hL2a := hL2.below (bw_alloc (Below.refl _ _) (.cells Tryd.zeroCells61 61))
  have HB2 := Lib.hid (bw_alloc hB2 (.cells Tryd.zeroCells61 61))
  have hz2 : (w2.alloc (.cells Tryd.zeroCells61 61)).heap[w2.heap.size]? = some (.cells zlRc.toArray 61 (0, 0)) := heap_alloc_new w2 _
  have hle2 := hB2.size
  have hlt2 := hL2.lts
  have HO2 : Hid (w2.heap.size ≠ w.heap.size ∧ sv2.ownBlock ≠ some w2.heap.size ∧ w.heap.size + 1 ≤ w2.heap.size) := show _ ∧ _ from ⟨by omega, fun h => by have := hlt2.2 _ h; omega, by omega⟩
  have HL2 := Lib.hid hL2a
  clear hL2 hT2 hB2 hL2a hlt2
  go_wp2_with ((with_reducible refine wpList_store_whole rfl 61 (.tmp 2) (.tmp 12) rfl w2.heap.size r.cells zlRc 61 rfl rfl hz2 HRL.out (rc_info HRW.out) (rc_one _) ?_); intro w3 hU3; have hT3 := hU3.out.at_; have HB3 := Lib.hid (hU3.out.below HB2.out hle2); have HL3 := Lib.hid (HL2.out.upd hU3.out HO2.out.1 HO2.out.2.1); clear hz2)
  have hs3 : w3.heap.size = w2.heap.size + 1 := by rw [hU3.out.size]; simp
  refine (add_any (w.heap.size + 1) w.heap.size sv2 [r] 2 ⟨#[98]⟩ 2 _ HL3.out ⟨by decide, by decide⟩ ⟨by decide, by decide⟩ (by decide) (HR.out.below HB3.out HR.out.1) (by simp) (by have := HO2.out.2.2; omega)).mono ?_
  rintro e w4 ⟨rfl, ⟨sv4, hL4, -⟩, hT4⟩
  rw [HN2.out] at hL4
  rw [HM2.out, HE2.out]
  have hB4 := hT4.below HB3.out (Nat.le_refl _) (fun k hk => by have := own_blk HL3.out.own k hk; omega) HB3.out.size
  have hb4 := (hT4.block w2.heap.size (by omega) HO2.out.1 (Ne.symm HO2.out.2.1)).trans hT3
  have hL4a := hL4.below (bw_alloc (Below.refl _ _) (.cells Tryd.zeroCells61 61))
  have HB4 := Lib.hid (bw_alloc hB4 (.cells Tryd.zeroCells61 61))
  have hz4 : (w4.alloc (.cells Tryd.zeroCells61 61)).heap[w4.heap.size]? = some (.cells zlRc.toArray 61 (0, 0)) := heap_alloc_new w4 _
  have hb4a := (Below.heap_alloc w4 (.cells Tryd.zeroCells61 61) _ (block_lt hb4)).trans hb4
  have hle4 := hB4.size
  have hlt4 := hL4.lts
  have HO4 : Hid (w4.heap.size ≠ w.heap.size ∧ sv4.ownBlock ≠ some w4.heap.size ∧ w2.heap.size ≠ w4.heap.size) := show _ ∧ _ from ⟨by omega, fun h => by have := hlt4.2 _ h; omega, Nat.ne_of_lt (block_lt hb4)⟩
  have HL4 := Lib.hid hL4a
  clear hL4 hT4 hB4 hL4a hlt4 hb4 hT3
  go_wp2_with ((with_reducible refine wpList_store_whole rfl 61 (.tmp 4) (.tmp 17) rfl w4.heap.size RC.zero.cells zlRc 61 rfl rfl hz4 rfl (rc_info RC.zero_wf) (rc_one _) ?_); intro w5 hU5; have hb5 := (hU5.out.other _ HO4.out.2.2).trans hb4a; have HB5 := Lib.hid (hU5.out.below HB4.out hle4); have HL5 := Lib.hid (HL4.out.upd hU5.out HO4.out.1 HO4.out.2.1); clear hz4 hb4a)
  generalize w2.heap.size = b2 at *
  have k5 : w5.drew.cell? ⟨b2, 0, none⟩ = some (.int .i64 0) := by rw [cell_of_row w5.drew b2 0 _ _ _ hb5, ← HF.out.1]; rfl
  refine wp_region_class (fun W => (Below w.heap.size w W ∧ LgAt W (w.heap.size + 1) w.heap.size sv4 [r] (cnt [r]) ∧ W.heap[b2]? = some (.cells r.cells.toArray 61 (0, 0))) ∧ W.cell? ⟨b2, 0, none⟩ = some (.int .i64 0)) (by kernel_rfl) (by kernel_rfl) ⟨⟨HB5.out.drew, HL5.out.below (Below.refl _ _).drew, hb5⟩, k5⟩ ?_
  refine wq_gen (v := ?_) (by kernel_rfl) ?_ ?_
  rotate_left
  · intro W hC
    go_simp
    try with_reducible rfl
  try simp only [Act.put, List.setIfInBounds_toArray, List.set_cons_zero, List.set_cons_succ]
  refine wq_gen (v := ?_) (by kernel_rfl) ?_ ?_
  rotate_left
  · intro W hC
    go_simp
    try with_reducible rfl
  try simp only [Act.put, List.setIfInBounds_toArray, List.set_cons_zero, List.set_cons_succ]
  refine wq_gen (v := ?_) (by kernel_rfl) ?_ ?_
  rotate_left
  · intro W hC
    go_simp
    try with_reducible rfl
  try simp only [Act.put, List.setIfInBounds_toArray, List.set_cons_zero, List.set_cons_succ]
  refine wq_gen (v := ?_) (by kernel_rfl) ?_ ?_
  rotate_left
  · intro W hC
    go_simp
    try with_reducible rfl
  try simp only [Act.put, List.setIfInBounds_toArray, List.set_cons_zero, List.set_cons_succ]
  refine wq_gen (v := ?_) (by kernel_rfl) ?_ ?_
  rotate_left
  · intro W hC
    go_simp
    try with_reducible rfl
  try simp only [Act.put, List.setIfInBounds_toArray, List.set_cons_zero, List.set_cons_succ]
  refine wq_gen (v := ?_) (by kernel_rfl) ?_ ?_
  rotate_left
  · intro W hC
    go_simp
    try with_reducible rfl
  try simp only [Act.put, List.setIfInBounds_toArray, List.set_cons_zero, List.set_cons_succ]
  refine wq_gen (v := ?_) (by kernel_rfl) ?_ ?_
  rotate_left
  · intro W hC
    go_simp
    try with_reducible rfl
  try simp only [Act.put, List.setIfInBounds_toArray, List.set_cons_zero, List.set_cons_succ]
  refine wq_gen (v := ?_) (by kernel_rfl) ?_ ?_
  rotate_left
  · intro W hC
    go_simp
    try with_reducible rfl
  try simp only [Act.put, List.setIfInBounds_toArray, List.set_cons_zero, List.set_cons_succ]
  refine wq_gen (v := ?_) (by kernel_rfl) ?_ ?_
  rotate_left
  · intro W hC
    go_simp
    try with_reducible rfl
  try simp only [Act.put, List.setIfInBounds_toArray, List.set_cons_zero, List.set_cons_succ]
  refine wq_gen (v := ?_) (by kernel_rfl) ?_ ?_
  rotate_left
  · intro W hC
    go_simp
    try with_reducible rfl
  try simp only [Act.put, List.setIfInBounds_toArray, List.set_cons_zero, List.set_cons_succ]
  refine wq_gen (v := ?_) (by kernel_rfl) ?_ ?_
  rotate_left
  · intro W hC
    go_simp
    try with_reducible rfl
  try simp only [Act.put, List.setIfInBounds_toArray, List.set_cons_zero, List.set_cons_succ]
  refine wq_gen (v := ?_) (by kernel_rfl) ?_ ?_
  rotate_left
  · intro W hC
    go_simp
    try with_reducible rfl
  try simp only [Act.put, List.setIfInBounds_toArray, List.set_cons_zero, List.set_cons_succ]
  refine wq_gen (v := ?_) (by kernel_rfl) ?_ ?_
  rotate_left
  · intro W hC
    go_simp
    try with_reducible rfl
  try simp only [Act.put, List.setIfInBounds_toArray, List.set_cons_zero, List.set_cons_succ]
  refine wq_call (f := 54) (args := #[.pointer (some ⟨w.heap.size, 0, none⟩), .int .i64 9]) (v := .int .i64 1) (by kernel_rfl) (fun W hC => ?_) (fun W hC => ?_) ?_
  · go_simp
    try with_reducible rfl
  · exact (taken_any _ _ _ _ _ 9 W hC.1.2.1 (by have := hC.1.2.1.lts.1; omega)).mono (fun e W' h => ⟨h.1.trans (by rw [HTK.out]; rfl), ⟨bw_call hC.1.1 h.2, hC.1.2.1.below h.2, keep_row h.2 hC.1.2.2⟩, (h.2.cell (block_of_cell hC.2)).trans hC.2⟩)
  try simp only [Act.put, List.setIfInBounds_toArray, List.set_cons_zero, List.set_cons_succ]
  refine wq_gen (v := ?_) (by kernel_rfl) ?_ ?_
  rotate_left
  · intro W hC
    go_simp
    try with_reducible rfl
  try simp only [Act.put, List.setIfInBounds_toArray, List.set_cons_zero, List.set_cons_succ]
  refine wq_gen (v := ?_) (by kernel_rfl) ?_ ?_
  rotate_left
  · intro W hC
    go_simp
    try with_reducible rfl
  try simp only [Act.put, List.setIfInBounds_toArray, List.set_cons_zero, List.set_cons_succ]
  refine wq_gen (v := ?_) (by kernel_rfl) ?_ ?_
  rotate_left
  · intro W hC
    go_simp
    try with_reducible rfl
  try simp only [Act.put, List.setIfInBounds_toArray, List.set_cons_zero, List.set_cons_succ]
  refine wq_gen (v := ?_) (by kernel_rfl) ?_ ?_
  rotate_left
  · intro W hC
    go_simp
    try with_reducible rfl
  try simp only [Act.put, List.setIfInBounds_toArray, List.set_cons_zero, List.set_cons_succ]
  refine wq_call (f := 44) (args := #[.pointer (some ⟨w.heap.size, 0, none⟩)]) (v := .agg (u8s r.hash).toArray) (by kernel_rfl) (fun W hC => ?_) (fun W hC => ?_) ?_
  · go_simp
    try with_reducible rfl
  · exact (head_any _ _ _ _ _ W hC.1.2.1).mono (fun e W' h => ⟨h.1.trans (by rw [HHD.out]), ⟨bw_call hC.1.1 h.2, hC.1.2.1.below h.2, keep_row h.2 hC.1.2.2⟩, (h.2.cell (block_of_cell hC.2)).trans hC.2⟩)
  try simp only [Act.put, List.setIfInBounds_toArray, List.set_cons_zero, List.set_cons_succ]
  refine wq_gen (v := ?_) (by kernel_rfl) ?_ ?_
  rotate_left
  · intro W hC
    go_simp
    try with_reducible rfl
  try simp only [Act.put, List.setIfInBounds_toArray, List.set_cons_zero, List.set_cons_succ]
  refine wq_load (by kernel_rfl) 23 (.tmp 38) rfl b2 36 (u8s r.hash) _ rfl (fun W hC => range_row hC.1.2.2 (RC.at_hash HRW.out.prev)) Tryd.underlying23 rfl (hash_info HRW.out.hash) ?_
  try simp only [Act.put, List.setIfInBounds_toArray, List.set_cons_zero, List.set_cons_succ]
  refine wq_bin (by kernel_rfl) .eql 23 23 (.tmp 37) (.tmp 39) rfl (.agg (u8s r.hash).toArray) (.agg (u8s r.hash).toArray) (.bool true) rfl rfl (hash_eqG _ _ _ _ _) (fun w => (hash_eql HRW.out.hash HRW.out.hash w).trans (by rw [decide_eq_true (rfl : r.hash = r.hash)])) ?_
  try simp only [Act.put, List.setIfInBounds_toArray, List.set_cons_zero, List.set_cons_succ]
  refine wq_gen (v := ?_) (by kernel_rfl) ?_ ?_
  rotate_left
  · intro W hC
    go_simp
    try with_reducible rfl
  try simp only [Act.put, List.setIfInBounds_toArray, List.set_cons_zero, List.set_cons_succ]
  refine wq_gen (v := ?_) (by kernel_rfl) ?_ ?_
  rotate_left
  · intro W hC
    go_simp
    try with_reducible rfl
  try simp only [Act.put, List.setIfInBounds_toArray, List.set_cons_zero]
  refine wpQuiet_nil ?_
  intro w6 hC6
  have HB6 := Lib.hid hC6.1.1
  clear hC6
  go_wp2_with fail
  go_ret
  exact ⟨rfl, HB6.out⟩
end Go.Proofs.YtckfdmkjeocadaaDoor
