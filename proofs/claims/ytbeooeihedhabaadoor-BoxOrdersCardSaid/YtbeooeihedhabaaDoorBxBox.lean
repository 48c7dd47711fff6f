/- box.Read: what the call does. box.Read: what the call does. -/
import Derived.Test.YtbeooeihedhabaaDoorBxRead
import Derived.Test.YtbeooeihedhabaaDoorSeal
import Derived.Test.YtbeooeihedhabaaDoorCrH
import Derived.Test.YtbeooeihedhabaaDoorReg
namespace Go.Proofs.YtbeooeihedhabaaDoor
open Go.RowKit
set_option maxHeartbeats 4000000
set_option maxRecDepth 4000
theorem openL_err {l : List UInt8} {m : Int} {e : Int} (h : openL l m = .error e) : (e != 0) = true := by
  rw [bne_iff_ne]
  unfold openL at h
  split at h
  · injection h with h; omega
  · split at h
    · injection h with h; omega
    · split at h
      · injection h with h; omega
      · split at h
        · rename_i h2
          injection h with h
          have := rdN_err h2
          omega
        · split at h
          · injection h with h; omega
          · split at h
            · injection h with h; omega
            · unfold openT at h
              split at h
              · rename_i h2
                injection h with h
                have := unpL_err h2
                omega
              · split at h
                · injection h with h; omega
                · split at h
                  · injection h with h; omega
                  · cases h
theorem openL_len {l t : List UInt8} {m : Int} (h : openL l m = .ok t) : t.length ≤ 32768 := by
  unfold openL at h
  split at h
  · cases h
  · split at h
    · cases h
    · split at h
      · cases h
      · split at h
        · cases h
        · split at h
          · cases h
          · split at h
            · cases h
            · unfold openT at h
              split at h
              · cases h
              · split at h
                · cases h
                · split at h
                  · cases h
                  · injection h with h
                    subst h
                    omega
theorem rdBox_err {s : ByteArray} {e : Int} (h : rdAll s = .error e) : rdBox s = .error 6 := by unfold rdBox; rw [h]
theorem rdBox_len {s : ByteArray} {ts : List ByteArray} (h : rdAll s = .ok ts) (hl : ts.length ≠ 2) : rdBox s = .error 6 := by
  unfold rdBox
  rw [h]
  match ts, hl with
  | [], _ => rfl
  | [_], _ => rfl
  | [_, _], hl => exact absurd rfl hl
  | _ :: _ :: _ :: _, _ => rfl
/-- what lies in the crate -/
def rdIn (a : ByteArray) : Except Int BT :=
  match openL a.data.toList 32768 with
  | .error _ => .error 7
  | .ok x => match rdB (bstr x) with
    | none => .error 6
    | some b => .ok b
theorem rdBox_two {s a t : ByteArray} (h : rdAll s = .ok [a, t]) : rdBox s = if t.size = 32 then (if tagOf 64 4 a.data.toList = t.data.toList then rdIn a else .error 21) else .error 6 := by unfold rdBox; rw [h]; rfl
theorem rdBox_ne {s : ByteArray} {e : Int} (h : rdBox s = .error e) : (e != 0) = true := by
  rw [bne_iff_ne]
  unfold rdBox at h
  split at h
  · injection h with h; omega
  · split at h
    · split at h
      · split at h
        · injection h with h; omega
        · split at h
          · injection h with h; omega
          · cases h
      · injection h with h; omega
    · injection h with h; omega
  · injection h with h; omega
/-- what box.Read hands back -/
def RbxRes (w : World) (r : Except Int BT) (e : Ending) (w' : World) : Prop :=
  match r with
  | .error x => e = .returned (.tuple #[.agg zlB.toArray, .int .i64 x])
  | .ok b => ∃ v, e = .returned (.tuple #[.agg (b.cells v).toArray, .int .i64 0]) ∧ RdRows w' v 2 (b.parts.map PT.cells) (fun k => w.heap.size ≤ k)
/-- box.Read's closure: is the tag theirs? -/
theorem theirs_any (tag : List UInt8) (a : ByteArray) (bl g o n c : Nat) (w : World) (ht : tag.length = 32) (ha : a.size ≤ 65536) (hb : bl < w.heap.size) (hg : g < w.heap.size) (h0 : w.cell? ⟨bl, 0, none⟩ = some (.slice (some ⟨g, o, none⟩) n c)) (hn : 0 < n) (h1 : w.cell? ⟨g, o, none⟩ = some (.string a)) (hR : RoundsAt w) :
    Calls Tryd.prog 33 #[.agg (u8s tag).toArray, .pointer (some ⟨bl, 0, none⟩)] w fun e w' => e = .returned (.bool (errTag (tagOf 64 4 a.data.toList) tag == 0)) ∧ Below w.heap.size w w' := by
  have HTG := Lib.hid ht
  have hz := heap_alloc_new w (.cells (u8s tag).toArray 51)
  have HB0 := Lib.hid (bw_alloc (Below.refl w.heap.size w) (.cells (u8s tag).toArray 51))
  have KEEP : Hid (∀ W, Below (w.heap.size + 1) (w.alloc (.cells (u8s tag).toArray 51)) W → W.cell? ⟨bl, 0, none⟩ = some (.slice (some ⟨g, o, none⟩) n c) ∧ W.cell? ⟨g, o, none⟩ = some (.string a) ∧ W.heap[w.heap.size]? = some (.cells (u8s tag).toArray 51 (0, 0))) := show ∀ W, _ from fun W h =>
    ⟨(h.cell (p := ⟨bl, 0, none⟩) (by show bl < _; omega)).trans ((HB0.out.cell (p := ⟨bl, 0, none⟩) hb).trans h0), (h.cell (p := ⟨g, o, none⟩) (by show g < _; omega)).trans ((HB0.out.cell (p := ⟨g, o, none⟩) hg).trans h1), (h.block _ (by omega)).trans hz⟩
  have HC := Lib.hid (fun W (hW : RoundsAt W) => check_ok 64 4 a tag W (by decide) (by decide) (by decide) (by decide) (by omega) ht hW)
  have HR := Lib.hid hR
  have HS : Hid ((w.alloc (.cells (u8s tag).toArray 51)).heap.size = w.heap.size + 1) := show _ = _ from by simp
  have hi0 : (0 : Int) < n := by omega
  clear ht ha hb hg h0 h1 hR hz
  go_enter Tryd.func33, Tryd.ntmps33
  go_wp2_with fail
  refine wp_region_held_drew (S := fun W => W.cell? ⟨bl, 0, none⟩ = some (.slice (some ⟨g, o, none⟩) n c) ∧ W.cell? ⟨g, o, none⟩ = some (.string a) ∧ W.heap[w.heap.size]? = some (.cells (u8s tag).toArray 51 (0, 0))) (by kernel_rfl) (KEEP.out _ (Below.refl _ _).drew) (fun _ => ?_)
  refine rg_gen (i := 0) (v := ?_) rfl (by kernel_rfl) (by kernel_rfl) (by kernel_rfl) (fun _ _ _ h => h) rfl (by rfl) ?_ (by assumption) ?_
  rotate_left
  · intro w hSw
    try dsimp only at hSw
    go_simp
    try with_reducible rfl
  try simp only [Act.put, List.setIfInBounds_toArray, List.set_cons_zero, List.set_cons_succ]
  refine rg_gen (i := 1) (v := ?_) rfl (by kernel_rfl) (by kernel_rfl) (by kernel_rfl) (fun _ _ _ h => h) rfl (by rfl) ?_ (by assumption) ?_
  rotate_left
  · intro w hSw
    try dsimp only at hSw
    go_simp
    try with_reducible rfl
  try simp only [Act.put, List.setIfInBounds_toArray, List.set_cons_zero, List.set_cons_succ]
  refine rg_gen (i := 2) (v := ?_) rfl (by kernel_rfl) (by kernel_rfl) (by kernel_rfl) (fun _ _ _ h => h) rfl (by rfl) ?_ (by assumption) ?_
  rotate_left
  · intro w hSw
    try dsimp only at hSw
    go_simp
    try with_reducible rfl
  try simp only [Act.put, List.setIfInBounds_toArray, List.set_cons_zero, List.set_cons_succ]
  refine rg_row (i := 3) rfl (by kernel_rfl) (by kernel_rfl) (by kernel_rfl) (fun _ _ _ _ h => h) rfl (by rfl) 51 (.tmp 2) rfl w.heap.size 0 (u8s tag) rfl (fun W hW => range_row hW.2.2 id_at) Tryd.underlying51 rfl (hash_info HTG.out) (by assumption) ?_
  try simp only [Act.put, List.setIfInBounds_toArray, List.set_cons_zero, List.set_cons_succ]
  refine rg_one (i := 4) (by kernel_rfl) rfl (fun K hK => ?_)
  go_simp
  go_at_call 34
  refine (HC.out _ (HR.out.below HB0.out.drew HR.out.1)).mono ?_
  rintro e w2 ⟨rfl, hb2⟩
  have hb3 : Below (w.heap.size + 1) (w.alloc (.cells (u8s tag).toArray 51)) w2 := by
    have h := (Below.refl (w.alloc (.cells (u8s tag).toArray 51)).heap.size _).drew.trans hb2
    rw [HS.out] at h
    exact h
  have HB3 := Lib.hid (HB0.out.trans (hb3.mono (by omega)))
  go_wp2_with fail
  refine hK.out _ _ (KEEP.out _ hb3) (fun _ => ?_)
  clear hK K hb2
  try simp only [Act.put, List.setIfInBounds_toArray, List.set_cons_zero, List.set_cons_succ]
  refine rg_gen (i := 5) (v := ?_) rfl (by kernel_rfl) (by kernel_rfl) (by kernel_rfl) (fun _ _ _ h => h) rfl (by rfl) ?_ (by assumption) ?_
  rotate_left
  · intro w hSw
    try dsimp only at hSw
    go_simp
    try with_reducible rfl
  try simp only [Act.put, List.setIfInBounds_toArray, List.set_cons_zero, List.set_cons_succ]
  refine rg_one (i := 6) (by kernel_rfl) rfl (fun K hK => ?_)
  go_simp
  refine hK.out _ _ (KEEP.out _ hb3) (fun _ => ?_)
  clear hK K hb3
  refine wpAnyH_done (by kernel_rfl) ?_ _
  go_wp2_with fail
  go_ret
  exact ⟨rfl, HB3.out⟩
open Go.RowKit
set_option maxHeartbeats 4000000
set_option maxRecDepth 4000
theorem box_arr (p : Option Addr) (c : Nat) (w : World) : (Instr.arrayAt 51 (.slice p 32 c)).run Tryd.prog w = .ok (.pointer p) w := by
  unfold Instr.arrayAt
  simp only [Sem.run_bind, run_underlying Tryd.underlying51, Result.andThen_ok]
  rfl
theorem box_pre (y : ByteArray) (rest : List Value) : ∀ (j : Nat) (v : Value), (u8s y.data.toList)[j]? = some v → (u8s y.data.toList ++ rest)[0 + j]? = some v := by
  intro j v h
  rw [Nat.zero_add, List.getElem?_append_left (List.getElem?_eq_some_iff.1 h).1]
  exact h
theorem bcells_one (b : BT) (q : Option Addr) (n c : Nat) : ∀ u ∈ b.cells (.slice q n c), u.oneCell' = true := fun u h => bcs_one (x := b.seq) (y := b.first) (z := b.before) (v := .slice q n c) rfl u h
theorem bxread_any (s : ByteArray) (w : World) (hs : s.size ≤ 140737488355328) (hR : RoundsAt w) :
    Calls Tryd.prog 13 #[.string s] w fun e w' => Below w.heap.size w w' ∧ RbxRes w (rdBox s) e w' := by
  have HRA := Lib.hid hR
  have hC := rl_any s 0 (w.alloc (.cells zlB.toArray 24)) hs (Nat.zero_le _)
  rw [List.drop_zero] at hC
  have hz0' := heap_alloc_new w (.cells zlB.toArray 24)
  have HB0 := Lib.hid (bw_alloc (Below.refl w.heap.size w) (.cells zlB.toArray 24))
  have hs0 : (w.alloc (.cells zlB.toArray 24)).heap.size = w.heap.size + 1 := by simp
  cases hr : rdL s.data.toList with
  | error x =>
    have hx0 : (x != 0) = true := ne0_of3 (rdL_err hr)
    have HNB : Hid (rdBox s = .error 6) := show _ = _ from rdBox_err (e := x) (by unfold rdAll; rw [hr])
    rw [hr] at hC
    have HC : Hid (Calls Tryd.prog 32 #[.string s, .int .i64 (0 : Nat)] (w.alloc (.cells zlB.toArray 24)) fun e w' => Below (w.alloc (.cells zlB.toArray 24)).heap.size (w.alloc (.cells zlB.toArray 24)) w' ∧ e = .returned (.tuple #[.slice none 0 0, .int .i64 0, .int .i64 x])) := hC
    rw [hs0] at HC
    have HZ := Lib.hid hz0'
    clear hr hs hs0 hz0' hC
    go_enter Tryd.func13, Tryd.ntmps13
    go_wp2_with fail
    refine HC.out.mono ?_
    rintro e w1 ⟨hb1, rfl⟩
    have HBX : Hid (Below w.heap.size w (w1.alloc (.cells #[.slice none 0 0] 45))) := show Below _ _ _ from bw_alloc (HB0.out.trans (hb1.mono (by omega))) _
    have hz : (w1.alloc (.cells #[.slice none 0 0] 45)).heap[w.heap.size]? = some (.cells zlB.toArray 24 (0, 0)) := by
      have h := (hb1.block _ (by omega)).trans HZ.out
      exact (Below.heap_alloc _ _ _ (block_lt h)).trans h
    clear hb1
    go_wp2_with ((with_reducible refine wpList_store_whole rfl 24 (.tmp 2) (.tmp 35) rfl w.heap.size zlB zlB 24 rfl rfl hz rfl (batch_info _ rfl) batch_one ?_); intro w7 hU)
    exact post_cell_tmp 2 3 24 rfl w.heap.size _ zlB _ _ hU.out.at_ Tryd.underlying24 rfl (batch_info _ rfl) (.int .i64 6) rfl rfl rfl ⟨hU.out.below HBX.out (Nat.le_refl _), by rw [HNB.out]; rfl⟩
  | ok p =>
    obtain ⟨ts, c⟩ := p
    have h0 := rdL_ok hr
    have HC : Hid (Calls Tryd.prog 32 #[.string s, .int .i64 (0 : Nat)] (w.alloc (.cells zlB.toArray 24)) fun e w' => Below (w.alloc (.cells zlB.toArray 24)).heap.size (w.alloc (.cells zlB.toArray 24)) w' ∧ ∃ v, e = .returned (.tuple #[v, .int .i64 (0 + c : Nat), .int .i64 0]) ∧ w'.ownsRow (w.alloc (.cells zlB.toArray 24)).heap.size 9 1 v ts.length (strs ts)) := by rw [hr] at hC; exact hC
    rw [hs0, Nat.zero_add] at HC
    have HZ := Lib.hid hz0'
    obtain ⟨n, hn⟩ : ∃ n, n = ts.length := ⟨_, rfl⟩
    rw [← hn] at HC
    have HNN := Lib.hid hn
    have HRL := Lib.hid hr
    clear hs0 hz0' hC hn hr
    by_cases hc : c = s.size
    · have HA : Hid (rdAll s = .ok ts) := show _ = _ from by unfold rdAll; rw [HRL.out]; exact if_pos hc
      have q1 : ((c : Int) != (s.size : Int)) = false := by rw [hc]; exact bne_self_eq_false _
      have HSZ := Lib.hid (rdAll_sizes HA.out)
      clear hs
      by_cases hn2 : n = 2
      · obtain ⟨a, t, hts⟩ : ∃ a t, ts = [a, t] := by
          have hl := HNN.out
          match ts, hl with
          | [a, t], _ => exact ⟨a, t, rfl⟩
          | [], h => simp at h; omega
          | [_], h => simp at h; omega
          | _ :: _ :: _ :: _, h => simp at h; omega
        subst hts
        subst hn2
        have HBB := Lib.hid (rdBox_two HA.out)
        have hsA := HSZ.out a (by simp)
        have hst := HSZ.out t (by simp)
        clear hc
        by_cases ht2 : t.size = 32
        · have q2 : ((t.size : Int) != 32) = false := by rw [ht2]; rfl
          have HB2 : Hid (rdBox s = if tagOf 64 4 a.data.toList = t.data.toList then rdIn a else .error 21) := show _ = _ from by rw [HBB.out, if_pos ht2]
          have HTL : Hid (t.data.toList.length = 32) := show _ = _ from ht2
          have HT2 := Lib.hid ht2
          clear ht2
          go_enter Tryd.func13, Tryd.ntmps13
          go_wp2_with fail
          refine HC.out.mono ?_
          rintro e w1 ⟨hb1, v, rfl, ho1⟩
          have HB1 : Hid (Below w.heap.size w w1) := show Below _ _ _ from HB0.out.trans (hb1.mono (by omega))
          have HZ1 : Hid (w1.heap[w.heap.size]? = some (.cells zlB.toArray 24 (0, 0))) := show _ = _ from (hb1.block _ (by omega)).trans HZ.out
          obtain ⟨q, cq, rfl⟩ := row_shape ho1
          have hz1 := heap_alloc_new w1 (.cells #[.slice q 2 cq] 45)
          have hl0 : (w1.alloc (.cells #[.slice q 2 cq] 45)).cell? ⟨w1.heap.size, 0, none⟩ = some (.slice q 2 cq) := by rw [cell_of_row _ _ _ _ _ _ hz1]; rfl
          have HBX : Hid (Below w.heap.size w (w1.alloc (.cells #[.slice q 2 cq] 45))) := show Below _ _ _ from bw_alloc HB1.out _
          have hz : (w1.alloc (.cells #[.slice q 2 cq] 45)).heap[w.heap.size]? = some (.cells zlB.toArray 24 (0, 0)) := (Below.heap_alloc _ _ _ (block_lt HZ1.out)).trans HZ1.out
          clear hb1 hz1
          obtain ⟨g, hq, hgl, hcs0, hcs1⟩ : ∃ g, q = some ⟨g, 0, none⟩ ∧ g < w1.heap.size ∧ w1.cell? ⟨g, 0, none⟩ = some (.string a) ∧ w1.cell? ⟨g, 1, none⟩ = some (.string t) := by
            rcases ho1.2 with ⟨_, h0⟩ | ⟨g, cap, cur, he, hb, hg, _, _, _, ht⟩
            · cases h0
            · injection he with e1 e2 e3
              refine ⟨g, e1, block_lt hg, ?_, ?_⟩ <;> rw [cell_of_row _ _ _ _ _ _ hg, ← Array.getElem?_toList, ← List.getElem?_take_of_lt (show _ < 2 * 1 by decide), ht] <;> rfl
          subst hq
          have g0 : (w1.alloc (.cells #[.slice (some ⟨g, 0, none⟩) 2 cq] 45)).cell? ⟨g, 0, none⟩ = some (.string a) := (Below.cell (bw_alloc (Below.refl w1.heap.size w1) _) (p := ⟨g, 0, none⟩) hgl).trans hcs0
          have g1 : (w1.alloc (.cells #[.slice (some ⟨g, 0, none⟩) 2 cq] 45)).cell? ⟨g, 1, none⟩ = some (.string t) := (Below.cell (bw_alloc (Below.refl w1.heap.size w1) _) (p := ⟨g, 1, none⟩) hgl).trans hcs1
          have HGL : Hid (g < (w1.alloc (.cells #[.slice (some ⟨g, 0, none⟩) 2 cq] 45)).heap.size ∧ w1.heap.size < (w1.alloc (.cells #[.slice (some ⟨g, 0, none⟩) 2 cq] 45)).heap.size) := show _ ∧ _ from ⟨by simp; omega, by simp⟩
          clear hcs0 hcs1 ho1 hgl
          obtain ⟨cc, W3, hrun, hB3, hsz3, rest, fr, hblk⟩ := conv_bytes Tryd.underlying9 Tryd.underlying48 Tryd.underlying5 (w1.alloc (.cells #[.slice (some ⟨g, 0, none⟩) 2 cq] 45)) t
          rw [HT2.out] at hrun
          have hsz2 : (w1.alloc (.cells #[.slice (some ⟨g, 0, none⟩) 2 cq] 45)).heap.size = w1.heap.size + 1 := by simp
          rw [hsz2] at hblk
          have hsa := box_arr
          have k0 := (hB3.cell (p := ⟨w1.heap.size, 0, none⟩) HGL.out.2).trans hl0
          have k1 := (hB3.cell (p := ⟨g, 0, none⟩) HGL.out.1).trans g0
          have HB3 : Hid (Below w.heap.size w W3) := show Below _ _ _ from HBX.out.trans (hB3.mono HBX.out.size)
          have hz3 := (hB3.block _ (block_lt hz)).trans hz
          have HC3 := Lib.hid (theirs_any t.data.toList a w1.heap.size g 0 2 cq W3 HTL.out hsA (Nat.lt_of_lt_of_le HGL.out.2 hB3.size) (Nat.lt_of_lt_of_le HGL.out.1 hB3.size) k0 (by decide) k1 (HRA.out.below HB3.out HRA.out.1))
          clear hB3 hsz3 hz hsz2
          go_wp2_with (with_reducible refine wpList_load_rows rfl 51 (.tmp 42) rfl (w1.heap.size + 1) 0 (u8s t.data.toList) _ 5 fr _ rfl hblk (box_pre t rest) Tryd.underlying51 rfl (hash_info HTL.out) ?_)
          refine HC3.out.mono ?_
          rintro e w4 ⟨rfl, hb4⟩
          have HB4 := Lib.hid (bw_call HB3.out hb4)
          have hz4 := (hb4.block _ (block_lt hz3)).trans hz3
          have m0 := (hb4.cell (p := ⟨w1.heap.size, 0, none⟩) (rd_block_of_cell k0)).trans k0
          have m1 := (hb4.cell (p := ⟨g, 0, none⟩) (rd_block_of_cell k1)).trans k1
          clear hb4 hz3 k0 k1 hl0 g0 g1 hblk hrun
          by_cases htg : tagOf 64 4 a.data.toList = t.data.toList
          · have q3 : (errTag (tagOf 64 4 a.data.toList) t.data.toList == 0) = true := by unfold errTag; rw [if_pos htg]; rfl
            have HB5 : Hid (rdBox s = rdIn a) := show _ = _ from by rw [HB2.out, if_pos htg]
            have HO := copen_any a 32768 w4 (by omega)
            clear htg
            cases ho : openL a.data.toList 32768 with
            | error x =>
              have hx0 := openL_err ho
              rw [ho] at HO
              have HO : Hid (Calls Tryd.prog 35 #[.string a, .int .i64 32768] w4 fun e w' => e = .returned (.tuple #[.string ⟨#[]⟩, .int .i64 x]) ∧ Below w4.heap.size w4 w') := HO
              have HNB : Hid (rdBox s = .error 7) := show _ = _ from by rw [HB5.out]; unfold rdIn; rw [ho]
              clear ho
              go_wp2_with fail
              refine HO.out.mono ?_
              rintro e w5 ⟨rfl, hb5⟩
              have HBX := Lib.hid (bw_call HB4.out hb5)
              have hz := (hb5.block _ (block_lt hz4)).trans hz4
              clear hb5
              go_wp2_with ((with_reducible refine wpList_store_whole rfl 24 (.tmp 2) (.tmp 56) rfl w.heap.size zlB zlB 24 rfl rfl hz rfl (batch_info _ rfl) batch_one ?_); intro w7 hU)
              exact post_cell_tmp 2 3 24 rfl w.heap.size _ zlB _ _ hU.out.at_ Tryd.underlying24 rfl (batch_info _ rfl) (.int .i64 7) rfl rfl rfl ⟨hU.out.below HBX.out (Nat.le_refl _), by rw [HNB.out]; rfl⟩
            | ok x =>
              have hxl := openL_len ho
              rw [ho] at HO
              have HO : Hid (Calls Tryd.prog 35 #[.string a, .int .i64 32768] w4 fun e w' => e = .returned (.tuple #[.string (bstr x), .int .i64 0]) ∧ Below w4.heap.size w4 w') := HO
              have HB6 : Hid (rdBox s = match rdB (bstr x) with | none => .error 6 | some b => .ok b) := show _ = _ from by rw [HB5.out]; unfold rdIn; rw [ho]; try rfl
              have HRD := Lib.hid (fun W => rbatch_any (bstr x) W (by rw [bstr_size]; omega))
              clear ho hxl
              generalize bstr x = X at *
              go_wp2_with fail
              refine HO.out.mono ?_
              rintro e w5 ⟨rfl, hb5⟩
              have HB5x := Lib.hid (bw_call HB4.out hb5)
              have hz5 := (hb5.block _ (block_lt hz4)).trans hz4
              clear hb5 hz4 m0 m1
              go_wp2_with fail
              refine (HRD.out _).mono ?_
              rintro e w6 ⟨hb6, hRes⟩
              have HBX := Lib.hid (bw_call HB5x.out hb6)
              have hz := (hb6.block _ (block_lt hz5)).trans hz5
              have HS6 : Hid (w.heap.size < w5.heap.size) := show _ < _ from block_lt hz5
              clear hb6 hz5
              cases hrb : rdB X with
              | none =>
                rw [hrb] at hRes
                have he : e = .returned (.tuple #[.agg zlB.toArray, .int .i64 6]) := hRes
                subst he
                have HNB : Hid (rdBox s = .error 6) := show _ = _ from by rw [HB6.out, hrb]
                clear hrb hRes
                go_wp2_with ((with_reducible refine wpList_store_whole rfl 24 (.tmp 2) (.tmp 59) rfl w.heap.size zlB zlB 24 rfl rfl hz rfl (batch_info _ rfl) batch_one ?_); intro w7 hU)
                exact post_cell_tmp 2 3 24 rfl w.heap.size _ zlB _ _ hU.out.at_ Tryd.underlying24 rfl (batch_info _ rfl) (.int .i64 6) rfl rfl rfl ⟨hU.out.below HBX.out (Nat.le_refl _), by rw [HNB.out]; rfl⟩
              | some b =>
                rw [hrb] at hRes
                obtain ⟨v, rfl, hrows⟩ := hRes
                have HNB : Hid (rdBox s = .ok b) := show _ = _ from by rw [HB6.out, hrb]
                have HRW := Lib.hid hrows
                obtain ⟨qv, cv, hqv⟩ : ∃ qv cv, v = .slice qv b.parts.length cv := by
                  obtain ⟨A, c', h, _⟩ := hrows
                  exact ⟨A, c', by rw [h, List.length_map]⟩
                subst hqv
                clear hrb hrows
                go_wp2_with ((with_reducible refine wpList_store_whole rfl 24 (.tmp 2) (.tmp 59) rfl w.heap.size (b.cells (.slice qv b.parts.length cv)) zlB 24 rfl rfl hz rfl (batch_info _ rfl) (bcells_one b qv b.parts.length cv) ?_); intro w7 hU)
                refine post_cell_tmp 2 3 24 rfl w.heap.size _ (b.cells (.slice qv b.parts.length cv)) _ _ hU.out.at_ Tryd.underlying24 rfl (batch_info _ rfl) (.int .i64 0) rfl rfl rfl ⟨hU.out.below HBX.out (Nat.le_refl _), ?_⟩
                rw [HNB.out]
                refine ⟨_, rfl, (HRW.out.kept (Nat.le_of_eq hU.out.size.symm) fun k _ hk => hU.out.other k ?_).mono fun k _ hk => Nat.le_trans (Nat.le_of_lt HS6.out) hk⟩
                have := HS6.out
                omega
          · have q3 : (errTag (tagOf 64 4 a.data.toList) t.data.toList == 0) = false := by unfold errTag; rw [if_neg htg]; rfl
            have HNB : Hid (rdBox s = .error 21) := show _ = _ from by rw [HB2.out, if_neg htg]
            have HBX := HB4
            have hz := hz4
            clear htg
            go_wp2_with ((with_reducible refine wpList_store_whole rfl 24 (.tmp 2) (.tmp 46) rfl w.heap.size zlB zlB 24 rfl rfl hz rfl (batch_info _ rfl) batch_one ?_); intro w7 hU)
            exact post_cell_tmp 2 3 24 rfl w.heap.size _ zlB _ _ hU.out.at_ Tryd.underlying24 rfl (batch_info _ rfl) (.int .i64 21) rfl rfl rfl ⟨hU.out.below HBX.out (Nat.le_refl _), by rw [HNB.out]; rfl⟩
        · have q2 : ((t.size : Int) != 32) = true := by rw [bne_iff_ne]; omega
          have HNB : Hid (rdBox s = .error 6) := show _ = _ from by rw [HBB.out, if_neg ht2]
          clear ht2
          go_enter Tryd.func13, Tryd.ntmps13
          go_wp2_with fail
          refine HC.out.mono ?_
          rintro e w1 ⟨hb1, v, rfl, ho1⟩
          have HB1 : Hid (Below w.heap.size w w1) := show Below _ _ _ from HB0.out.trans (hb1.mono (by omega))
          have HZ1 : Hid (w1.heap[w.heap.size]? = some (.cells zlB.toArray 24 (0, 0))) := show _ = _ from (hb1.block _ (by omega)).trans HZ.out
          obtain ⟨q, cq, rfl⟩ := row_shape ho1
          have hz1 := heap_alloc_new w1 (.cells #[.slice q 2 cq] 45)
          have hl0 : (w1.alloc (.cells #[.slice q 2 cq] 45)).cell? ⟨w1.heap.size, 0, none⟩ = some (.slice q 2 cq) := by rw [cell_of_row _ _ _ _ _ _ hz1]; rfl
          have HBX : Hid (Below w.heap.size w (w1.alloc (.cells #[.slice q 2 cq] 45))) := show Below _ _ _ from bw_alloc HB1.out _
          have hz : (w1.alloc (.cells #[.slice q 2 cq] 45)).heap[w.heap.size]? = some (.cells zlB.toArray 24 (0, 0)) := (Below.heap_alloc _ _ _ (block_lt HZ1.out)).trans HZ1.out
          clear hb1 hz1
          obtain ⟨g, hq, hgl, hcs0, hcs1⟩ : ∃ g, q = some ⟨g, 0, none⟩ ∧ g < w1.heap.size ∧ w1.cell? ⟨g, 0, none⟩ = some (.string a) ∧ w1.cell? ⟨g, 1, none⟩ = some (.string t) := by
            rcases ho1.2 with ⟨_, h0⟩ | ⟨g, cap, cur, he, hb, hg, _, _, _, ht⟩
            · cases h0
            · injection he with e1 e2 e3
              refine ⟨g, e1, block_lt hg, ?_, ?_⟩ <;> rw [cell_of_row _ _ _ _ _ _ hg, ← Array.getElem?_toList, ← List.getElem?_take_of_lt (show _ < 2 * 1 by decide), ht] <;> rfl
          subst hq
          have g0 : (w1.alloc (.cells #[.slice (some ⟨g, 0, none⟩) 2 cq] 45)).cell? ⟨g, 0, none⟩ = some (.string a) := (Below.cell (bw_alloc (Below.refl w1.heap.size w1) _) (p := ⟨g, 0, none⟩) hgl).trans hcs0
          have g1 : (w1.alloc (.cells #[.slice (some ⟨g, 0, none⟩) 2 cq] 45)).cell? ⟨g, 1, none⟩ = some (.string t) := (Below.cell (bw_alloc (Below.refl w1.heap.size w1) _) (p := ⟨g, 1, none⟩) hgl).trans hcs1
          have HGL : Hid (g < (w1.alloc (.cells #[.slice (some ⟨g, 0, none⟩) 2 cq] 45)).heap.size ∧ w1.heap.size < (w1.alloc (.cells #[.slice (some ⟨g, 0, none⟩) 2 cq] 45)).heap.size) := show _ ∧ _ from ⟨by simp; omega, by simp⟩
          clear hcs0 hcs1 ho1 hgl
          go_wp2_with ((with_reducible refine wpList_store_whole rfl 24 (.tmp 2) (.tmp 35) rfl w.heap.size zlB zlB 24 rfl rfl hz rfl (batch_info _ rfl) batch_one ?_); intro w7 hU)
          exact post_cell_tmp 2 3 24 rfl w.heap.size _ zlB _ _ hU.out.at_ Tryd.underlying24 rfl (batch_info _ rfl) (.int .i64 6) rfl rfl rfl ⟨hU.out.below HBX.out (Nat.le_refl _), by rw [HNB.out]; rfl⟩
      · have q2 : ((n : Int) != 2) = true := by rw [bne_iff_ne]; omega
        have HNB : Hid (rdBox s = .error 6) := show _ = _ from rdBox_len HA.out (by rw [← HNN.out]; exact hn2)
        clear hc
        go_enter Tryd.func13, Tryd.ntmps13
        go_wp2_with fail
        refine HC.out.mono ?_
        rintro e w1 ⟨hb1, v, rfl, ho1⟩
        have HB1 : Hid (Below w.heap.size w w1) := show Below _ _ _ from HB0.out.trans (hb1.mono (by omega))
        have HZ1 : Hid (w1.heap[w.heap.size]? = some (.cells zlB.toArray 24 (0, 0))) := show _ = _ from (hb1.block _ (by omega)).trans HZ.out
        obtain ⟨q, cq, rfl⟩ := row_shape ho1
        have hz1 := heap_alloc_new w1 (.cells #[.slice q n cq] 45)
        have hl0 : (w1.alloc (.cells #[.slice q n cq] 45)).cell? ⟨w1.heap.size, 0, none⟩ = some (.slice q n cq) := by rw [cell_of_row _ _ _ _ _ _ hz1]; rfl
        have HBX : Hid (Below w.heap.size w (w1.alloc (.cells #[.slice q n cq] 45))) := show Below _ _ _ from bw_alloc HB1.out _
        have hz : (w1.alloc (.cells #[.slice q n cq] 45)).heap[w.heap.size]? = some (.cells zlB.toArray 24 (0, 0)) := (Below.heap_alloc _ _ _ (block_lt HZ1.out)).trans HZ1.out
        clear hb1 hz1
        go_wp2_with ((with_reducible refine wpList_store_whole rfl 24 (.tmp 2) (.tmp 35) rfl w.heap.size zlB zlB 24 rfl rfl hz rfl (batch_info _ rfl) batch_one ?_); intro w7 hU)
        exact post_cell_tmp 2 3 24 rfl w.heap.size _ zlB _ _ hU.out.at_ Tryd.underlying24 rfl (batch_info _ rfl) (.int .i64 6) rfl rfl rfl ⟨hU.out.below HBX.out (Nat.le_refl _), by rw [HNB.out]; rfl⟩
    · have HNB : Hid (rdBox s = .error 6) := show _ = _ from rdBox_err (e := 6) (by unfold rdAll; rw [HRL.out]; exact if_neg hc)
      have q1 : ((c : Int) != (s.size : Int)) = true := by rw [bne_iff_ne]; omega
      clear hc hs
      go_enter Tryd.func13, Tryd.ntmps13
      go_wp2_with fail
      refine HC.out.mono ?_
      rintro e w1 ⟨hb1, v, rfl, ho1⟩
      have HB1 : Hid (Below w.heap.size w w1) := show Below _ _ _ from HB0.out.trans (hb1.mono (by omega))
      have HZ1 : Hid (w1.heap[w.heap.size]? = some (.cells zlB.toArray 24 (0, 0))) := show _ = _ from (hb1.block _ (by omega)).trans HZ.out
      obtain ⟨q, cq, rfl⟩ := row_shape ho1
      have hz1 := heap_alloc_new w1 (.cells #[.slice q n cq] 45)
      have hl0 : (w1.alloc (.cells #[.slice q n cq] 45)).cell? ⟨w1.heap.size, 0, none⟩ = some (.slice q n cq) := by rw [cell_of_row _ _ _ _ _ _ hz1]; rfl
      have HBX : Hid (Below w.heap.size w (w1.alloc (.cells #[.slice q n cq] 45))) := show Below _ _ _ from bw_alloc HB1.out _
      have hz : (w1.alloc (.cells #[.slice q n cq] 45)).heap[w.heap.size]? = some (.cells zlB.toArray 24 (0, 0)) := (Below.heap_alloc _ _ _ (block_lt HZ1.out)).trans HZ1.out
      clear hb1 hz1
      go_wp2_with ((with_reducible refine wpList_store_whole rfl 24 (.tmp 2) (.tmp 35) rfl w.heap.size zlB zlB 24 rfl rfl hz rfl (batch_info _ rfl) batch_one ?_); intro w7 hU)
      exact post_cell_tmp 2 3 24 rfl w.heap.size _ zlB _ _ hU.out.at_ Tryd.underlying24 rfl (batch_info _ rfl) (.int .i64 6) rfl rfl rfl ⟨hU.out.below HBX.out (Nat.le_refl _), by rw [HNB.out]; rfl⟩
end Go.Proofs.YtbeooeihedhabaaDoor
