/- cavalcadelaw13.BoxWrites, BoxReads, BoxLands: what the calls do. -/
import Derived.Test.YtbeooeihedhabaaDoorBxAwake
import Derived.Test.YtbeooeihedhabaaDoorBxRLand
namespace Go.Proofs.YtbeooeihedhabaaDoor
open Go.RowKit
set_option maxHeartbeats 4000000
set_option maxRecDepth 4000
theorem boxWrites_any (b : BT) (v : Value) (w : World) (hv : PtsAt w v b.parts) (hm : b.parts.length ≤ 140737488351232) (hs : ∀ p ∈ b.parts, p.text.size ≤ 140737488351232) (hR : RoundsAt w) :
    Calls Tryd.prog 3 #[.agg (b.cells v).toArray] w fun e w' => e = .returned (.bool true) ∧ Below w.heap.size w w' := by
  obtain ⟨q, c, rfl⟩ := hv.shape
  have hb0 := bw_alloc (Below.refl w.heap.size w) (.cells (b.cells (.slice q b.parts.length c)).toArray 24)
  have hz := heap_alloc_new w (.cells (b.cells (.slice q b.parts.length c)).toArray 24)
  have HB0 := Lib.hid hb0
  have HZ := Lib.hid hz
  have HR := Lib.hid hR
  have HV := Lib.hid (hv.below hb0)
  have HL := light_any b _ _ (hv.below hb0) (Nat.le_trans hm (by decide)) (fun x hx => Nat.le_trans (hs x hx) (by decide))
  obtain ⟨g, hg⟩ : ∃ g, g = decide (weigh b.parts ≤ 600) := ⟨_, rfl⟩
  rw [← hg] at HL
  have HL := Lib.hid HL
  have HG := Lib.hid hg
  clear hb0 hv hm hs hR hg
  go_enter Tryd.func3, Tryd.ntmps3
  go_wp2_with
    (with_reducible refine wpList_load_rows rfl 24 (.tmp 1) rfl w.heap.size 0 (b.cells (.slice q b.parts.length c)) (b.cells (.slice q b.parts.length c)) 24 (0, 0) _ rfl (by assumption) id_at Tryd.underlying24 rfl (batch_info4 _ rfl) ?_)
  refine HL.out.mono ?_
  rintro e w1 ⟨rfl, hb1⟩
  have HB1 := Lib.hid (bw_call HB0.out hb1)
  have hz1 := (hb1.block _ (block_lt HZ.out)).trans HZ.out
  have HV1 := Lib.hid (HV.out.below hb1)
  clear hb1 hz HL HV
  cases g with
  | false =>
    go_wp2_with fail
    refine (awake13_any _ (HR.out.below HB1.out HR.out.1)).mono ?_
    rintro e w2 ⟨rfl, hb2⟩
    have HB2 := Lib.hid (bw_call HB1.out hb2)
    clear hb2
    go_wp2_with fail
    go_ret
    exact ⟨rfl, HB2.out⟩
  | true =>
    have hl : weigh b.parts ≤ 600 := by have := HG.out.symm; simpa using this
    have HLL := Lib.hid hl
    obtain ⟨S, hS⟩ : ∃ S, S = b.post.1 := ⟨_, rfl⟩
    obtain ⟨E, hE⟩ : ∃ E, E = b.post.2 := ⟨_, rfl⟩
    have HW := Lib.hid (post_any b _ w1 HV1.out hl (HR.out.below HB1.out HR.out.1))
    have HRW := Lib.hid (fun W hv => rpost_any b (.slice q b.parts.length c) W hv hl)
    rw [← hS, ← hE] at HW HRW
    have hse : (S.toList == S.toList) = true := beq_self_eq_true _
    have hee : (E == E) = true := beq_self_eq_true _
    clear hS hE hl
    go_wp2_with
      (with_reducible refine wpList_load_rows rfl 24 (.tmp 1) rfl w.heap.size 0 (b.cells (.slice q b.parts.length c)) (b.cells (.slice q b.parts.length c)) 24 (0, 0) _ rfl (by assumption) id_at Tryd.underlying24 rfl (batch_info4 _ rfl) ?_)
    refine HW.out.mono ?_
    rintro e w2 ⟨rfl, hb2⟩
    have HB2 := Lib.hid (bw_call HB1.out hb2)
    have hz2 := (hb2.block _ (block_lt hz1)).trans hz1
    have HV2 := Lib.hid (HV1.out.below hb2)
    clear hb2 hz1
    go_wp2_with
      (with_reducible refine wpList_load_rows rfl 24 (.tmp 1) rfl w.heap.size 0 (b.cells (.slice q b.parts.length c)) (b.cells (.slice q b.parts.length c)) 24 (0, 0) _ rfl (by assumption) id_at Tryd.underlying24 rfl (batch_info4 _ rfl) ?_)
    refine (HRW.out _ HV2.out).mono ?_
    rintro e w3 ⟨rfl, hb3⟩
    have HB3 := Lib.hid (bw_call HB2.out hb3)
    clear hb3 hz2
    go_wp2_with fail
    refine (awake13_any _ (HR.out.below HB3.out HR.out.1)).mono ?_
    rintro e w4 ⟨rfl, hb4⟩
    have HB4 := Lib.hid (bw_call HB3.out hb4)
    clear hb4
    go_wp2_with fail
    go_ret
    exact ⟨rfl, HB4.out⟩
theorem boxReads_any (s : ByteArray) (w : World) (hs : s.size ≤ 140737488355328) (hR : RoundsAt w) :
    Calls Tryd.prog 4 #[.string s] w fun e w' => e = .returned (.bool true) ∧ Below w.heap.size w w' := by
  have HR := Lib.hid hR
  cases hr : rdBox s with
  | error x =>
    have HC1 : Hid (Calls Tryd.prog 13 #[.string s] w fun e w' => e = .returned (.tuple #[.agg #[.int .i64 0, .int .i64 0, .int .i64 0, .slice none 0 0], .int .i64 x]) ∧ Below w.heap.size w w') := show Calls _ _ _ _ _ from by
      refine (bxread_any s w hs hR).mono ?_
      rintro e w' ⟨h1, h2⟩
      rw [hr] at h2
      exact ⟨h2, h1⟩
    have HC2 : Hid (∀ w, Calls Tryd.prog 14 #[.string s] w fun e w' => e = .returned (.tuple #[.agg #[.int .i64 0, .int .i64 0, .int .i64 0, .slice none 0 0], .int .i64 x]) ∧ Below w.heap.size w w') := show ∀ w, _ from fun w => by
      refine (bxrread_any s w hs).mono ?_
      rintro e w' ⟨h1, h2⟩
      rw [hr] at h2
      exact ⟨h2, h1⟩
    have hee : (x == x) = true := beq_self_eq_true _
    clear hr hs hR
    go_enter Tryd.func4, Tryd.ntmps4
    go_wp2_with fail
    refine HC1.out.mono ?_
    rintro e w1 ⟨rfl, hb1⟩
    have h1 := heap_alloc_new w1 (.cells #[.int .i64 0, .int .i64 0, .int .i64 0, .slice none 0 0] 24)
    have HB1 := Lib.hid (bw_alloc hb1 (.cells #[.int .i64 0, .int .i64 0, .int .i64 0, .slice none 0 0] 24))
    clear hb1
    go_wp2_with fail
    generalize w1.alloc (.cells #[.int .i64 0, .int .i64 0, .int .i64 0, .slice none 0 0] 24) = W1 at *
    refine (HC2.out _).mono ?_
    rintro e w2 ⟨rfl, hb2⟩
    have h2 := (hb2.block _ (block_lt h1)).trans h1
    have h3 := (Below.heap_alloc w2 (.cells #[.int .i64 0, .int .i64 0, .int .i64 0, .slice none 0 0] 24) _ (block_lt h2)).trans h2
    have h4 := heap_alloc_new w2 (.cells #[.int .i64 0, .int .i64 0, .int .i64 0, .slice none 0 0] 24)
    have HB2 := Lib.hid (bw_alloc (bw_call HB1.out hb2) (.cells #[.int .i64 0, .int .i64 0, .int .i64 0, .slice none 0 0] 24))
    clear hb2 h2 h1
    go_wp2_with fail
    generalize w2.alloc (.cells #[.int .i64 0, .int .i64 0, .int .i64 0, .slice none 0 0] 24) = W2 at *
    refine (awake13_any _ (HR.out.below HB2.out HR.out.1)).mono ?_
    rintro e w3 ⟨rfl, hb3⟩
    have h5 := (hb3.block _ (block_lt h3)).trans h3
    have h6 := (hb3.block _ (block_lt h4)).trans h4
    have HB3 := Lib.hid (bw_call HB2.out hb3)
    clear hb3 h3 h4
    have a0 : w3.cell? ⟨w1.heap.size, 0, none⟩ = some (.int .i64 0) := by rw [cell_of_row _ _ _ _ _ _ h5]; rfl
    have a1 : w3.cell? ⟨w1.heap.size, 1, none⟩ = some (.int .i64 0) := by rw [cell_of_row _ _ _ _ _ _ h5]; rfl
    have a2 : w3.cell? ⟨w1.heap.size, 2, none⟩ = some (.int .i64 0) := by rw [cell_of_row _ _ _ _ _ _ h5]; rfl
    have a3 : w3.cell? ⟨w1.heap.size, 3, none⟩ = some (.slice none 0 0) := by rw [cell_of_row _ _ _ _ _ _ h5]; rfl
    have b0 : w3.cell? ⟨w2.heap.size, 0, none⟩ = some (.int .i64 0) := by rw [cell_of_row _ _ _ _ _ _ h6]; rfl
    have b1 : w3.cell? ⟨w2.heap.size, 1, none⟩ = some (.int .i64 0) := by rw [cell_of_row _ _ _ _ _ _ h6]; rfl
    have b2 : w3.cell? ⟨w2.heap.size, 2, none⟩ = some (.int .i64 0) := by rw [cell_of_row _ _ _ _ _ _ h6]; rfl
    have b3 : w3.cell? ⟨w2.heap.size, 3, none⟩ = some (.slice none 0 0) := by rw [cell_of_row _ _ _ _ _ _ h6]; rfl
    have HS : Hid (Calls Tryd.prog 15 #[.agg #[.int .i64 0, .int .i64 0, .int .i64 0, .slice none 0 0], .agg #[.int .i64 0, .int .i64 0, .int .i64 0, .slice none 0 0]] w3 fun e w' => e = .returned (.bool true) ∧ Below w3.heap.size w3 w') := show Calls _ _ _ _ _ from by
      have h := batches_any BT.zero BT.zero (.slice none 0 0) (.slice none 0 0) w3 (fun _ => True) (fun _ => True) (RdRows.nil _ _ _) (RdRows.nil _ _ _) (Nat.zero_le _)
      rw [decide_eq_true rfl] at h
      exact h
    clear h5 h6
    go_wp2_with fail
    refine HS.out.mono ?_
    rintro e w4 ⟨rfl, hb4⟩
    have HB4 := Lib.hid (bw_call HB3.out hb4)
    clear hb4
    go_wp2_with fail
    go_ret
    exact ⟨rfl, HB4.out⟩
  | ok b =>
    obtain ⟨sq, fs, bf, ps⟩ := b
    obtain ⟨np, hnp⟩ : ∃ np, np = ps.length := ⟨_, rfl⟩
    have hp5 : ps.length ≤ 512 := rdBox_parts hr
    have HC1 : Hid (Calls Tryd.prog 13 #[.string s] w fun e w' => (∃ q c, e = .returned (.tuple #[.agg #[.int .i64 sq, .int .i64 fs, .int .i64 bf, .slice q np c], .int .i64 0]) ∧ RdRows w' (.slice q np c) 2 (ps.map PT.cells) (fun k => w.heap.size ≤ k)) ∧ Below w.heap.size w w') := show Calls _ _ _ _ _ from by
      refine (bxread_any s w hs hR).mono ?_
      rintro e w' ⟨h1, h2⟩
      rw [hr] at h2
      obtain ⟨v', he, hr'⟩ := h2
      obtain ⟨A, c', hv', _⟩ := id hr'
      dsimp only at hv'
      rw [List.length_map, ← hnp] at hv'
      subst hv'
      exact ⟨⟨A, c', he, hr'⟩, h1⟩
    have HC2 : Hid (∀ w, Calls Tryd.prog 14 #[.string s] w fun e w' => (∃ q c, e = .returned (.tuple #[.agg #[.int .i64 sq, .int .i64 fs, .int .i64 bf, .slice q np c], .int .i64 0]) ∧ RdRows w' (.slice q np c) 2 (ps.map PT.cells) (fun k => w.heap.size ≤ k)) ∧ Below w.heap.size w w') := show ∀ w, _ from fun w => by
      refine (bxrread_any s w hs).mono ?_
      rintro e w' ⟨h1, h2⟩
      rw [hr] at h2
      obtain ⟨v', he, hr'⟩ := h2
      obtain ⟨A, c', hv', _⟩ := id hr'
      dsimp only at hv'
      rw [List.length_map, ← hnp] at hv'
      subst hv'
      exact ⟨⟨A, c', he, hr'⟩, h1⟩
    have HP5 := Lib.hid hp5
    clear hr hs hR hnp hp5
    go_enter Tryd.func4, Tryd.ntmps4
    go_wp2_with fail
    refine HC1.out.mono ?_
    rintro e w1 ⟨⟨q1, c1, rfl, hr1⟩, hb1⟩
    have h1 := heap_alloc_new w1 (.cells #[.int .i64 sq, .int .i64 fs, .int .i64 bf, .slice q1 np c1] 24)
    have HR1 := Lib.hid (hr1.kept (W' := w1.alloc (.cells #[.int .i64 sq, .int .i64 fs, .int .i64 bf, .slice q1 np c1] 24)) (by simp) fun k hk _ => (bw_alloc (Below.refl w1.heap.size w1) _).block k hk)
    have HB1 := Lib.hid (bw_alloc hb1 (.cells #[.int .i64 sq, .int .i64 fs, .int .i64 bf, .slice q1 np c1] 24))
    clear hb1 hr1
    go_wp2_with fail
    generalize w1.alloc (.cells #[.int .i64 sq, .int .i64 fs, .int .i64 bf, .slice q1 np c1] 24) = W1 at *
    refine (HC2.out _).mono ?_
    rintro e w2 ⟨⟨q2, c2, rfl, hr2⟩, hb2⟩
    have h2 := (hb2.block _ (block_lt h1)).trans h1
    have h3 := (Below.heap_alloc w2 (.cells #[.int .i64 sq, .int .i64 fs, .int .i64 bf, .slice q2 np c2] 24) _ (block_lt h2)).trans h2
    have h4 := heap_alloc_new w2 (.cells #[.int .i64 sq, .int .i64 fs, .int .i64 bf, .slice q2 np c2] 24)
    have HR2 := Lib.hid (hr2.kept (W' := w2.alloc (.cells #[.int .i64 sq, .int .i64 fs, .int .i64 bf, .slice q2 np c2] 24)) (by simp) fun k hk _ => (bw_alloc (Below.refl w2.heap.size w2) _).block k hk)
    have hbb := bw_alloc hb2 (.cells #[.int .i64 sq, .int .i64 fs, .int .i64 bf, .slice q2 np c2] 24)
    have HR1b := Lib.hid (HR1.out.kept hbb.size fun k hk _ => hbb.block k hk)
    have HB2 := Lib.hid (bw_alloc (bw_call HB1.out hb2) (.cells #[.int .i64 sq, .int .i64 fs, .int .i64 bf, .slice q2 np c2] 24))
    clear hb2 h2 h1 hr2 hbb HR1
    go_wp2_with fail
    generalize w2.alloc (.cells #[.int .i64 sq, .int .i64 fs, .int .i64 bf, .slice q2 np c2] 24) = W2 at *
    refine (awake13_any _ (HR.out.below HB2.out HR.out.1)).mono ?_
    rintro e w3 ⟨rfl, hb3⟩
    have h5 := (hb3.block _ (block_lt h3)).trans h3
    have h6 := (hb3.block _ (block_lt h4)).trans h4
    have HR1c := Lib.hid (HR1b.out.kept hb3.size fun k hk _ => hb3.block k hk)
    have HR2c := Lib.hid (HR2.out.kept hb3.size fun k hk _ => hb3.block k hk)
    have HB3 := Lib.hid (bw_call HB2.out hb3)
    clear hb3 h3 h4 HR1b HR2
    have a0 : w3.cell? ⟨w1.heap.size, 0, none⟩ = some (.int .i64 sq) := by rw [cell_of_row _ _ _ _ _ _ h5]; rfl
    have a1 : w3.cell? ⟨w1.heap.size, 1, none⟩ = some (.int .i64 fs) := by rw [cell_of_row _ _ _ _ _ _ h5]; rfl
    have a2 : w3.cell? ⟨w1.heap.size, 2, none⟩ = some (.int .i64 bf) := by rw [cell_of_row _ _ _ _ _ _ h5]; rfl
    have a3 : w3.cell? ⟨w1.heap.size, 3, none⟩ = some (.slice q1 np c1) := by rw [cell_of_row _ _ _ _ _ _ h5]; rfl
    have b0 : w3.cell? ⟨w2.heap.size, 0, none⟩ = some (.int .i64 sq) := by rw [cell_of_row _ _ _ _ _ _ h6]; rfl
    have b1 : w3.cell? ⟨w2.heap.size, 1, none⟩ = some (.int .i64 fs) := by rw [cell_of_row _ _ _ _ _ _ h6]; rfl
    have b2 : w3.cell? ⟨w2.heap.size, 2, none⟩ = some (.int .i64 bf) := by rw [cell_of_row _ _ _ _ _ _ h6]; rfl
    have b3 : w3.cell? ⟨w2.heap.size, 3, none⟩ = some (.slice q2 np c2) := by rw [cell_of_row _ _ _ _ _ _ h6]; rfl
    have HS : Hid (Calls Tryd.prog 15 #[.agg #[.int .i64 sq, .int .i64 fs, .int .i64 bf, .slice q1 np c1], .agg #[.int .i64 sq, .int .i64 fs, .int .i64 bf, .slice q2 np c2]] w3 fun e w' => e = .returned (.bool true) ∧ Below w3.heap.size w3 w') := show Calls _ _ _ _ _ from by
      have h := batches_any ⟨sq, fs, bf, ps⟩ ⟨sq, fs, bf, ps⟩ (.slice q1 np c1) (.slice q2 np c2) w3 _ _ HR1c.out HR2c.out (Nat.le_trans HP5.out (by decide))
      rw [decide_eq_true rfl] at h
      exact h
    clear h5 h6
    go_wp2_with fail
    refine HS.out.mono ?_
    rintro e w4 ⟨rfl, hb4⟩
    have HB4 := Lib.hid (bw_call HB3.out hb4)
    clear hb4
    go_wp2_with fail
    go_ret
    exact ⟨rfl, HB4.out⟩
theorem step_len {num : Int} {acc : List (Int × BT)} {x : IT} (h : acc.length ≤ 1099511627777) : (landStep num acc x).length ≤ 1099511627777 := by
  unfold landStep
  split
  · split
    · rename_i b hb
      split
      · rename_i hs
        have := rdBox_num hb
        rw [List.length_append, List.length_singleton]
        omega
      · exact h
    · exact h
  · exact h
theorem land_len (l : List BK) : (land l).length ≤ 1099511627777 :=
  foldl_keep (P := fun (acc : List (Int × BT)) => acc.length ≤ 1099511627777) (fun _ b h => foldl_keep (P := fun (acc : List (Int × BT)) => acc.length ≤ 1099511627777) (fun _ _ h => step_len h) b.items _ h) l [] (Nat.zero_le _)
theorem BksAt.take {w : World} {q : Option Addr} {n c : Nat} {l : List BK} (h : BksAt w (.slice q n c) l) (k c' : Nat) : BksAt w (.slice q (l.take k).length c') (l.take k) := by
  refine ⟨?_, fun x hx => h.2 x (List.mem_of_mem_take hx)⟩
  obtain ⟨A, c2, e, r⟩ := h.1
  injection e with e1 e2 e3
  subst e1
  refine ⟨q, c', by rw [List.length_map], fun j hj => ?_⟩
  rw [List.length_map, List.length_take] at hj
  obtain ⟨b, off, h1, h2, h3, h4⟩ := r j (by rw [List.length_map]; omega)
  refine ⟨b, off, h1, h2, h3, fun i u hu => h4 i u ?_⟩
  rw [List.getElem_map, List.getElem_take] at hu
  rw [List.getElem_map]
  exact hu
theorem boxLands_any (q : Option Addr) (c : Nat) (bks : List BK) (w : World) (h : BksAt w (.slice q bks.length c) bks) (hlc : bks.length ≤ c) (hlen : bks.length ≤ 140737488351232) (hR : RoundsAt w) :
    Calls Tryd.prog 5 #[.slice q bks.length c] w fun e w' => e = .returned (.bool true) ∧ Below w.heap.size w w' := by
  have HR := Lib.hid hR
  obtain ⟨n, hn⟩ : ∃ n, n = bks.length := ⟨_, rfl⟩
  rw [← hn] at h hlc hlen ⊢
  by_cases h20 : 20 < n
  · have d0 : decide ((20 : Int) < n) = true := decide_eq_true (by omega)
    have d1 : (20 : Int) ≤ c := by omega
    have hl : (bks.take 20).length = 20 := by rw [List.length_take]; omega
    have h2 := h.take 20 c
    rw [hl] at h2
    have HA := Lib.hid h2
    have HLL : Hid ((land (bks.take 20)).length ≤ 1099511627777) := show _ ≤ _ from land_len _
    have HL : Hid (∀ W, BksAt W (.slice q 20 c) (bks.take 20) → RoundsAt W → Calls Tryd.prog 17 #[.slice q 20 c] W fun e w' => ∃ v l, e = .returned v ∧ prs l = land (bks.take 20) ∧ LdAt W.heap.size W w' v l) := show ∀ W, _ from fun W hW hRW => by
      have h3 := bxland_any q c (bks.take 20) W (by rw [hl]; exact hW) (by rw [hl]; decide) hRW
      rw [hl] at h3
      exact h3
    have HRL : Hid (∀ W, BksAt W (.slice q 20 c) (bks.take 20) → Calls Tryd.prog 18 #[.slice q 20 c] W fun e w' => ∃ v l, e = .returned v ∧ prs l = land (bks.take 20) ∧ LdAt W.heap.size W w' v l) := show ∀ W, _ from fun W hW => by
      have h3 := bxrland_any q c (bks.take 20) W (by rw [hl]; exact hW) (by rw [hl]; decide)
      rw [hl] at h3
      exact h3
    clear h hR hl h2 hn
    generalize bks.take 20 = bks at *
    go_enter Tryd.func5, Tryd.ntmps5
    go_wp2_with fail
    refine (awake13_any _ HR.out).mono ?_
    rintro e w1 ⟨rfl, hb1⟩
    have HA1 := Lib.hid (HA.out.below hb1)
    have HB1 := Lib.hid hb1
    clear hb1
    go_wp2_with fail
    refine (HL.out w1 HA1.out (HR.out.below HB1.out HR.out.1)).mono ?_
    rintro e w2 ⟨va, la, rfl, hpa, hda⟩
    have HA2 := Lib.hid (HA1.out.below hda.b)
    have HS2 := Lib.hid (hda.ls (prs_parts hpa))
    have HB2 := Lib.hid (bw_call HB1.out hda.b)
    have HP2 := Lib.hid hpa
    have hnn : la.length ≤ 9223372036854775806 := by
      have h2 := congrArg List.length hpa
      rw [prs_len] at h2
      have := HLL.out
      omega
    have HNN := Lib.hid hnn
    obtain ⟨qa, ca, rfl⟩ := row_shape hda.own
    clear hpa hda hnn
    go_wp2_with fail
    refine (HRL.out w2 HA2.out).mono ?_
    rintro e w3 ⟨vb, lb, rfl, hpb, hdb⟩
    have HS3 := Lib.hid (hdb.ls (prs_parts hpb))
    have HS2b := Lib.hid (HS2.out.below hdb.b)
    have HB3 := Lib.hid (bw_call HB2.out hdb.b)
    have HE : Hid (decide (prs la = prs lb) = true) := show _ = _ from decide_eq_true (by rw [HP2.out, hpb])
    obtain ⟨qb, cb, rfl⟩ := row_shape hdb.own
    clear hpb hdb
    go_wp2_with fail
    refine (rsame13_any la lb _ _ w3 HS2b.out HS3.out HNN.out).mono ?_
    rintro e w4 ⟨rfl, hb4⟩
    rw [HE.out]
    have HB4 := Lib.hid (bw_call HB3.out hb4)
    clear hb4
    go_wp2_with fail
    go_ret
    exact ⟨rfl, HB4.out⟩
  · have d0 : decide ((20 : Int) < n) = false := decide_eq_false (by omega)
    have HA := Lib.hid h
    have HLL : Hid ((land bks).length ≤ 1099511627777) := show _ ≤ _ from land_len _
    have HL : Hid (∀ W, BksAt W (.slice q n c) bks → RoundsAt W → Calls Tryd.prog 17 #[.slice q n c] W fun e w' => ∃ v l, e = .returned v ∧ prs l = land bks ∧ LdAt W.heap.size W w' v l) := show ∀ W, _ from fun W hW hRW => by
      have h3 := bxland_any q c bks W (by rw [← hn]; exact hW) (by omega) hRW
      rw [← hn] at h3
      exact h3
    have HRL : Hid (∀ W, BksAt W (.slice q n c) bks → Calls Tryd.prog 18 #[.slice q n c] W fun e w' => ∃ v l, e = .returned v ∧ prs l = land bks ∧ LdAt W.heap.size W w' v l) := show ∀ W, _ from fun W hW => by
      have h3 := bxrland_any q c bks W (by rw [← hn]; exact hW) (by omega)
      rw [← hn] at h3
      exact h3
    clear h hR hn
    go_enter Tryd.func5, Tryd.ntmps5
    go_wp2_with fail
    refine (awake13_any _ HR.out).mono ?_
    rintro e w1 ⟨rfl, hb1⟩
    have HA1 := Lib.hid (HA.out.below hb1)
    have HB1 := Lib.hid hb1
    clear hb1
    go_wp2_with fail
    refine (HL.out w1 HA1.out (HR.out.below HB1.out HR.out.1)).mono ?_
    rintro e w2 ⟨va, la, rfl, hpa, hda⟩
    have HA2 := Lib.hid (HA1.out.below hda.b)
    have HS2 := Lib.hid (hda.ls (prs_parts hpa))
    have HB2 := Lib.hid (bw_call HB1.out hda.b)
    have HP2 := Lib.hid hpa
    have hnn : la.length ≤ 9223372036854775806 := by
      have h2 := congrArg List.length hpa
      rw [prs_len] at h2
      have := HLL.out
      omega
    have HNN := Lib.hid hnn
    obtain ⟨qa, ca, rfl⟩ := row_shape hda.own
    clear hpa hda hnn
    go_wp2_with fail
    refine (HRL.out w2 HA2.out).mono ?_
    rintro e w3 ⟨vb, lb, rfl, hpb, hdb⟩
    have HS3 := Lib.hid (hdb.ls (prs_parts hpb))
    have HS2b := Lib.hid (HS2.out.below hdb.b)
    have HB3 := Lib.hid (bw_call HB2.out hdb.b)
    have HE : Hid (decide (prs la = prs lb) = true) := show _ = _ from decide_eq_true (by rw [HP2.out, hpb])
    obtain ⟨qb, cb, rfl⟩ := row_shape hdb.own
    clear hpb hdb
    go_wp2_with fail
    refine (rsame13_any la lb _ _ w3 HS2b.out HS3.out HNN.out).mono ?_
    rintro e w4 ⟨rfl, hb4⟩
    rw [HE.out]
    have HB4 := Lib.hid (bw_call HB3.out hb4)
    clear hb4
    go_wp2_with fail
    go_ret
    exact ⟨rfl, HB4.out⟩
end Go.Proofs.YtbeooeihedhabaaDoor
