/- notes.link, notes.Link: what the calls do. -/
import Derived.Test.YtckfdmkjeocadaaDoorNotes
import Derived.Test.YtckfdmkjeocadaaDoorReg
namespace Go.Proofs.YtckfdmkjeocadaaDoor
open Go.RowKit
set_option maxHeartbeats 2000000
set_option maxRecDepth 4000
structure LkAt (w W : World) (r : RC) : Prop where
  rc : RcAt w W r
  z : W.heap[w.heap.size + 1]? = some (.cells zl32.toArray 23 (0, 0))
theorem LkAt.next {w W W' : World} {r : RC} (h : LkAt w W r) (hb : Below W.heap.size W W') : LkAt w W' r := ⟨h.rc.next hb, (hb.block _ (block_lt h.z)).trans h.z⟩
theorem LkAt.grown {w W W' : World} {r : RC} {row : Option Nat} (h : LkAt w W r) (hg : W.grownBy W' row) (hr : ∀ k, row = some k → w.heap.size + 1 < k) : LkAt w W' r :=
  ⟨h.rc.grown hg (fun k hk => by have := hr k hk; omega), (hg.block _ (block_lt h.z) (fun e => by have := hr _ e.symm; omega)).trans h.z⟩
theorem RC.good_is {r : RC} (h : r.good = true) : (0 ≤ r.index ∧ r.index ≤ 1099511627776) ∧ (0 ≤ r.time ∧ r.time ≤ 1099511627776) ∧ (r.kind = 1 ∨ r.kind = 2) ∧ r.body.size ≤ 656 := by
  simp only [RC.good, numOk, Bool.and_eq_true, Bool.or_eq_true, decide_eq_true_eq] at h
  exact ⟨h.1.1.1, h.1.1.2, h.1.2, h.2⟩
def RC.nums (r : RC) : List Nat := [r.index.toNat, r.kind.toNat, r.time.toNat]
theorem RC.ints_nums {r : RC} (h : r.good = true) : ints r.nums = [.int .i64 r.index, .int .i64 r.kind, .int .i64 r.time] := by
  have h2 := RC.good_is h
  simp only [ints, RC.nums, List.map_cons, List.map_nil, Int.toNat_of_nonneg (show 0 ≤ r.index by omega), Int.toNat_of_nonneg (show 0 ≤ r.kind by omega), Int.toNat_of_nonneg (show 0 ≤ r.time by omega)]
theorem RC.nums_le {r : RC} (h : r.good = true) : ∀ x ∈ r.nums, x ≤ 1099511627776 := by
  have h2 := RC.good_is h
  intro x hx
  simp only [RC.nums, List.mem_cons, List.not_mem_nil, or_false] at hx
  omega
def RC.parts (r : RC) : List ByteArray := numSs r.nums ++ [r.body]
theorem RC.parts_tot {r : RC} (h : r.good = true) : tot r.parts ≤ 700 := by
  have h1 := numSs_tot r.nums (RC.nums_le h)
  have h2 := RC.good_is h
  rw [RC.parts, tot_append]
  simp only [RC.nums, List.length_cons, List.length_nil] at h1
  have h3 : tot [r.body] = r.body.size := by simp [tot]
  simp only [RC.nums]
  omega
theorem RC.laid_size {r : RC} (h : r.good = true) : r.laid.length ≤ 800 := by
  have h1 := encList_length (ls := r.parts) (show 4 ≤ 1024 by decide) (Nat.le_trans (RC.parts_tot h) (by decide))
  have h2 := RC.parts_tot h
  have h3 : r.parts.length = 4 := rfl
  have h4 : r.laid = encList r.parts := rfl
  rw [h4]
  omega
theorem RC.link_length (r : RC) : r.link.length = 32 := sha_length _
theorem rowat {w : World} {b : Nat} {cs : List Value} {t : TypeId} {fr : Nat × Nat} (h : w.heap[b]? = some (.cells cs.toArray t fr)) : ∀ j u, cs[j]? = some u → w.cell? ((⟨b, 0, none⟩ : Addr).add j) = some u := fun j u hj => by
  have hadd : (⟨b, 0, none⟩ : Addr).add j = ⟨b, j, none⟩ := by unfold Addr.add; split <;> simp_all
  rw [hadd, cell_of_row w b j _ _ _ h, List.getElem?_toArray]
  exact hj
theorem keep_row {W W' : World} (hb : Below W.heap.size W W') {b : Nat} {o : Obj} (h : W.heap[b]? = some o) : W'.heap[b]? = some o := (hb.block b (block_lt h)).trans h
theorem own_above {w : World} {base n size m B : Nat} {e : TypeId} {v : Value} {xs : List Value} (h : w.ownsRow base e size v n xs) (h1 : m < B) (h2 : B ≤ base) : ∀ k, v.ownBlock = some k → m < k := fun k hk => by
  have := own_blk h k hk
  omega
theorem rd_parts {w : World} {r : RC} {base : Nat} {v : Value} {k : Nat} (h : w.ownsRow base 9 1 v (3 + 1) (strs (numSs r.nums) ++ strs [r.body])) (h0 : k < w.heap.size) : RdStrs w v r.parts :=
  RdStrs.of_own (by rw [← strs_app] at h; exact h) (show 4 ≤ _ by decide) (Nat.lt_of_le_of_lt (Nat.zero_le _) h0)
theorem link_any (r : RC) (w : World) (hr : r.wf) (hg : r.good = true) (hR : RoundsAt w) :
    Calls Tryd.prog 110 #[.agg r.cells.toArray] w fun e w' => e = .returned (.agg (u8s r.link).toArray) ∧ Below w.heap.size w w' := by
  have HRW := Lib.hid hr
  have HIN := Lib.hid (RC.ints_nums hg)
  have HNL := Lib.hid (mem_get (RC.nums_le hg))
  have HPT := Lib.hid (RC.parts_tot hg)
  have HLS := Lib.hid (RC.laid_size hg)
  have HR := Lib.hid hR
  have hT0 : LkAt w ((w.alloc (.cells r.cells.toArray 61)).alloc (.cells zl32.toArray 23)) r := ⟨(RcAt.start w r).next (bw_alloc (Below.refl _ _) _), heap_alloc2_new w _ _⟩
  have KEEP : Hid (∀ W', LkAt w W' r → (LkAt w W' r ∧ W'.cell? ⟨w.heap.size, 0, none⟩ = some (.int .i64 r.index) ∧ W'.cell? ⟨w.heap.size, 1, none⟩ = some (.int .i64 r.kind) ∧ W'.cell? ⟨w.heap.size, 2, none⟩ = some (.int .i64 r.time) ∧ W'.cell? ⟨w.heap.size, 3, none⟩ = some (.string r.body))) := show ∀ W', _ from fun W' h => ⟨h, h.rc.cell 0 _ rfl, h.rc.cell 1 _ rfl, h.rc.cell 2 _ rfl, h.rc.cell 3 _ rfl⟩
  clear hr hg hR
  go_enter Tryd.func110, Tryd.ntmps110
  go_wp2_with fail
  generalize hW0 : (w.alloc (.cells r.cells.toArray 61)).alloc (.cells zl32.toArray 23) = W0 at *
  clear hW0
  have LAYR := fun bn W (h : W.heap[bn]? = some (.cells #[.int .i64 r.index, .int .i64 r.kind, .int .i64 r.time] 3 (0, 0))) => (show Calls Tryd.prog 113 #[.slice (some ⟨bn, 0, none⟩) 3 3] W fun e w' => (∃ v, e = .returned v ∧ w'.ownsRow W.heap.size 9 1 v 3 (strs (numSs r.nums))) ∧ Below W.heap.size W w' from lay_any r.nums W bn HNL.out (show 3 ≤ 16 by decide) (by rw [HIN.out]; exact h))
  have hs0 := block_lt hT0.z
  have hs1 : ∀ X, (W0.alloc X).heap.size = W0.heap.size + 1 := fun X => by simp
  have hs2 : ∀ X Y, ((W0.alloc X).alloc Y).heap.size = W0.heap.size + 2 := fun X Y => by simp
  have hk1 : ∀ X, LkAt w (W0.alloc X) r := fun X => hT0.next (bw_alloc (Below.refl _ _) _)
  have hk2 : ∀ X Y, LkAt w ((W0.alloc X).alloc Y) r := fun X Y => hT0.next (bw_alloc (bw_alloc (Below.refl _ _) _) _)
  go_region_held3 (fun W' => LkAt w W' r ∧ W'.cell? ⟨w.heap.size, 0, none⟩ = some (.int .i64 r.index) ∧ W'.cell? ⟨w.heap.size, 1, none⟩ = some (.int .i64 r.kind) ∧ W'.cell? ⟨w.heap.size, 2, none⟩ = some (.int .i64 r.time) ∧ W'.cell? ⟨w.heap.size, 3, none⟩ = some (.string r.body))
    (first | assumption | exact KEEP.out _ hT0 | exact KEEP.out _ (hT0.next (Below.refl _ _).drew) | exact KEEP.out _ (hk1 _) | exact KEEP.out _ ((hk1 _).next (Below.refl _ _).drew) | exact KEEP.out _ (hk2 _ _) | exact KEEP.out _ ((hk2 _ _).next (Below.refl _ _).drew) | exact KEEP.out _ hTN | exact KEEP.out _ (hTN.next (bw_alloc (Below.refl _ _) _)) | exact KEEP.out _ hTA | exact KEEP.out _ hTW | fail)
    (first
      | (go_at_call 113; refine (LAYR _ _ (by first | exact heap_alloc_new W0 _ | exact heap_alloc2_new W0 _ _ | exact (Below.heap_alloc (W0.alloc _) _ _ (by simp)).trans (heap_alloc_new W0 _))).mono ?_; rintro e w' ⟨⟨v, rfl, hO⟩, hbN⟩; have hTN : LkAt w w' r := LkAt.next (And.left (by assumption)) hbN)
      | (go_at_call 112; refine (nwrite_ok _ r.parts _ hrd (show 4 ≤ 1024 by decide) (Nat.le_trans HPT.out (by decide))).mono ?_; rintro e w6 ⟨rfl, hb6⟩; have hTW := hTA.next hb6)
      | (rw [if_pos (by rfl)]; refine wp_append_own _ (.tmp 13) (.tmp 16) 80 rfl _ 9 _ (.string ByteArray.empty) 1 16 Tryd.underlying80 str_info rfl rfl rfl rfl (by decide) _ 3 _ (by rfl) (hO.alloc _) ⟨w'.heap.size, 0, none⟩ 1 1 (strs [r.body]) (by rfl) rfl news_at (strs_cells _) (by unfold maxLen; omega) (by omega) (Nat.le_trans hbN.size (by simp)) ?_; intro v5 w5 hO5 hg5 _; have hTA := (hTN.next (bw_alloc (Below.refl _ _) _)).grown hg5 (own_above hO hs0 (by simp <;> omega)); have hrd := rd_parts hO5 (block_lt hTA.z))
      | (rw [if_pos (by rfl)]; refine wp_append_own _ (.tmp 13) (.tmp 16) 80 rfl _ 9 _ (.string ByteArray.empty) 1 16 Tryd.underlying80 str_info rfl rfl rfl rfl (by decide) _ 3 _ (by rfl) hO ⟨W0.heap.size + 1, 0, none⟩ 1 1 (strs [r.body]) (by rfl) rfl (rowat (keep_row hbN (by exact heap_alloc2_new W0 _ _))) (strs_cells _) (by unfold maxLen; omega) (by omega) hbN.size ?_; intro v5 w5 hO5 hg5 _; have hTA := hTN.grown hg5 (own_above hO hs0 (by simp <;> omega)); have hrd := rd_parts hO5 (block_lt hTA.z))
      | (rw [if_pos (by rfl)]; refine wp_append_own _ (.tmp 13) (.tmp 16) 80 rfl _ 9 _ (.string ByteArray.empty) 1 16 Tryd.underlying80 str_info rfl rfl rfl rfl (by decide) _ 3 _ (by rfl) hO ⟨W0.heap.size, 0, none⟩ 1 1 (strs [r.body]) (by rfl) rfl (rowat (keep_row hbN (by exact (Below.heap_alloc (W0.alloc _) _ _ (by simp)).trans (heap_alloc_new W0 _)))) (strs_cells _) (by unfold maxLen; omega) (by omega) hbN.size ?_; intro v5 w5 hO5 hg5 _; have hTA := hTN.grown hg5 (own_above hO hs0 (by simp <;> omega)); have hrd := rd_parts hO5 (block_lt hTA.z))
      )
  all_goals
    have hg6 := hTW.rc.2
    have hz6 := hTW.z
    have HT6 := Lib.hid hTW
    clear hTW hTA hTN hb6 hrd hO hO5 hg5 hbN LAYR KEEP hs0 hs1 hs2 hk1 hk2 hT0
    go_wp2_with (with_reducible refine wpList_load_rows rfl 23 (.tmp 21) rfl w.heap.size 4 (u8s r.prev) r.cells 61 (0, 0) _ rfl hg6 RC.at_prev Tryd.underlying23 rfl (hash_info HRW.out.prev) ?_)
    refine (chain_any r.prev (bstr (encList r.parts)) _ HRW.out.prev (by rw [bstr_size]; exact Nat.le_trans HLS.out (by decide)) (HR.out.below HT6.out.rc.1 HR.out.1)).mono ?_
    rintro e w7 ⟨rfl, hb7⟩
    rw [show sha (r.prev ++ (bstr (encList r.parts)).data.toList) = r.link from rfl]
    have hz7 := (hb7.block _ (block_lt hz6)).trans hz6
    have HB7 := Lib.hid (bw_call HT6.out.rc.1 hb7)
    clear hb7 hz6 hg6
    go_wp2_with ((with_reducible refine wpList_store_whole rfl 23 (.tmp 2) (.tmp 24) rfl (w.heap.size + 1) (u8s r.link) zl32 23 rfl rfl hz7 (by rw [u8s_length, RC.link_length, zl32_length]) (hash_info r.link_length) (u8s_one _) ?_); intro w8 hU8)
    exact post_cell 2 23 rfl (w.heap.size + 1) _ (u8s r.link) _ _ hU8.out.at_ Tryd.underlying23 rfl (hash_info r.link_length) rfl rfl ⟨rfl, hU8.out.below HB7.out (by omega)⟩
theorem hash_cells {r : RC} (h : r.wf) {l : List UInt8} (hl : l.length = 32) : splice r.cells 36 (u8s l) = ({ r with hash := l } : RC).cells := by
  have h2 : (u8s r.prev).length = 32 := by rw [u8s_length]; exact h.prev
  have h3 : (u8s r.hash).length = 32 := by rw [u8s_length]; exact h.hash
  have h4 : (u8s l).length = 32 := by rw [u8s_length]; exact hl
  unfold splice
  rw [List.drop_eq_nil_of_le (by rw [RC.cells_length h.prev h.hash, h4]; decide), List.append_nil]
  show List.take 36 r.cells ++ _ = [Value.int .i64 r.index, .int .i64 r.kind, .int .i64 r.time, .string r.body] ++ (u8s r.prev ++ u8s l)
  rw [RC.cells, ← List.append_assoc, List.take_left' (by simp [h2]), List.append_assoc]
/-- the receipt behind another one, or what is wrong -/
def linkRes (prev : List UInt8) (index kind time : Int) (body : ByteArray) : RC := if (RC.mk index kind time body prev z32).good = true then linkOf prev index kind time body else RC.zero
def linkErr (prev : List UInt8) (index kind time : Int) (body : ByteArray) : Int := if (RC.mk index kind time body prev z32).good = true then 0 else 2
theorem linkOf_wf {prev : List UInt8} {index kind time : Int} {body : ByteArray} (h : (RC.mk index kind time body prev z32).wf) : (linkOf prev index kind time body).wf := ⟨h.index, h.kind, h.time, h.body, h.prev, RC.link_length _⟩
theorem linkRes_wf {prev : List UInt8} {index kind time : Int} {body : ByteArray} (h : (RC.mk index kind time body prev z32).wf) : (linkRes prev index kind time body).wf := by
  unfold linkRes
  split
  · exact linkOf_wf h
  · exact RC.zero_wf
theorem zlRc_info : (Tryd.prog.info? 61).map (·.size) = some zlRc.length := by kernel_rfl
theorem zlRc_one : ∀ v ∈ zlRc, v.oneCell' = true := by decide
theorem nlink_any (prev : List UInt8) (index kind time : Int) (body : ByteArray) (w : World) (hr : (RC.mk index kind time body prev z32).wf) (hR : RoundsAt w) :
    Calls Tryd.prog 104 #[.agg (u8s prev).toArray, .int .i64 index, .int .i64 kind, .int .i64 time, .string body] w fun e w' => e = .returned (.tuple #[.agg (linkRes prev index kind time body).cells.toArray, .int .i64 (linkErr prev index kind time body)]) ∧ Below w.heap.size w w' := by
  have HR := Lib.hid hR
  have HW := Lib.hid hr
  obtain ⟨r, hrr⟩ : ∃ r, r = RC.mk index kind time body prev z32 := ⟨_, rfl⟩
  rw [← hrr] at HW
  have HL : Hid (r.cells.length = zlRc.length) := show _ = _ from rc_len HW.out
  have HRR := Lib.hid hrr
  have hbd : ∀ w, (Instr.build 61 #[(0, .int .i64 index), (1, .int .i64 kind), (2, .int .i64 time), (3, .string body), (4, .agg (u8s prev).toArray)]).run Tryd.prog w = .ok (.agg r.cells.toArray) w := fun w => by rw [hrr]; exact rc_build index kind time body hr.prev w
  have hpl : Hid (prev.length = 32) := show _ = _ from hr.prev
  have hp0 : ((w.alloc (.cells (u8s prev).toArray 23)).alloc (.cells Tryd.zeroCells61 61)).heap[w.heap.size]? = some (.cells (u8s prev).toArray 23 (0, 0)) := (Below.heap_alloc _ _ _ (by simp)).trans (heap_alloc_new w _)
  have hz1 : ((w.alloc (.cells (u8s prev).toArray 23)).alloc (.cells Tryd.zeroCells61 61)).heap[w.heap.size + 1]? = some (.cells zlRc.toArray 61 (0, 0)) := heap_alloc2_new w _ _
  have HB0 := Lib.hid (bw_alloc (bw_alloc (Below.refl w.heap.size w) (.cells (u8s prev).toArray 23)) (.cells Tryd.zeroCells61 61))
  have hs2 : ((w.alloc (.cells (u8s prev).toArray 23)).alloc (.cells Tryd.zeroCells61 61)).heap.size = w.heap.size + 1 + 1 := by simp
  have hz2 : (((w.alloc (.cells (u8s prev).toArray 23)).alloc (.cells Tryd.zeroCells61 61)).alloc (.cells Tryd.zeroCells61 61)).heap[w.heap.size + 1 + 1]? = some (.cells zlRc.toArray 61 (0, 0)) := by rw [← hs2]; exact heap_alloc_new _ _
  have hz1a := (Below.heap_alloc _ (.cells Tryd.zeroCells61 61) _ (block_lt hz1)).trans hz1
  have HB0a := Lib.hid (bw_alloc HB0.out (.cells Tryd.zeroCells61 61))
  clear hR hr hrr hs2 hz1 HB0
  go_enter Tryd.func104, Tryd.ntmps104
  go_wp2_with (first
    | (with_reducible refine wpList_load_rows rfl 23 (.tmp 5) rfl w.heap.size 0 (u8s prev) (u8s prev) 23 (0, 0) _ rfl hp0 id_at Tryd.underlying23 rfl (hash_info hpl.out) ?_)
    | (with_reducible refine wpList_build rfl 61 [(0, .tmp 13), (1, .tmp 14), (2, .tmp 15), (3, .tmp 16), (4, .tmp 17)] rfl [(0, .int .i64 index), (1, .int .i64 kind), (2, .int .i64 time), (3, .string body), (4, .agg (u8s prev).toArray)] (.agg r.cells.toArray) rfl (hbd _) ?_)
    | ((with_reducible refine wpList_store_whole rfl 61 (.tmp 12) (.tmp 18) rfl (w.heap.size + 1 + 1) r.cells zlRc 61 rfl rfl hz2 HL.out (rc_info HW.out) (rc_one _) ?_); intro w2 hU2; have hT2 := hU2.out.at_; have hO2 := (hU2.out.other _ (by omega)).trans hz1a; have HB2 := Lib.hid (hU2.out.below HB0a.out (by omega)); clear hz2 hz1a hp0 hbd)
    | (with_reducible refine wpList_load_rows rfl 61 (.tmp 12) rfl (w.heap.size + 1 + 1) 0 r.cells r.cells 61 (0, 0) _ rfl hT2 id_at Tryd.underlying61 rfl (rc_info HW.out) ?_))
  refine (receipt_any r _ HW.out).mono ?_
  rintro e w3 ⟨rfl, hb3⟩
  have hT3 := (hb3.block _ (block_lt hT2)).trans hT2
  have hO3 := (hb3.block _ (block_lt hO2)).trans hO2
  have HB3 := Lib.hid (bw_call HB2.out hb3)
  clear hb3 hT2 hO2
  cases hg : r.good
  · have HG : Hid (linkRes prev index kind time body = RC.zero ∧ linkErr prev index kind time body = 2) := show _ ∧ _ by
      unfold linkRes linkErr
      rw [← HRR.out, hg]
      exact ⟨rfl, rfl⟩
    clear hg
    go_wp2_with (first
      | (with_reducible refine wpList_build rfl 61 [] rfl [] (.agg zlRc.toArray) rfl (rc_build0 _) ?_)
      | ((with_reducible refine wpList_store_whole rfl 61 (.tmp 10) (.tmp 22) rfl (w.heap.size + 1) zlRc zlRc 61 rfl rfl hO3 rfl zlRc_info zlRc_one ?_); intro w4 hU4))
    exact post_cell_tmp 10 11 61 rfl (w.heap.size + 1) _ zlRc _ _ hU4.out.at_ Tryd.underlying61 rfl zlRc_info (.int .i64 2) rfl rfl rfl ⟨by rw [HG.out.1, HG.out.2]; rfl, hU4.out.below HB3.out (by omega)⟩
  · have HG : Hid (linkRes prev index kind time body = { r with hash := r.link } ∧ linkErr prev index kind time body = 0) := show _ ∧ _ by
      unfold linkRes linkErr
      rw [← HRR.out, hg, HRR.out]
      exact ⟨rfl, rfl⟩
    obtain ⟨q, hq⟩ : ∃ q : RC, q = { r with hash := r.link } := ⟨_, rfl⟩
    have HWQ : Hid q.wf := show _ from by rw [hq]; exact ⟨HW.out.index, HW.out.kind, HW.out.time, HW.out.body, HW.out.prev, RC.link_length _⟩
    have HSP : Hid (splice r.cells 36 (u8s r.link) = q.cells) := show _ = _ by rw [hq]; exact hash_cells HW.out (RC.link_length _)
    have HQL : Hid (q.cells.length = zlRc.length) := show _ = _ from rc_len HWQ.out
    rw [← hq] at HG
    clear hq
    go_wp2_with (with_reducible refine wpList_load_rows rfl 61 (.tmp 12) rfl (w.heap.size + 1 + 1) 0 r.cells r.cells 61 (0, 0) _ rfl hT3 id_at Tryd.underlying61 rfl (rc_info HW.out) ?_)
    refine (link_any r _ HW.out hg (HR.out.below HB3.out HR.out.1)).mono ?_
    rintro e w4 ⟨rfl, hb4⟩
    have hT4 := (hb4.block _ (block_lt hT3)).trans hT3
    have hO4 := (hb4.block _ (block_lt hO3)).trans hO3
    have HB4 := Lib.hid (bw_call HB3.out hb4)
    clear hb4 hT3 hO3 hg
    go_wp2_with (first
      | ((with_reducible refine wpList_store_rows rfl 23 (.tmp 25) (.tmp 24) rfl (w.heap.size + 1 + 1) 36 (u8s r.link) r.cells 61 rfl rfl hT4 (by rw [rc_len HW.out, u8s_length, RC.link_length]; decide) (hash_info r.link_length) (u8s_one _) ?_); intro w5 hU5; have hT5 := hU5.out.at_; rw [HSP.out] at hT5; have hO5 := (hU5.out.other _ (by omega)).trans hO4; have HB5 := Lib.hid (hU5.out.below HB4.out (by omega)); clear hT4 hO4)
      | (with_reducible refine wpList_load_rows rfl 61 (.tmp 12) rfl (w.heap.size + 1 + 1) 0 q.cells q.cells 61 (0, 0) _ rfl hT5 id_at Tryd.underlying61 rfl (rc_info HWQ.out) ?_)
      | ((with_reducible refine wpList_store_whole rfl 61 (.tmp 10) (.tmp 26) rfl (w.heap.size + 1) q.cells zlRc 61 rfl rfl hO5 HQL.out (rc_info HWQ.out) (rc_one _) ?_); intro w6 hU6))
    exact post_cell_tmp 10 11 61 rfl (w.heap.size + 1) _ q.cells _ _ hU6.out.at_ Tryd.underlying61 rfl (rc_info HWQ.out) (.int .i64 0) rfl rfl rfl ⟨by rw [HG.out.1, HG.out.2], hU6.out.below HB5.out (by omega)⟩
end Go.Proofs.YtckfdmkjeocadaaDoor
