/- The statements' awake and light: what the calls do. -/
import Derived.Test.YtbeooeihedhabaaDoorBxPost
import Derived.Test.YtbeooeihedhabaaDoorBxLand
import Derived.Test.YtbeooeihedhabaaDoorBxSame
namespace Go.Proofs.YtbeooeihedhabaaDoor
open Go.RowKit
set_option maxHeartbeats 4000000
set_option maxRecDepth 4000
theorem weigh_snoc (l : List PT) (j : Nat) (h : j < l.length) : weigh (l.take (j + 1)) = weigh (l.take j) + ((l[j]'h).text.size + 2) := by
  rw [List.take_succ_eq_append_getElem h]
  unfold weigh
  rw [List.map_append, List.sum_append]
  simp only [List.map_cons, List.map_nil, List.sum_cons, List.sum_nil, Nat.add_zero]
theorem light_any (b : BT) (v : Value) (w : World) (hv : PtsAt w v b.parts) (hm : b.parts.length ≤ 9223372036854775806) (hs : ∀ x ∈ b.parts, x.text.size ≤ 140737488355328) :
    Calls Tryd.prog 9 #[.agg (b.cells v).toArray] w fun e w' => e = .returned (.bool (decide (weigh b.parts ≤ 600))) ∧ Below w.heap.size w w' := by
  obtain ⟨q, c, rfl⟩ := hv.shape
  obtain ⟨sq, fs, bf, ps⟩ := b
  dsimp only at hv hm hs ⊢
  have HS := Lib.hid hs
  have hb := bw_alloc (Below.refl w.heap.size w) (.cells #[.int .i64 sq, .int .i64 fs, .int .i64 bf, .slice q ps.length c] 24)
  have HV := Lib.hid (hv.below hb)
  have HB := Lib.hid hb
  have hz := heap_alloc_new w (.cells #[.int .i64 sq, .int .i64 fs, .int .i64 bf, .slice q ps.length c] 24)
  have c3 : (w.alloc (.cells #[.int .i64 sq, .int .i64 fs, .int .i64 bf, .slice q ps.length c] 24)).cell? ⟨w.heap.size, 3, none⟩ = some (.slice q ps.length c) := by rw [cell_of_row _ _ _ _ _ _ hz]; rfl
  show Calls Tryd.prog 9 #[.agg #[.int .i64 sq, .int .i64 fs, .int .i64 bf, .slice q ps.length c]] w _
  obtain ⟨n, hn⟩ : ∃ n, n = ps.length := ⟨_, rfl⟩
  rw [← hn] at HV HB c3 hm ⊢
  have HN := Lib.hid hn
  clear hb hv hz hs
  rw [← hn] at hn
  clear hn
  go_enter Tryd.func9, Tryd.ntmps9
  go_wp2_with fail
  generalize w.alloc (.cells #[.int .i64 sq, .int .i64 fs, .int .i64 bf, .slice q n c] 24) = w2 at *
  go_loopw [3, 4] (fun n_ i_ wr => ∃ j : Nat, i_ = .int .i64 j ∧ n_ = .int .i64 (weigh (ps.take j) : Nat) ∧ j ≤ n ∧ weigh (ps.take j) ≤ 140737488355930 ∧ wr = w2) (fun _ i_ _ => match i_ with | .int _ k => n - k.toNat | _ => 0)
  case atStart => exact ⟨0, rfl, rfl, Nat.zero_le _, Nat.zero_le _, rfl⟩
  case round =>
    obtain ⟨j, rfl, rfl, hjn, hwj, rfl⟩ := hrel
    obtain ⟨W, hW⟩ : ∃ W, W = weigh (ps.take j) := ⟨_, rfl⟩
    rw [← hW] at hwj ⊢
    have HW := Lib.hid hW
    clear hW
    by_cases hlt : j < n
    · have hjp : j < ps.length := by have := HN.out; omega
      by_cases hw6 : W ≤ 600
      · obtain ⟨g, o, hq, hgl, -, hc⟩ := HV.out.at j (by rw [List.length_map]; exact hjp)
        subst hq
        rw [List.getElem_map] at hc
        have HWS : Hid (weigh (ps.take (j + 1)) = W + ((ps[j]'hjp).text.size + 2)) := show _ = _ from by rw [weigh_snoc ps j hjp, ← HW.out]
        have hxs := HS.out (ps[j]'hjp) (List.getElem_mem hjp)
        generalize ps[j]'hjp = x at *
        obtain ⟨d, t⟩ := x
        have k1 : wr.cell? ⟨g, o + j * 2 + 1, none⟩ = some (.string t) := hc 1 _ rfl
        have f0 : (0 : Int) ≤ j := by omega
        have f1 : (j : Int) < n := by omega
        have f2 : (W : Int) ≤ 600 := by omega
        have hts : t.size ≤ 140737488355328 := hxs
        clear hc hxs
        go_wp2_with fail
        go_roundw
        case rel => exact ⟨j + 1, by go_num, by rw [HWS.out]; go_num, hlt, by rw [HWS.out]; show W + (t.size + 2) ≤ _; omega, trivial⟩
        case measure => simp; omega
      · have f1 : (j : Int) < n := by omega
        have f2 : decide ((W : Int) ≤ 600) = false := decide_eq_false (by omega)
        have HF : Hid (decide (weigh ps ≤ 600) = false) := show _ = _ from decide_eq_false (by
          have h1 := weigh_take ps j
          rw [← HW.out] at h1
          omega)
        go_wp2_with fail
        go_ret
        exact ⟨by rw [HF.out]; rfl, HB.out⟩
    · obtain rfl : j = n := by omega
      have f1 : decide ((j : Int) < j) = false := decide_eq_false (by omega)
      have HF : Hid (decide (weigh ps ≤ 600) = decide ((W : Int) ≤ 600)) := show _ = _ from by
        have h := HW.out
        rw [List.take_of_length_le (by rw [HN.out]; exact Nat.le_refl _)] at h
        rw [← h]
        exact decide_eq_decide.2 (by omega)
      go_wp2_with fail
      go_ret
      exact ⟨by rw [HF.out]; rfl, HB.out⟩
abbrev zlB5 (g : Nat) : List Value := [.int .i64 5, .int .i64 0, .int .u8 0, .int .u8 0, .int .u8 0, .int .u8 0, .int .u8 0, .int .u8 0, .int .u8 0, .int .u8 0, .int .u8 0, .int .u8 0, .int .u8 0, .int .u8 0, .int .u8 0, .int .u8 0, .int .u8 0, .int .u8 0, .int .u8 0, .int .u8 0, .int .u8 0, .int .u8 0, .int .u8 0, .int .u8 0, .int .u8 0, .int .u8 0, .int .u8 0, .int .u8 0, .int .u8 0, .int .u8 0, .int .u8 0, .int .u8 0, .int .u8 0, .int .u8 0, .slice (some ⟨g, 0, none⟩) 1 1]
theorem block_zero : (Tryd.prog.info? 62).map (fun i => (i.zero, i.size, i.bytes)) = some (some (.agg zlBlk.toArray), 35, 72) := by kernel_rfl
theorem item_zero : (Tryd.prog.info? 59).map (fun i => (i.zero, i.size, i.bytes)) = some (some (.agg #[.int .i64 0, .int .i64 0, .int .i64 0, .string ⟨#[]⟩]), 4, 40) := by kernel_rfl
theorem block_build (g : Nat) (w : World) : (Instr.build 62 #[(0, .int .i64 5), (3, .slice (some ⟨g, 0, none⟩) 1 1)]).run Tryd.prog w = .ok (.agg (zlB5 g).toArray) w := by kernel_rfl
theorem block_fill (g : Nat) {ie : TypeInfo} (h : ie.size = 35) : Instr.fill (fun i => some (i * ie.size, ie.size)) ((Array.range (1 * ie.size)).map ((Value.agg zlBlk.toArray).cells[· % (Value.agg zlBlk.toArray).cells.size]!)) #[(0, Value.agg (zlB5 g).toArray)].toList = some (zlB5 g).toArray := by
  have hz : (Array.range (1 * 35)).map (fun i => (Value.agg zlBlk.toArray).cells[i % (Value.agg zlBlk.toArray).cells.size]!) = zlBlk.toArray := by kernel_rfl
  rw [h, hz, fill_cons (off := 0) (size := 35) rfl (by rfl) (by decide)]
  rfl
theorem RdRows.one (w : World) (cs : List Value) (T : TypeId) (sz : Nat) : RdRows (w.alloc (.cells cs.toArray T)) (.slice (some ⟨w.heap.size, 0, none⟩) 1 1) sz [cs] (fun b => b < (w.alloc (.cells cs.toArray T)).heap.size) := by
  refine ⟨_, 1, rfl, fun k hk => ⟨w.heap.size, 0, rfl, by simp, by simp, fun j u hj => ?_⟩⟩
  obtain rfl : k = 0 := by simpa using hk
  rw [cell_of_row _ _ _ _ _ _ (heap_alloc_new w _)]
  simpa using hj
theorem bk5_cells (g : Nat) (S : ByteArray) : BK.cells ⟨5, 0, z32, .slice (some ⟨g, 0, none⟩) 1 1, [⟨3, 64, 0, S⟩]⟩ = zlB5 g := by
  show Value.int .i64 5 :: Value.int .i64 0 :: (u8s z32 ++ [.slice (some ⟨g, 0, none⟩) 1 1]) = _
  rw [← zl32_eq]
  rfl
theorem awake13_any (w : World) (hR : RoundsAt w) :
    Calls Tryd.prog 10 #[] w fun e w' => e = .returned (.bool true) ∧ Below w.heap.size w w' := by
  obtain ⟨iB, hiB, hzB0, hzB1, hzB2⟩ := info_parts block_zero
  have HR := Lib.hid hR
  have HP := Lib.hid awB_post
  obtain ⟨S, hS⟩ : ∃ S, S = awB.post.1 := ⟨_, rfl⟩
  have HSS := Lib.hid hS
  have HFB := Lib.hid (fun g => block_fill g hzB1)
  have HBB := Lib.hid block_build
  have HPW : Hid (∀ (W : World) (v : Value), PtsAt W v awB.parts → RoundsAt W → Calls Tryd.prog 11 #[.agg (awB.cells v).toArray] W fun e w' => e = .returned (.tuple #[.string S, .int .i64 0]) ∧ Below W.heap.size W w') := show ∀ (W : World) (v : Value), _ from fun W v hv hRW => by
    have h := post_any awB v W hv awB_light hRW
    rw [awB_post, ← hS] at h
    exact h
  have HRW : Hid (∀ W, RoundsAt W → Calls Tryd.prog 13 #[.string S] W fun e w' => (∃ v, e = .returned (.tuple #[.agg #[.int .i64 0, .int .i64 3, .int .i64 0, v], .int .i64 0]) ∧ ∃ q n c, v = .slice q n c) ∧ Below W.heap.size W w') := show ∀ W, _ from fun W hRW => by
    have hsz := post_short awB_light awB_post
    rw [← hS] at hsz
    refine (bxread_any S W (by omega) hRW).mono ?_
    rintro e w' ⟨h1, h2⟩
    rw [hS, box_back awB_light awB_post] at h2
    obtain ⟨v, he, hr⟩ := h2
    obtain ⟨A, c', hv', _⟩ := hr
    exact ⟨⟨v, he, A, _, c', hv'⟩, h1⟩
  clear hR hS
  go_enter Tryd.func10, Tryd.ntmps10
  go_wp2_with fail
  have hb1 := bw_alloc (Below.refl w.heap.size w) (.cells #[.bool false, .string ⟨#[97]⟩] 57)
  have HB1 := Lib.hid hb1
  have hpt : PtsAt (w.alloc (.cells #[.bool false, .string ⟨#[97]⟩] 57)) (.slice (some ⟨w.heap.size, 0, none⟩) 1 1) awB.parts := RdRows.one w [.bool false, .string ⟨#[97]⟩] 57 2
  refine (HPW.out _ (.slice (some ⟨w.heap.size, 0, none⟩) 1 1) hpt (HR.out.below hb1 HR.out.1)).mono ?_
  rintro e w1 ⟨rfl, hb2⟩
  have HB2 := Lib.hid (bw_call HB1.out hb2)
  clear hb1 hb2 hpt
  go_wp2_with fail
  refine (HRW.out _ (HR.out.below HB2.out HR.out.1)).mono ?_
  rintro e w2 ⟨⟨v, rfl, qv, nv, cv, rfl⟩, hb3⟩
  have HB3 := Lib.hid (bw_call HB2.out hb3)
  clear hb3
  have hb4 := bw_alloc HB3.out (.cells #[.int .i64 0, .int .i64 3, .int .i64 0, .slice qv nv cv] 24)
  have hz4 := heap_alloc_new w2 (.cells #[.int .i64 0, .int .i64 3, .int .i64 0, .slice qv nv cv] 24)
  have HB4 := Lib.hid hb4
  have HZ4 := Lib.hid hz4
  clear hb4 hz4
  obtain ⟨W4, hW4⟩ : ∃ W4, w2.alloc (.cells #[.int .i64 0, .int .i64 3, .int .i64 0, .slice qv nv cv] 24) = W4 := ⟨_, rfl⟩
  rw [hW4] at HB4 HZ4
  obtain ⟨W5, hW5⟩ : ∃ W5, W4.alloc (.cells #[.int .i64 3, .int .i64 64, .int .i64 0, .string S] 59) = W5 := ⟨_, rfl⟩
  have HB5 : Hid (Below w.heap.size w W5) := show Below _ _ _ from by rw [← hW5]; exact bw_alloc HB4.out _
  have HI5 : Hid (RdRows W5 (.slice (some ⟨W4.heap.size, 0, none⟩) 1 1) 4 [IT.cells ⟨3, 64, 0, S⟩] (fun b => b < W5.heap.size)) := show RdRows _ _ _ _ _ from by rw [← hW5]; exact RdRows.one W4 (IT.cells ⟨3, 64, 0, S⟩) 59 4
  have hf := HFB.out W4.heap.size
  have hbd := HBB.out W4.heap.size
  go_wp2_with (first
    | (with_reducible refine wpList_build rfl 62 [(0, .const (.int .i64 5)), (3, .tmp 20)] rfl [(0, .int .i64 5), (3, .slice (some ⟨W4.heap.size, 0, none⟩) 1 1)] (.agg (zlB5 W4.heap.size).toArray) rfl (hbd _) ?_)
    | (refine wpList_buildSlice rfl 34 62 1 #[(0, .tmp 21)] rfl (zlB5 W4.heap.size).toArray iB (.agg zlBlk.toArray) Tryd.underlying34 hiB hzB0 (by rw [hzB1]; decide) (by rw [hzB1]; decide) (by simp only [List.map_toArray, List.map_cons, List.map_nil]; exact hf) ?_))
  have HKZ : Hid ((W5.alloc (.cells (zlB5 W4.heap.size).toArray 62)).heap[w2.heap.size]? = some (.cells #[.int .i64 0, .int .i64 3, .int .i64 0, .slice qv nv cv] 24 (0, 0))) := show _ = _ from by
    have h5 : W5.heap[w2.heap.size]? = some (.cells #[.int .i64 0, .int .i64 3, .int .i64 0, .slice qv nv cv] 24 (0, 0)) := by rw [← hW5]; exact (Below.heap_alloc _ _ _ (block_lt HZ4.out)).trans HZ4.out
    exact (Below.heap_alloc _ _ _ (block_lt h5)).trans h5
  clear hW4 hW5
  have hB6 := bw_alloc HB5.out (.cells (zlB5 W4.heap.size).toArray 62)
  have hR5 := RdRows.one W5 (zlB5 W4.heap.size) 62 35
  have hI6 := HI5.out.kept (W' := W5.alloc (.cells (zlB5 W4.heap.size).toArray 62)) (by simp) fun k hk _ => (bw_alloc (Below.refl W5.heap.size W5) (.cells (zlB5 W4.heap.size).toArray 62)).block k hk
  have hZ5 : (W5.alloc (.cells (zlB5 W4.heap.size).toArray 62)).heap.size = W5.heap.size + 1 := by simp
  have HCL := Lib.hid (bxland_any (some ⟨W5.heap.size, 0, none⟩) 1 [⟨5, 0, z32, .slice (some ⟨W4.heap.size, 0, none⟩) 1 1, [⟨3, 64, 0, S⟩]⟩] (W5.alloc (.cells (zlB5 W4.heap.size).toArray 62)) (by
    refine ⟨?_, ?_⟩
    · show RdRows _ _ _ [BK.cells _] _
      rw [bk5_cells]
      exact hR5
    · intro b hb
      rw [List.mem_singleton] at hb
      subst hb
      refine ⟨hI6.mono fun k _ hk => by omega, z32_length, show 1 ≤ _ by decide, fun x hx => ?_⟩
      have hx : x = ⟨3, 64, 0, S⟩ := by simpa using hx
      subst hx
      have h := post_short awB_light awB_post
      rw [← HSS.out] at h
      show S.size ≤ _
      omega) (show 1 ≤ _ by decide) (HR.out.below hB6 HR.out.1))
  have HB6 := Lib.hid hB6
  have HBZ : Hid (W4.heap.size + 1 ≤ (W5.alloc (.cells (zlB5 W4.heap.size).toArray 62)).heap.size) := show _ ≤ _ from by
    have h : W4.heap.size < W5.heap.size := by
      have := HI5.out.at 0 (by simp)
      obtain ⟨b, off, hq, hl, _⟩ := this
      injection hq with hq
      injection hq with e1 e2
      omega
    omega
  have HZ6 : Hid (w2.heap.size < W4.heap.size) := show _ < _ from block_lt HZ4.out
  have HZ7 : Hid ((W5.alloc (.cells (zlB5 W4.heap.size).toArray 62)).heap[w2.heap.size]? = some (.cells #[.int .i64 0, .int .i64 3, .int .i64 0, .slice qv nv cv] 24 (0, 0))) := show _ = _ from HKZ.out
  have HCL2 : Hid (Calls Tryd.prog 17 #[.slice (some ⟨W5.heap.size, 0, none⟩) 1 1] (W5.alloc (.cells (zlB5 W4.heap.size).toArray 62)) fun e w' => (∃ g c, e = .returned (.slice (some ⟨g, 0, none⟩) 1 c) ∧ w'.cell? ⟨g, 0, none⟩ = some (.int .i64 5)) ∧ Below (W5.alloc (.cells (zlB5 W4.heap.size).toArray 62)).heap.size (W5.alloc (.cells (zlB5 W4.heap.size).toArray 62)) w') := show Calls _ _ _ _ _ from by
    refine HCL.out.mono ?_
    rintro e w' ⟨v, l, he, hp, hd⟩
    rw [HSS.out, awB_land] at hp
    have hlen : l.length = 1 := by
      have := congrArg List.length hp
      rw [prs_len] at this
      exact this
    obtain ⟨x, rfl⟩ := List.length_eq_one_iff.1 hlen
    have hx : x.block = 5 := by
      have h : (x.block, x.b) = (5, awB) := by simpa [prs] using hp
      injection h
    refine ⟨?_, hd.b⟩
    rcases hd.own.2 with ⟨_, h0⟩ | ⟨g, cap, cur, rfl, _, hg, _, _, _, ht⟩
    · cases h0
    · refine ⟨g, cap, he, ?_⟩
      rw [cell_of_row _ _ _ _ _ _ hg, ← Array.getElem?_toList, ← List.getElem?_take_of_lt (show 0 < [x].length * 5 from (by decide : 0 < 5)), ht]
      show some (Value.int .i64 x.block) = _
      rw [hx]
  generalize W5.alloc (.cells (zlB5 W4.heap.size).toArray 62) = W6 at *
  clear HCL hR5 hI6 hZ5
  refine HCL2.out.mono ?_
  rintro e w7 ⟨⟨g, c, rfl, hg5⟩, hb7⟩
  have hz7 := (hb7.block _ (block_lt HZ7.out)).trans HZ7.out
  have c1 : w7.cell? ⟨w2.heap.size, 1, none⟩ = some (.int .i64 3) := by rw [cell_of_row _ _ _ _ _ _ hz7]; rfl
  have HB7 := Lib.hid (bw_call HB6.out hb7)
  clear hb7 hz7
  go_wp2_with fail
  go_ret
  exact ⟨rfl, HB7.out⟩
end Go.Proofs.YtbeooeihedhabaaDoor
