/- cavalcadelaw17.AdmitNames: what the call does. -/
import Derived.Test.YtckfdmkjeocadaaDoorAdmGX
import Derived.Deep.CutBlock
namespace Go.Proofs.YtckfdmkjeocadaaDoor
open Go.RowKit
set_option maxHeartbeats 8000000
set_option maxRecDepth 4000
/-- a call that the law lets two gates do -/
structure A17 where
  kd : Int
  s : ByteArray
  t : TX
structure A17.wf (a : A17) : Prop where
  t : a.t.wf
  s : a.s.size ≤ 140737488355328
def A17.cells (a : A17) : List Value := actC a.kd a.s a.t
def ActsAt17 (W : World) (v : Value) (acts : List A17) : Prop := ∃ q c, v = .slice q acts.length c ∧ (acts = [] ∨ ∃ b off, q = some ⟨b, off, none⟩ ∧ b < W.heap.size ∧ ∀ i (h : i < acts.length), W.rangeAt b (off + i * 74) (acts[i]'h).cells)
theorem range_keep {W W' : World} {b o : Nat} {cs : List Value} (h : W.rangeAt b o cs) {B : Nat} (hb : Below B W W') (hB : b < B) : W'.rangeAt b o cs := fun j v hj => (hb.cell (show (⟨b, o + j, none⟩ : Addr).block < B from hB)).trans (h j v hj)
theorem XG.low {W : World} {b1 b2 x nb : Nat} {fl : Int} {nx : List Int} {lv : Value} {ts : List TX} (h : XG W b1 x fl nx nb lv ts) (hb : b2 ≤ b1) : XG W b2 x fl nx nb lv ts :=
  ⟨h.len, h.row, h.nrow, own_base h.own hb, h.wf, h.ne, h.small, ⟨Nat.le_trans hb h.lo.1, Nat.le_trans hb h.lo.2⟩⟩
theorem admitNames_any (acts : List A17) (v : Value) (s : ByteArray) (w : World) (hA : ActsAt17 w v acts) (hwf : ∀ a ∈ acts, a.wf) (hs : s.size ≤ 140737488355328) (hR : RoundsAt w) :
    Calls Tryd.prog 7 #[v, .string s] w fun e w' => e = .returned (.bool true) ∧ Below w.heap.size w w' := by
  obtain ⟨q, c, rfl, hq⟩ := hA
  have HQ := Lib.hid hq
  have HAF := Lib.hid hwf
  have HR := Lib.hid hR
  have HS := Lib.hid hs
  obtain ⟨m, hm⟩ : ∃ m, m = acts.length := ⟨_, rfl⟩
  rw [← hm]
  have HM := Lib.hid hm
  clear hq hwf hR hm hs
  go_enter Tryd.func7, Tryd.ntmps7
  go_wp2_with fail
  refine (new_any 2 _ (by decide) (by decide)).mono ?_
  rintro e w1 ⟨rfl, hG1, hb1⟩
  have HG1 := Lib.hid hG1
  have HB1 := Lib.hid hb1
  clear hG1 hb1
  go_wp2_with fail
  refine (xnew_any 2 _ (by decide) (by decide)).mono ?_
  rintro e w2 ⟨rfl, hX2, hb2⟩
  have HX2 : Hid (GX w w2 (w.heap.size + 1) w.heap.size (w1.heap.size + 1) w1.heap.size 2 ⟨0, zn64, .map [], zn64, .slice none 0 0, []⟩ []) := show GX _ _ _ _ _ _ _ _ _ from by
    have h1 := HG1.out.lts
    have h2 := HB1.out.size
    refine ⟨bw_call HB1.out hb2, HG1.out.below hb2, One.nil, hX2.low h2, ⟨by omega, Nat.le_refl _⟩, ⟨⟨by omega, by omega, by omega, by omega⟩, by simp [Value.ownBlock], by simp [Value.ownBlock]⟩, fun y hy => absurd hy (by simp), List.Pairwise.nil⟩
  clear hX2 hb2 HG1 HB1
  generalize w.heap.size + 1 = g at *
  obtain ⟨mb, hmb⟩ : ∃ y, y = w.heap.size := ⟨_, rfl⟩
  have HX2 : Hid (GX w w2 g mb (w1.heap.size + 1) w1.heap.size 2 ⟨0, zn64, .map [], zn64, .slice none 0 0, []⟩ []) := show GX _ _ _ _ _ _ _ _ _ from by rw [hmb]; exact HX2.out
  clear hmb
  generalize w1.heap.size + 1 = x at *
  generalize w1.heap.size = nb at *
  go_wp2_with fail
  refine (awake17_any _ (HR.out.below HX2.out.b HR.out.1)).mono ?_
  rintro e w3 ⟨rfl, hb3⟩
  have HX3 := Lib.hid (HX2.out.next hb3)
  clear hb3 HX2
  go_upto_block 0 with fail
  go_cut [9] (fun i wx => ∃ S : GS, S.n ≤ 60 ∧ Hid (GX w wx g mb x nb 2 S []))
  case first =>
    go_wp2_with fail
    go_loopw [9] (fun i wr => ∃ (j : Nat) (S : GS), j ≤ 60 ∧ S.n ≤ j ∧ S.ts.length ≤ j ∧ i = .int .i64 j ∧ Hid (GX w wr g mb x nb 2 S [])) (fun i _ => 60 - (intOf i).toNat)
    case atStart => exact ⟨0, _, by omega, Nat.le_refl _, Nat.le_refl _, rfl, HX3⟩
    case round =>
      obtain ⟨j, S, hj, hSn, hSt, rfl, HX⟩ := hrel
      by_cases hlt : j < m
      · have hd0 : decide ((j : Int) < m) = true := decide_eq_true (by omega)
        by_cases h60 : j < 60
        · have hd1 : decide ((j : Int) < 60) = true := decide_eq_true (by omega)
          have hl2 : j < acts.length := by have := HM.out; omega
          rcases HQ.out with h | ⟨b, off, rfl, hbw, hat⟩
          · exact absurd hl2 (by rw [h]; simp)
          obtain ⟨a, ha⟩ : ∃ a, a = acts[j]'hl2 := ⟨_, rfl⟩
          have HAW : Hid a.wf := show _ from by rw [ha]; exact HAF.out _ (List.getElem_mem hl2)
          have HRG : Hid (wr.rangeAt b (off + j * 74) (actC a.kd a.s a.t)) := show World.rangeAt _ _ _ _ from range_keep (show w.rangeAt b (off + j * 74) (actC a.kd a.s a.t) from by rw [ha]; exact hat j hl2) HX.out.b hbw
          have f0 : (0 : Int) ≤ j := by omega
          have f1 : (j : Int) < m := by omega
          clear hat hl2 ha hlt
          go_wp2_with (with_reducible refine wpList_load_mid rfl 49 (.tmp 57) rfl b (off + j * 74) rfl (actC a.kd a.s a.t) _ HRG.out Tryd.underlying49 rfl (actC_info HAW.out.t) ?_)
          refine (do_any a.kd a.s a.t w _ g mb x nb 2 S [] HX.out HAW.out.t HAW.out.s HR.out (by omega) (by omega)).mono ?_
          rintro e w4 ⟨⟨bb, rfl⟩, S', hX4, hn4, hl4⟩
          have HX4 := Lib.hid hX4
          clear hX4
          go_wp2_with fail
          go_roundw
          case rel => exact ⟨j + 1, S', by omega, by omega, by omega, by go_num, HX4⟩
          case measure => simp [intOf]; omega
        · have hd1 : decide ((j : Int) < 60) = false := decide_eq_false (by omega)
          go_wp2_with fail
          go_meet
          case rel => exact ⟨S, by omega, HX⟩
      · have hd0 : decide ((j : Int) < m) = false := decide_eq_false (by omega)
        go_wp2_with fail
        go_meet
        case rel => exact ⟨S, by omega, HX⟩
  case rest =>
    obtain ⟨S, hSn, HX⟩ := hcut
    clear HX3
    obtain ⟨r, hr⟩ : ∃ y, y = (askR 2 S.nx S.D s).1 := ⟨_, rfl⟩
    obtain ⟨qq, hqq⟩ : ∃ y, y = (askR 2 S.nx S.D s).2 := ⟨_, rfl⟩
    obtain ⟨sz, hsz⟩ : ∃ y, y = Maps.size S.D := ⟨_, rfl⟩
    have hsb : sz ≤ 60 := by have h1 := HX.out.G.own.size_le; omega
    have HASK : Hid (∀ W, GAt W g 2 S.nx mb S.n S.D → RoundsAt W → Calls Tryd.prog 34 #[.pointer (some ⟨g, 0, none⟩), .string s] W fun e w' => e = .returned (.tuple #[.agg r.cells.toArray, .int .i64 qq]) ∧ Below W.heap.size W w') := show ∀ W, _ from fun W h hRR => by
      rw [hr, hqq]
      exact ask_any s g mb S.n 2 S.nx S.D W h HX.out.D1 HS.out hRR
    have HIN : Hid (∀ W, GAt W g 2 S.nx mb S.n S.D → Calls Tryd.prog 33 #[.pointer (some ⟨g, 0, none⟩)] W fun e w' => e = .returned (.int .i64 sz) ∧ w' = W) := show ∀ W, _ from fun W h => by
      rw [hsz]
      exact in_any g mb S.n 2 S.nx S.D W h
    have HENT : Hid (∀ W, GAt W g 2 S.nx mb S.n S.D → RoundsAt W → Calls Tryd.prog 35 #[.pointer (some ⟨g, 0, none⟩), .string s] W fun e w' => e = .returned (.tuple #[.agg r.cells.toArray, .int .i64 qq]) ∧ Turned W w' g mb ∧ ∃ n', n' ≤ S.n + 1 ∧ GAt w' g 2 S.nx mb n' (entD 2 S.nx S.D s)) := show ∀ W, _ from fun W h hRR => by
      rw [hr, hqq]
      exact enter_any s g mb S.n 2 S.nx S.D W h HX.out.D1 HS.out hRR (by unfold maxLen; omega)
    have HFIVE : Hid (qq = 0 ∨ (r = TX.zero ∧ (qq = 6 ∨ qq = 21 ∨ qq = 24 ∨ qq = 22 ∨ qq = 23))) := show _ ∨ _ from by
      rw [hr, hqq]
      exact askR_five 2 S.nx S.D s
    have HOKK : Hid (qq = 0 → entD 2 S.nx S.D s = S.D.put (.string s.data.toList) (rowInt 1) ∧ askR 2 S.nx (S.D.put (.string s.data.toList) (rowInt 1)) s = (TX.zero, 23) ∧ Maps.size (S.D.put (.string s.data.toList) (rowInt 1)) = sz + 1) := show _ → _ from fun h => by
      have h0 : (askR 2 S.nx S.D s).2 = 0 := by rw [← hqq]; exact h
      exact ⟨if_pos h0, askR_put HX.out.D1 h0, by rw [hsz]; exact size_in HX.out.D1 s (askR_ok h0).1⟩
    have HNOT : Hid (qq ≠ 0 → entD 2 S.nx S.D s = S.D) := show _ → _ from fun h => if_neg (by rw [← hqq]; exact h)
    have HRW : Hid r.wf := show _ from by rw [hr]; exact askR_wf _ _ _ _
    have HRL : Hid (r.cells.length = zlTx.length) := show _ = _ from r.cells_length HRW.out.by_ HRW.out.tag
    have HSZ := Lib.hid hsz
    clear hr hqq hsz
    go_wp2_with fail
    refine (HIN.out _ HX.out.G).mono ?_
    rintro e w4 ⟨rfl, rfl⟩
    go_wp2_with fail
    refine (HASK.out _ HX.out.G (HR.out.below HX.out.b HR.out.1)).mono ?_
    rintro e w5 ⟨rfl, hb5⟩
    have HX5 := Lib.hid ((HX.out.next hb5).fresh Tryd.zeroCells25 25)
    have hz5 := txz_alloc w5
    clear hb5
    go_upto_region 11 with ((with_reducible refine wpList_store_whole rfl 25 (.tmp 11) (.tmp 66) rfl w5.heap.size r.cells zlTx 25 rfl rfl hz5 HRL.out (tx_info HRW.out) (start_one _) ?_); intro w6 hU6)
    have HX6 := Lib.hid (HX5.out.upd hU6.out)
    generalize w5.heap.size = b11 at *
    clear hz5 hU6 HX5
    go_wp2_with fail
    refine (HASK.out _ HX6.out.G (HR.out.below HX6.out.b HR.out.1)).mono ?_
    rintro e w7 ⟨rfl, hb7⟩
    have HX7 := Lib.hid ((HX6.out.next hb7).fresh Tryd.zeroCells25 25)
    have hz7 := txz_alloc w7
    clear hb7
    go_upto_region 12 with ((with_reducible refine wpList_store_whole rfl 25 (.tmp 13) (.tmp 72) rfl w7.heap.size r.cells zlTx 25 rfl rfl hz7 HRL.out (tx_info HRW.out) (start_one _) ?_); intro w8 hU8)
    have HX8 := Lib.hid (HX7.out.upd hU8.out)
    generalize w7.heap.size = b13 at *
    have hT13 := HX8.out.e0
    have hT11 := HX8.out.e1
    have hbb : (qq != qq) = false := by simp
    have hss : ((sz : Int) != (sz : Int)) = false := by simp
    clear hz7 hU8 HX7 HX6
    go_wp2_with (first
      | (with_reducible refine wpList_load_rows_g (by kernel_rfl) 25 (.tmp 11) rfl b11 0 r.cells r.cells 25 (0, 0) _ rfl hT11 id_at Tryd.underlying25 rfl (tx_info HRW.out) ?_)
      | (with_reducible refine wpList_load_rows_g (by kernel_rfl) 25 (.tmp 13) rfl b13 0 r.cells r.cells 25 (0, 0) _ rfl hT13 id_at Tryd.underlying25 rfl (tx_info HRW.out) ?_)
      | ((with_reducible refine wpList_bin_g (by kernel_rfl) .neq 25 25 (.tmp 74) (.tmp 75) rfl (.agg r.cells.toArray) (.agg r.cells.toArray) (.bool !(decide (r = r))) rfl rfl (tx_eqG _ _ _ _ _ _) (tx_neq HRW.out HRW.out _) ?_); rw [decide_eq_true (rfl : r = r)]))
    refine (HIN.out _ HX8.out.G).mono ?_
    rintro e w9 ⟨rfl, rfl⟩
    rcases HFIVE.out with rfl | ⟨rfl, rfl | rfl | rfl | rfl | rfl⟩
    · skip
      as_aux_lemma =>
        have HO := Lib.hid (HOKK.out rfl)
        clear HFIVE HOKK HNOT hT11 hT13
        go_wp2_with fail
        refine (HENT.out _ HX8.out.G (HR.out.below HX8.out.b HR.out.1)).mono ?_
        rintro e w10 ⟨rfl, htu, n', hn', hG10⟩
        rw [HO.out.1] at hG10
        have HX10 := Lib.hid ((HX8.out.gate htu hG10 (HX8.out.D1.put _)).fresh Tryd.zeroCells25 25)
        have hz10 := txz_alloc w10
        have hn10 : n' < maxLen := by unfold maxLen; omega
        clear htu hG10 hn' HENT HASK HIN
        go_upto_region 17 with ((with_reducible refine wpList_store_whole rfl 25 (.tmp 15) (.tmp 95) rfl w10.heap.size r.cells zlTx 25 rfl rfl hz10 HRL.out (tx_info HRW.out) (start_one _) ?_); intro w11 hU11)
        have HX11 := Lib.hid (HX10.out.upd hU11.out)
        clear hU11 hz10 HX10
        go_wp2_with fail
        refine (enter_any s g mb n' 2 S.nx (S.D.put (.string s.data.toList) (rowInt 1)) _ HX11.out.G HX11.out.D1 HS.out (HR.out.below HX11.out.b HR.out.1) hn10).mono ?_
        rintro e w12 ⟨rfl, htu, n2, hn2, hG12⟩
        have HE2 : Hid (entD 2 S.nx (S.D.put (.string s.data.toList) (rowInt 1)) s = S.D.put (.string s.data.toList) (rowInt 1)) := show _ = _ from if_neg (by rw [HO.out.2.1]; decide)
        rw [HE2.out] at hG12
        rw [HO.out.2.1]
        dsimp only
        have HX12 := Lib.hid ((HX11.out.gate htu hG12 HX11.out.D1).fresh Tryd.zeroCells25 25)
        have hz12 := txz_alloc w12
        have HI12 : Hid (∀ W, GAt W g 2 S.nx mb n2 (S.D.put (.string s.data.toList) (rowInt 1)) → Calls Tryd.prog 33 #[.pointer (some ⟨g, 0, none⟩)] W fun e w' => e = .returned (.int .i64 (sz + 1 : Nat)) ∧ w' = W) := show ∀ W, _ from fun W h => by
          rw [← HO.out.2.2]
          exact in_any g mb n2 2 S.nx _ W h
        clear htu hG12 hn2
        go_wp2_with ((with_reducible refine wpList_store_whole rfl 25 (.tmp 17) (.tmp 101) rfl w12.heap.size TX.zero.cells zlTx 25 rfl rfl hz12 rfl (tx_info TX.zero_wf) (start_one _) ?_); intro w13 hU13; have HX13 := Lib.hid (HX12.out.upd hU13.out); clear hz12)
        refine (HI12.out _ HX13.out.G).mono ?_
        rintro e w14 ⟨rfl, rfl⟩
        have e1 : IntKind.i64.wrap ((sz : Int) + 1) = ((sz + 1 : Nat) : Int) := by rw [show ((sz + 1 : Nat) : Int) = (sz : Int) + 1 by omega]; exact IntWalk.i64_in _ (by omega)
        go_wp2_with fail
        go_ret
        exact ⟨by simp, HX13.out.b⟩
    · skip
      as_aux_lemma =>
        have HE := Lib.hid (HNOT.out (by decide))
        go_wp2_with fail
        refine (HENT.out _ HX8.out.G (HR.out.below HX8.out.b HR.out.1)).mono ?_
        rintro e w10 ⟨rfl, htu, n', hn', hG10⟩
        rw [HE.out] at hG10
        have HX10 := Lib.hid ((HX8.out.gate htu hG10 HX8.out.D1).fresh Tryd.zeroCells25 25)
        have hz10 := txz_alloc w10
        have HG10 : Hid (GAt w10 g 2 S.nx mb n' S.D) := show GAt _ _ _ _ _ _ _ from hG10
        have HI10 : Hid (∀ W, GAt W g 2 S.nx mb n' S.D → Calls Tryd.prog 33 #[.pointer (some ⟨g, 0, none⟩)] W fun e w' => e = .returned (.int .i64 sz) ∧ w' = W) := show ∀ W, _ from fun W h => by
          rw [HSZ.out]
          exact in_any g mb n' 2 S.nx S.D W h
        clear htu hG10 hn' hT11 hT13
        go_wp2_with ((with_reducible refine wpList_store_whole rfl 25 (.tmp 19) (.tmp 126) rfl w10.heap.size TX.zero.cells zlTx 25 rfl rfl hz10 HRL.out (tx_info HRW.out) (start_one _) ?_); intro w11 hU11; have HX11 := Lib.hid (HX10.out.upd hU11.out); clear hz10)
        refine (HI10.out _ HX11.out.G).mono ?_
        rintro e w12 ⟨rfl, rfl⟩
        have hT11 := HX11.out.e2
        have hse : ((sz : Int) == (sz : Int)) = true := by simp
        go_wp2_with (first
          | (with_reducible refine wpList_load_rows_g (by kernel_rfl) 25 (.tmp 11) rfl b11 0 TX.zero.cells TX.zero.cells 25 (0, 0) _ rfl hT11 id_at Tryd.underlying25 rfl (tx_info HRW.out) ?_)
          | (with_reducible refine wpList_build_g (by kernel_rfl) 25 [] rfl [] (.agg TX.zero.cells.toArray) rfl (tx_build0 _) ?_)
          | ((with_reducible refine wpList_bin_g (by kernel_rfl) .eql 25 25 (.tmp 138) (.tmp 139) rfl (.agg TX.zero.cells.toArray) (.agg TX.zero.cells.toArray) (.bool (decide (TX.zero = TX.zero))) rfl rfl (tx_eqG _ _ _ _ _ _) (tx_eql HRW.out HRW.out _) ?_); rw [decide_eq_true (rfl : TX.zero = TX.zero)]))
        go_ret
        exact ⟨rfl, HX11.out.b⟩
    · skip
      as_aux_lemma =>
        have HE := Lib.hid (HNOT.out (by decide))
        go_wp2_with fail
        refine (HENT.out _ HX8.out.G (HR.out.below HX8.out.b HR.out.1)).mono ?_
        rintro e w10 ⟨rfl, htu, n', hn', hG10⟩
        rw [HE.out] at hG10
        have HX10 := Lib.hid ((HX8.out.gate htu hG10 HX8.out.D1).fresh Tryd.zeroCells25 25)
        have hz10 := txz_alloc w10
        have HG10 : Hid (GAt w10 g 2 S.nx mb n' S.D) := show GAt _ _ _ _ _ _ _ from hG10
        have HI10 : Hid (∀ W, GAt W g 2 S.nx mb n' S.D → Calls Tryd.prog 33 #[.pointer (some ⟨g, 0, none⟩)] W fun e w' => e = .returned (.int .i64 sz) ∧ w' = W) := show ∀ W, _ from fun W h => by
          rw [HSZ.out]
          exact in_any g mb n' 2 S.nx S.D W h
        clear htu hG10 hn' hT11 hT13
        go_wp2_with ((with_reducible refine wpList_store_whole rfl 25 (.tmp 19) (.tmp 126) rfl w10.heap.size TX.zero.cells zlTx 25 rfl rfl hz10 HRL.out (tx_info HRW.out) (start_one _) ?_); intro w11 hU11; have HX11 := Lib.hid (HX10.out.upd hU11.out); clear hz10)
        refine (HI10.out _ HX11.out.G).mono ?_
        rintro e w12 ⟨rfl, rfl⟩
        have hT11 := HX11.out.e2
        have hse : ((sz : Int) == (sz : Int)) = true := by simp
        go_wp2_with (first
          | (with_reducible refine wpList_load_rows_g (by kernel_rfl) 25 (.tmp 11) rfl b11 0 TX.zero.cells TX.zero.cells 25 (0, 0) _ rfl hT11 id_at Tryd.underlying25 rfl (tx_info HRW.out) ?_)
          | (with_reducible refine wpList_build_g (by kernel_rfl) 25 [] rfl [] (.agg TX.zero.cells.toArray) rfl (tx_build0 _) ?_)
          | ((with_reducible refine wpList_bin_g (by kernel_rfl) .eql 25 25 (.tmp 138) (.tmp 139) rfl (.agg TX.zero.cells.toArray) (.agg TX.zero.cells.toArray) (.bool (decide (TX.zero = TX.zero))) rfl rfl (tx_eqG _ _ _ _ _ _) (tx_eql HRW.out HRW.out _) ?_); rw [decide_eq_true (rfl : TX.zero = TX.zero)]))
        go_ret
        exact ⟨rfl, HX11.out.b⟩
    · skip
      as_aux_lemma =>
        have HE := Lib.hid (HNOT.out (by decide))
        go_wp2_with fail
        refine (HENT.out _ HX8.out.G (HR.out.below HX8.out.b HR.out.1)).mono ?_
        rintro e w10 ⟨rfl, htu, n', hn', hG10⟩
        rw [HE.out] at hG10
        have HX10 := Lib.hid ((HX8.out.gate htu hG10 HX8.out.D1).fresh Tryd.zeroCells25 25)
        have hz10 := txz_alloc w10
        have HG10 : Hid (GAt w10 g 2 S.nx mb n' S.D) := show GAt _ _ _ _ _ _ _ from hG10
        have HI10 : Hid (∀ W, GAt W g 2 S.nx mb n' S.D → Calls Tryd.prog 33 #[.pointer (some ⟨g, 0, none⟩)] W fun e w' => e = .returned (.int .i64 sz) ∧ w' = W) := show ∀ W, _ from fun W h => by
          rw [HSZ.out]
          exact in_any g mb n' 2 S.nx S.D W h
        clear htu hG10 hn' hT11 hT13
        go_wp2_with ((with_reducible refine wpList_store_whole rfl 25 (.tmp 19) (.tmp 126) rfl w10.heap.size TX.zero.cells zlTx 25 rfl rfl hz10 HRL.out (tx_info HRW.out) (start_one _) ?_); intro w11 hU11; have HX11 := Lib.hid (HX10.out.upd hU11.out); clear hz10)
        refine (HI10.out _ HX11.out.G).mono ?_
        rintro e w12 ⟨rfl, rfl⟩
        have hT11 := HX11.out.e2
        have hse : ((sz : Int) == (sz : Int)) = true := by simp
        go_wp2_with (first
          | (with_reducible refine wpList_load_rows_g (by kernel_rfl) 25 (.tmp 11) rfl b11 0 TX.zero.cells TX.zero.cells 25 (0, 0) _ rfl hT11 id_at Tryd.underlying25 rfl (tx_info HRW.out) ?_)
          | (with_reducible refine wpList_build_g (by kernel_rfl) 25 [] rfl [] (.agg TX.zero.cells.toArray) rfl (tx_build0 _) ?_)
          | ((with_reducible refine wpList_bin_g (by kernel_rfl) .eql 25 25 (.tmp 138) (.tmp 139) rfl (.agg TX.zero.cells.toArray) (.agg TX.zero.cells.toArray) (.bool (decide (TX.zero = TX.zero))) rfl rfl (tx_eqG _ _ _ _ _ _) (tx_eql HRW.out HRW.out _) ?_); rw [decide_eq_true (rfl : TX.zero = TX.zero)]))
        go_ret
        exact ⟨rfl, HX11.out.b⟩
    · skip
      as_aux_lemma =>
        have HE := Lib.hid (HNOT.out (by decide))
        go_wp2_with fail
        refine (HENT.out _ HX8.out.G (HR.out.below HX8.out.b HR.out.1)).mono ?_
        rintro e w10 ⟨rfl, htu, n', hn', hG10⟩
        rw [HE.out] at hG10
        have HX10 := Lib.hid ((HX8.out.gate htu hG10 HX8.out.D1).fresh Tryd.zeroCells25 25)
        have hz10 := txz_alloc w10
        have HG10 : Hid (GAt w10 g 2 S.nx mb n' S.D) := show GAt _ _ _ _ _ _ _ from hG10
        have HI10 : Hid (∀ W, GAt W g 2 S.nx mb n' S.D → Calls Tryd.prog 33 #[.pointer (some ⟨g, 0, none⟩)] W fun e w' => e = .returned (.int .i64 sz) ∧ w' = W) := show ∀ W, _ from fun W h => by
          rw [HSZ.out]
          exact in_any g mb n' 2 S.nx S.D W h
        clear htu hG10 hn' hT11 hT13
        go_wp2_with ((with_reducible refine wpList_store_whole rfl 25 (.tmp 19) (.tmp 126) rfl w10.heap.size TX.zero.cells zlTx 25 rfl rfl hz10 HRL.out (tx_info HRW.out) (start_one _) ?_); intro w11 hU11; have HX11 := Lib.hid (HX10.out.upd hU11.out); clear hz10)
        refine (HI10.out _ HX11.out.G).mono ?_
        rintro e w12 ⟨rfl, rfl⟩
        have hT11 := HX11.out.e2
        have hse : ((sz : Int) == (sz : Int)) = true := by simp
        go_wp2_with (first
          | (with_reducible refine wpList_load_rows_g (by kernel_rfl) 25 (.tmp 11) rfl b11 0 TX.zero.cells TX.zero.cells 25 (0, 0) _ rfl hT11 id_at Tryd.underlying25 rfl (tx_info HRW.out) ?_)
          | (with_reducible refine wpList_build_g (by kernel_rfl) 25 [] rfl [] (.agg TX.zero.cells.toArray) rfl (tx_build0 _) ?_)
          | ((with_reducible refine wpList_bin_g (by kernel_rfl) .eql 25 25 (.tmp 138) (.tmp 139) rfl (.agg TX.zero.cells.toArray) (.agg TX.zero.cells.toArray) (.bool (decide (TX.zero = TX.zero))) rfl rfl (tx_eqG _ _ _ _ _ _) (tx_eql HRW.out HRW.out _) ?_); rw [decide_eq_true (rfl : TX.zero = TX.zero)]))
        go_ret
        exact ⟨rfl, HX11.out.b⟩
    · skip
      as_aux_lemma =>
        have HE := Lib.hid (HNOT.out (by decide))
        go_wp2_with fail
        refine (HENT.out _ HX8.out.G (HR.out.below HX8.out.b HR.out.1)).mono ?_
        rintro e w10 ⟨rfl, htu, n', hn', hG10⟩
        rw [HE.out] at hG10
        have HX10 := Lib.hid ((HX8.out.gate htu hG10 HX8.out.D1).fresh Tryd.zeroCells25 25)
        have hz10 := txz_alloc w10
        have HG10 : Hid (GAt w10 g 2 S.nx mb n' S.D) := show GAt _ _ _ _ _ _ _ from hG10
        have HI10 : Hid (∀ W, GAt W g 2 S.nx mb n' S.D → Calls Tryd.prog 33 #[.pointer (some ⟨g, 0, none⟩)] W fun e w' => e = .returned (.int .i64 sz) ∧ w' = W) := show ∀ W, _ from fun W h => by
          rw [HSZ.out]
          exact in_any g mb n' 2 S.nx S.D W h
        clear htu hG10 hn' hT11 hT13
        go_wp2_with ((with_reducible refine wpList_store_whole rfl 25 (.tmp 19) (.tmp 126) rfl w10.heap.size TX.zero.cells zlTx 25 rfl rfl hz10 HRL.out (tx_info HRW.out) (start_one _) ?_); intro w11 hU11; have HX11 := Lib.hid (HX10.out.upd hU11.out); clear hz10)
        refine (HI10.out _ HX11.out.G).mono ?_
        rintro e w12 ⟨rfl, rfl⟩
        have hT11 := HX11.out.e2
        have hse : ((sz : Int) == (sz : Int)) = true := by simp
        go_wp2_with (first
          | (with_reducible refine wpList_load_rows_g (by kernel_rfl) 25 (.tmp 11) rfl b11 0 TX.zero.cells TX.zero.cells 25 (0, 0) _ rfl hT11 id_at Tryd.underlying25 rfl (tx_info HRW.out) ?_)
          | (with_reducible refine wpList_build_g (by kernel_rfl) 25 [] rfl [] (.agg TX.zero.cells.toArray) rfl (tx_build0 _) ?_)
          | ((with_reducible refine wpList_bin_g (by kernel_rfl) .eql 25 25 (.tmp 138) (.tmp 139) rfl (.agg TX.zero.cells.toArray) (.agg TX.zero.cells.toArray) (.bool (decide (TX.zero = TX.zero))) rfl rfl (tx_eqG _ _ _ _ _ _) (tx_eql HRW.out HRW.out _) ?_); rw [decide_eq_true (rfl : TX.zero = TX.zero)]))
        go_ret
        exact ⟨rfl, HX11.out.b⟩
end Go.Proofs.YtckfdmkjeocadaaDoor
