/- cavalcadelaw13.BoxBack: what the call does. -/
import Derived.Test.YtbeooeihedhabaaDoorBxAwake
import Derived.Test.YtbeooeihedhabaaDoorBxRBox
namespace Go.Proofs.YtbeooeihedhabaaDoor
open Go.RowKit
set_option maxHeartbeats 4000000
set_option maxRecDepth 4000
theorem u8_of_wf {n : Int} (h : (Lit.int .u8 n).wf = true) : ∃ k : Nat, n = k ∧ k < 256 := by
  have hw0 : IntKind.u8.min ≤ n ∧ n ≤ IntKind.u8.max := by simpa [Lit.wf] using h
  have h1 : IntKind.u8.min = 0 := by decide
  have h2 : IntKind.u8.max = 255 := by decide
  exact ⟨n.toNat, by omega, by omega⟩
theorem headL_length {w : Nat} {l : List UInt8} (h : l.length ≤ 32768) : (headL w l).length ≤ 9 := by
  have hn := numB_length_le 2 l.length (by omega)
  simp only [headL, List.length_append, List.length_cons, numEnc_length, be32_length]
  omega
theorem way_back {b : BT} {k : Nat} (hk : k ≤ 3) (hl : weigh b.parts ≤ 600) (h : b.wr.2 = 0) (hs : (headL k b.wr.1.data.toList ++ wayL k b.wr.1.data.toList).length ≤ 65504) : rdBox (postOf (headL k b.wr.1.data.toList ++ wayL k b.wr.1.data.toList)) = .ok b := by
  have h4 := wr_size hl h
  have h5 : b.wr.1.data.toList.length = b.wr.1.size := rfl
  rw [rdBox_post hs]
  refine rdIn_ok (open_head hk (by omega) (by omega)) ?_
  rw [bstr_of]
  exact rdB_wr hl h
theorem wpk_le2 (l : List UInt8) : (wpk l).length ≤ 2 * l.length := by
  have := wpF_length (bstr (statL ++ l)) _ 68 68 (Nat.le_refl _) (Nat.le_refl _) (by rw [bstr_size, List.length_append, statL_length]; omega)
  rw [bstr_size, List.length_append, statL_length] at this
  rw [wpk]
  omega
theorem wayL_le2 {k : Nat} (hk : k ≤ 3) (l : List UInt8) : (wayL k l).length ≤ 4 * l.length + 4 := by
  have h1 := (rpk_len128 _ l (Nat.le_refl _)).1
  have h2 := wpk_le2 l
  have h3 := wpk_le2 (rpk l)
  rcases (show k = 0 ∨ k = 1 ∨ k = 2 ∨ k = 3 by omega) with rfl | rfl | rfl | rfl
  · rw [wayL]; omega
    all_goals decide
  · rw [wayL]; omega
  · rw [wayL]; omega
  · rw [wayL]; omega
theorem wr_light {b : BT} (hl : weigh b.parts ≤ 600) (h : b.wr.2 = 0) : b.wr.1.size ≤ 2000 := by
  unfold BT.wr at h ⊢
  split at h
  · rename_i hb
    rw [if_pos hb]
    cases ht : txts b.parts with
    | none => rw [ht] at h; cases h
    | some ts =>
      obtain ⟨h1, h2⟩ := lay_small hb ht hl
      have h3 := (txts_len ht).1
      have h4 := weigh_len b.parts
      have h5 := encList_length (ls := b.lay ts) h1 (by omega)
      have h6 : (b.lay ts).length = 3 + ts.length := by simp [BT.lay, nums3]; omega
      dsimp only
      rw [bstr_size]
      omega
  · cases h
theorem bat_cells {W : World} {b : Nat} {x y z : Int} {v : Value} {T : TypeId} {fr : Nat × Nat} (h : W.heap[b]? = some (.cells #[.int .i64 x, .int .i64 y, .int .i64 z, v] T fr)) : W.cell? ⟨b, 0, none⟩ = some (.int .i64 x) ∧ W.cell? ⟨b, 1, none⟩ = some (.int .i64 y) ∧ W.cell? ⟨b, 2, none⟩ = some (.int .i64 z) ∧ W.cell? ⟨b, 3, none⟩ = some v := by
  refine ⟨?_, ?_, ?_, ?_⟩ <;> rw [cell_of_row _ _ _ _ _ _ h] <;> rfl
theorem boxBack_any (b : BT) (v : Value) (y : Nat) (w : World) (hv : PtsAt w v b.parts) (hm : b.parts.length ≤ 140737488351232) (hs : ∀ p ∈ b.parts, p.text.size ≤ 140737488351232) (hy : y < 256) (hR : RoundsAt w) :
    Calls Tryd.prog 6 #[.agg (b.cells v).toArray, .int .u8 y] w fun e w' => e = .returned (.bool true) ∧ Below w.heap.size w w' := by
  obtain ⟨q, c, rfl⟩ := hv.shape
  have hb0 := bw_alloc (Below.refl w.heap.size w) (.cells (b.cells (.slice q b.parts.length c)).toArray 24)
  have hz := heap_alloc_new w (.cells (b.cells (.slice q b.parts.length c)).toArray 24)
  have HB0 := Lib.hid hb0
  have HZ := Lib.hid hz
  have HR := Lib.hid hR
  have HV := Lib.hid (hv.below hb0)
  have HL := light_any b _ _ (hv.below hb0) (Nat.le_trans hm (by decide)) (fun x hx => Nat.le_trans (hs x hx) (by decide))
  have HM : Hid (b.parts.length ≤ 9223372036854775806) := show _ ≤ _ from Nat.le_trans hm (by decide)
  obtain ⟨g, hg⟩ : ∃ g, g = decide (weigh b.parts ≤ 600) := ⟨_, rfl⟩
  rw [← hg] at HL
  have HL := Lib.hid HL
  have HG := Lib.hid hg
  clear hb0 hv hm hs hR hg
  go_enter Tryd.func6, Tryd.ntmps6
  go_wp2_with
    (with_reducible refine wpList_load_rows rfl 24 (.tmp 2) rfl w.heap.size 0 (b.cells (.slice q b.parts.length c)) (b.cells (.slice q b.parts.length c)) 24 (0, 0) _ rfl (by assumption) id_at Tryd.underlying24 rfl (batch_info4 _ rfl) ?_)
  refine HL.out.mono ?_
  rintro e w1 ⟨rfl, hb1⟩
  have HB1 := Lib.hid (bw_call HB0.out hb1)
  have hz1 := (hb1.block _ (block_lt HZ.out)).trans HZ.out
  have HV1 := Lib.hid (HV.out.below hb1)
  clear hb1 hz HL HV
  cases g with
  | false =>
    go_wp2_with fail
    refine (awake13_any _ (HR.out.below HB1.out HR.out.1)).mono ?_
    rintro e w2 ⟨rfl, hb2⟩
    have HB2 := Lib.hid (bw_call HB1.out hb2)
    clear hb2
    go_wp2_with fail
    go_ret
    exact ⟨rfl, HB2.out⟩
  | true =>
    have hl : weigh b.parts ≤ 600 := by have := HG.out.symm; simpa using this
    have HLL := Lib.hid hl
    obtain ⟨S, hS⟩ : ∃ S, S = b.post.1 := ⟨_, rfl⟩
    obtain ⟨E, hE⟩ : ∃ E, E = b.post.2 := ⟨_, rfl⟩
    have HW := Lib.hid (post_any b _ w1 HV1.out hl (HR.out.below HB1.out HR.out.1))
    rw [← hS, ← hE] at HW
    have HSE := Lib.hid hS
    have HEE := Lib.hid hE
    clear hS hE hl
    go_wp2_with
      (with_reducible refine wpList_load_rows rfl 24 (.tmp 2) rfl w.heap.size 0 (b.cells (.slice q b.parts.length c)) (b.cells (.slice q b.parts.length c)) 24 (0, 0) _ rfl (by assumption) id_at Tryd.underlying24 rfl (batch_info4 _ rfl) ?_)
    refine HW.out.mono ?_
    rintro e w2 ⟨rfl, hb2⟩
    have HB2 := Lib.hid (bw_call HB1.out hb2)
    have hz2 := (hb2.block _ (block_lt hz1)).trans hz1
    have HV2 := Lib.hid (HV1.out.below hb2)
    clear hb2 hz1
    go_wp2_with fail
    refine (awake13_any _ (HR.out.below HB2.out HR.out.1)).mono ?_
    rintro e w3 ⟨rfl, hb3⟩
    have HB3 := Lib.hid (bw_call HB2.out hb3)
    have hz3 := (hb3.block _ (block_lt hz2)).trans hz2
    have HV3 := Lib.hid (HV2.out.below hb3)
    clear hb3 hz2
    by_cases hE0 : E = 0
    · have qe : (E != 0) = false := by rw [hE0]; rfl
      have hp0 : b.post.2 = 0 := HEE.out.symm.trans hE0
      have hw0 := (post_zero hp0).1
      have hwl := wr_light HLL.out hw0
      have hbk := box_back HLL.out hp0
      have hps := post_short HLL.out hp0
      rw [← HSE.out] at hbk hps
      obtain ⟨k, hk⟩ : ∃ k, k = y % 4 := ⟨_, rfl⟩
      have hk3 : k ≤ 3 := by omega
      have e1 : (y : Int) % 4 = (k : Int) := by omega
      obtain ⟨T, hT⟩ : ∃ T, T = b.wr.1 := ⟨_, rfl⟩
      rw [← hT] at hwl
      have hTl : T.data.toList.length = T.size := rfl
      obtain ⟨Hd, hHd⟩ : ∃ Hd, Hd = bstr (headL k T.data.toList) := ⟨_, rfl⟩
      obtain ⟨Bd, hBd⟩ : ∃ Bd, Bd = bstr (wayL k T.data.toList) := ⟨_, rfl⟩
      have hHs : Hd.size ≤ 9 := by rw [hHd, bstr_size]; exact headL_length (by omega)
      have hBs : Bd.size ≤ 8004 := by rw [hBd, bstr_size]; have := wayL_le2 hk3 T.data.toList; omega
      obtain ⟨C, hC⟩ : ∃ C, Hd ++ Bd = C := ⟨_, rfl⟩
      have hCl : C.data.toList = headL k T.data.toList ++ wayL k T.data.toList := by rw [← hC, hHd, hBd, bstr_append]; rfl
      have hCs : C.size ≤ 8013 := by rw [← hC, ByteArray.size_append]; omega
      have hyb := way_back (b := b) hk3 HLL.out hw0 (by
        rw [← hT, ← hCl]
        show C.size ≤ _
        omega)
      rw [← hT, ← hCl] at hyb
      obtain ⟨U, hU⟩ : ∃ U, U = postOf C.data.toList := ⟨_, rfl⟩
      have hUs : U.size ≤ 65536 := by rw [hU]; have := postOf_size (c := C.data.toList) (show C.size ≤ _ by omega); have h2 : C.data.toList.length = C.size := rfl; omega
      rw [← hU] at hyb
      have hzz : Hd.size + Bd.size ≤ 9223372036854775807 := by omega
      have HH : Hid (∀ W, Calls Tryd.prog 21 #[.int .i64 k, .string T] W fun e w' => e = .returned (.string Hd) ∧ Below W.heap.size W w') := show ∀ W, _ from fun W => by rw [hHd]; exact head_any k T W hk3 (by omega)
      have HY : Hid (∀ W, Calls Tryd.prog 22 #[.int .i64 k, .string T] W fun e w' => e = .returned (.string Bd) ∧ Below W.heap.size W w') := show ∀ W, _ from fun W => by rw [hBd]; exact way_any k T W hk3 (by omega)
      have HSL : Hid (∀ W, Calls Tryd.prog 20 #[.string C] W fun e w' => e = .returned (.tuple #[.string U, .int .i64 0]) ∧ Below W.heap.size W w') := show ∀ W, _ from fun W => by rw [hU]; exact seal_ok C W (by omega)
      have HRW := Lib.hid (fun W hv => rwbatch_any b (.slice q b.parts.length c) W hv HLL.out)
      rw [← hT, hw0] at HRW
      obtain ⟨sq, fs, bf, ps⟩ := b
      obtain ⟨np, hnp⟩ : ∃ np, np = ps.length := ⟨_, rfl⟩
      have HRD : Hid (∀ s W, (s.size ≤ 140737488355328 ∧ rdBox s = .ok ⟨sq, fs, bf, ps⟩) → RoundsAt W → Calls Tryd.prog 13 #[.string s] W fun e w' => (∃ q c, e = .returned (.tuple #[.agg #[.int .i64 sq, .int .i64 fs, .int .i64 bf, .slice q np c], .int .i64 0]) ∧ RdRows w' (.slice q np c) 2 (ps.map PT.cells) (fun k => W.heap.size ≤ k)) ∧ Below W.heap.size W w') := show ∀ s W, _ from fun s W hsz hRW => by
        refine (bxread_any s W hsz.1 hRW).mono ?_
        rintro e w' ⟨h1, h2⟩
        rw [hsz.2] at h2
        obtain ⟨v', he, hr'⟩ := h2
        obtain ⟨A, c', hv', _⟩ := id hr'
        dsimp only at hv'
        rw [List.length_map, ← hnp] at hv'
        subst hv'
        exact ⟨⟨A, c', he, hr'⟩, h1⟩
      have HSB : Hid (S.size ≤ 140737488355328 ∧ rdBox S = .ok ⟨sq, fs, bf, ps⟩) := show _ ∧ _ from ⟨by omega, hbk⟩
      have HUB : Hid (U.size ≤ 140737488355328 ∧ rdBox U = .ok ⟨sq, fs, bf, ps⟩) := show _ ∧ _ from ⟨by omega, hyb⟩
      dsimp only at hz3 HM HV3
      rw [← hnp] at hz3 HM
      have HV3x : Hid (RdRows w3 (.slice q np c) 2 (ps.map PT.cells) (fun b => b < w3.heap.size)) := show RdRows _ _ _ _ _ from by
        have h : RdRows w3 (.slice q ps.length c) 2 (ps.map PT.cells) (fun b => b < w3.heap.size) := HV3.out
        rw [← hnp] at h
        exact h
      have HRWx : Hid (∀ W, RdRows W (.slice q np c) 2 (ps.map PT.cells) (fun b => b < W.heap.size) → Calls Tryd.prog 19 #[.agg #[.int .i64 sq, .int .i64 fs, .int .i64 bf, .slice q np c]] W fun e w' => e = .returned (.tuple #[.string T, .int .i64 0]) ∧ Below W.heap.size W w') := show ∀ W, _ from fun W hW => by
        have h := HRW.out W (by
          show RdRows W (.slice q ps.length c) 2 (ps.map PT.cells) (fun b => b < W.heap.size)
          rw [← hnp]
          exact hW)
        dsimp only at h
        rw [← hnp] at h
        exact h
      have hz3 : w3.heap[w.heap.size]? = some (.cells #[.int .i64 sq, .int .i64 fs, .int .i64 bf, .slice q np c] 24 (0, 0)) := hz3
      have HNP : Hid (ps.length ≤ 9223372036854775806) := show _ ≤ _ from by rw [← hnp]; exact HM.out
      clear HV3 HRW hbk hyb hk hHd hBd hCl hU hT hps hwl hw0 hp0 hCs hUs hHs hBs hE0 HW hnp hTl
      go_wp2_with fail
      refine (HRD.out S _ HSB.out (HR.out.below HB3.out HR.out.1)).mono ?_
      rintro e w4 ⟨⟨qx, cx, rfl, hrx⟩, hb4⟩
      have h4b := (hb4.block _ (block_lt hz3)).trans hz3
      have h4 := (Below.heap_alloc w4 (.cells #[.int .i64 sq, .int .i64 fs, .int .i64 bf, .slice qx np cx] 24) _ (block_lt h4b)).trans h4b
      have hx4 := heap_alloc_new w4 (.cells #[.int .i64 sq, .int .i64 fs, .int .i64 bf, .slice qx np cx] 24)
      have hbb := bw_alloc hb4 (.cells #[.int .i64 sq, .int .i64 fs, .int .i64 bf, .slice qx np cx] 24)
      have HX4 := Lib.hid (hrx.kept (W' := w4.alloc (.cells #[.int .i64 sq, .int .i64 fs, .int .i64 bf, .slice qx np cx] 24)) (by simp) fun k hk _ => (bw_alloc (Below.refl w4.heap.size w4) _).block k hk)
      have HV4 := Lib.hid ((HV3x.out.kept hbb.size fun k hk _ => hbb.block k hk).mono fun k _ hk => Nat.lt_of_lt_of_le hk hbb.size)
      have HB4 := Lib.hid (bw_alloc (bw_call HB3.out hb4) (.cells #[.int .i64 sq, .int .i64 fs, .int .i64 bf, .slice qx np cx] 24))
      clear hb4 hrx h4b hbb hz3 HV3x
      obtain ⟨k0, k1, k2, k3⟩ := bat_cells h4
      go_wp2_with fail
      clear k0 k1 k2 k3
      generalize w4.alloc (.cells #[.int .i64 sq, .int .i64 fs, .int .i64 bf, .slice qx np cx] 24) = W4 at *
      refine (HRWx.out W4 HV4.out).mono ?_
      rintro e w5 ⟨rfl, hb5⟩
      go_wp2_with fail
      refine (HH.out _).mono ?_
      rintro e w6 ⟨rfl, hb6⟩
      go_wp2_with fail
      refine (HY.out _).mono ?_
      rintro e w7 ⟨rfl, hb7⟩
      go_wp2_with fail
      refine (HSL.out _).mono ?_
      rintro e w8 ⟨rfl, hb8⟩
      have hb58 := bw_call (bw_call (bw_call hb5 hb6) hb7) hb8
      have h8 := (hb58.block _ (block_lt h4)).trans h4
      have hx8 := (hb58.block _ (block_lt hx4)).trans hx4
      have HX8 := Lib.hid (HX4.out.kept hb58.size fun k hk _ => hb58.block k hk)
      have HV8 := Lib.hid (HV4.out.kept hb58.size fun k hk _ => hb58.block k hk)
      have HB8 := Lib.hid (bw_call HB4.out hb58)
      clear hb5 hb6 hb7 hb8 hb58 h4 hx4
      go_wp2_with fail
      refine (HRD.out U _ HUB.out (HR.out.below HB8.out HR.out.1)).mono ?_
      rintro e w9 ⟨⟨qy, cy, rfl, hry⟩, hb9⟩
      have hbb := bw_alloc hb9 (.cells #[.int .i64 sq, .int .i64 fs, .int .i64 bf, .slice qy np cy] 24)
      have h9 := (hbb.block _ (block_lt h8)).trans h8
      have hx9 := (hbb.block _ (block_lt hx8)).trans hx8
      have hy9 := heap_alloc_new w9 (.cells #[.int .i64 sq, .int .i64 fs, .int .i64 bf, .slice qy np cy] 24)
      have HX9 := Lib.hid (HX8.out.kept hbb.size fun k hk _ => hbb.block k hk)
      have HV9 := Lib.hid (HV8.out.kept hbb.size fun k hk _ => hbb.block k hk)
      have HY9 := Lib.hid (hry.kept (W' := w9.alloc (.cells #[.int .i64 sq, .int .i64 fs, .int .i64 bf, .slice qy np cy] 24)) (by simp) fun k hk _ => (bw_alloc (Below.refl w9.heap.size w9) _).block k hk)
      have HB9 := Lib.hid (bw_call HB8.out hbb)
      clear hb9 hbb hry h8 hx8
      obtain ⟨k0, k1, k2, k3⟩ := bat_cells h9
      obtain ⟨l0, l1, l2, l3⟩ := bat_cells hx9
      obtain ⟨m0, m1, m2, m3⟩ := bat_cells hy9
      go_wp2_with fail
      generalize w9.alloc (.cells #[.int .i64 sq, .int .i64 fs, .int .i64 bf, .slice qy np cy] 24) = W9 at *
      have HS1 : Hid (Calls Tryd.prog 15 #[.agg #[.int .i64 sq, .int .i64 fs, .int .i64 bf, .slice qx np cx], .agg #[.int .i64 sq, .int .i64 fs, .int .i64 bf, .slice q np c]] W9 fun e w' => e = .returned (.bool true) ∧ Below W9.heap.size W9 w') := show Calls _ _ _ _ _ from by
        have h := batches_any ⟨sq, fs, bf, ps⟩ ⟨sq, fs, bf, ps⟩ (.slice qx np cx) (.slice q np c) W9 _ _ HX9.out HV9.out HNP.out
        rw [decide_eq_true rfl] at h
        exact h
      refine HS1.out.mono ?_
      rintro e w10 ⟨rfl, hb10⟩
      have h10 := (hb10.block _ (block_lt h9)).trans h9
      have hy10 := (hb10.block _ (block_lt hy9)).trans hy9
      have HV10 := Lib.hid (HV9.out.kept hb10.size fun k hk _ => hb10.block k hk)
      have HY10 := Lib.hid (HY9.out.kept hb10.size fun k hk _ => hb10.block k hk)
      have HB10 := Lib.hid (bw_call HB9.out hb10)
      clear hb10 h9 hx9 hy9 k0 k1 k2 k3 l0 l1 l2 l3 m0 m1 m2 m3
      obtain ⟨k0, k1, k2, k3⟩ := bat_cells h10
      obtain ⟨m0, m1, m2, m3⟩ := bat_cells hy10
      have HS2 : Hid (Calls Tryd.prog 15 #[.agg #[.int .i64 sq, .int .i64 fs, .int .i64 bf, .slice qy np cy], .agg #[.int .i64 sq, .int .i64 fs, .int .i64 bf, .slice q np c]] w10 fun e w' => e = .returned (.bool true) ∧ Below w10.heap.size w10 w') := show Calls _ _ _ _ _ from by
        have h := batches_any ⟨sq, fs, bf, ps⟩ ⟨sq, fs, bf, ps⟩ (.slice qy np cy) (.slice q np c) w10 _ _ HY10.out HV10.out HNP.out
        rw [decide_eq_true rfl] at h
        exact h
      go_wp2_with fail
      refine HS2.out.mono ?_
      rintro e w11 ⟨rfl, hb11⟩
      have HB11 := Lib.hid (bw_call HB10.out hb11)
      clear hb11 h10 hy10
      go_wp2_with fail
      go_ret
      exact ⟨rfl, HB11.out⟩
    · have qe : (E != 0) = true := bne_iff_ne.2 hE0
      have hse : S.toList.isEmpty = true := by
        rw [empty_is, HSE.out, post_err (by rw [← HEE.out]; exact hE0)]
        rfl
      clear hE0
      go_wp2_with fail
      refine (awake13_any _ (HR.out.below HB3.out HR.out.1)).mono ?_
      rintro e w4 ⟨rfl, hb4⟩
      have HB4 := Lib.hid (bw_call HB3.out hb4)
      clear hb4
      go_wp2_with fail
      go_ret
      exact ⟨rfl, HB4.out⟩
end Go.Proofs.YtbeooeihedhabaaDoor
