/- cavalcaderef13.Landed: what the call does. -/
import Derived.Test.YtbeooeihedhabaaDoorBxLand
import Derived.Test.YtbeooeihedhabaaDoorBxRBox
namespace Go.Proofs.YtbeooeihedhabaaDoor
open Go.RowKit
set_option maxHeartbeats 4000000
set_option maxRecDepth 4000
-- A
theorem bxrland_any (q : Option Addr) (c : Nat) (bks : List BK) (w : World) (h : BksAt w (.slice q bks.length c) bks) (hlen : bks.length ≤ 9223372036854775807) :
    Calls Tryd.prog 18 #[.slice q bks.length c] w fun e w' => ∃ v l, e = .returned v ∧ prs l = land bks ∧ LdAt w.heap.size w w' v l := by
  obtain ⟨i0, hi, hz0, hz1, hz2⟩ := info_parts ld_info
  have HA := Lib.hid h
  obtain ⟨n, hn⟩ : ∃ n, n = bks.length := ⟨_, rfl⟩
  rw [← hn] at HA hlen ⊢
  have HN := Lib.hid hn
  clear h hn
  go_enter Tryd.func18, Tryd.ntmps18
  go_wp2_with fail
  go_loopg [3, 4] n (fun gk o_ i_ wr => ∃ (k : Nat) (v : Value) (l : List LV), k + gk = n ∧ i_ = .int .i64 k ∧ v = o_ ∧ Hid (prs l = land (bks.take k)) ∧ Hid (LdAt w.heap.size w wr v l))
  case atStart => exact ⟨0, .slice none 0 0, [], by omega, rfl, rfl, (show _ = _ from rfl), (show LdAt _ _ _ _ _ from LdAt.start w)⟩
  case round =>
    obtain ⟨k, v, l, hkn, rfl, rfl, HL, HD⟩ := hrel
    generalize gk = go at *
    by_cases hlt : k < n
    · have f0 : (0 : Int) ≤ k := by omega
      have f1 : (k : Int) < n := by omega
      have hkl : k < bks.length := by have := HN.out; omega
      have HBw := Lib.hid (HA.out.below (HD.out.b.mono (Nat.le_refl _)))
      obtain ⟨g, o, hq, hgl, -, hc⟩ := HBw.out.1.at k (by rw [List.length_map]; exact hkl)
      subst hq
      rw [List.getElem_map] at hc
      obtain ⟨b, hb⟩ : ∃ b, b = bks[k]'hkl := ⟨_, rfl⟩
      rw [← hb] at hc
      obtain ⟨hit, hpl, hml, hts⟩ := HBw.out.2 b (by rw [hb]; exact List.getElem_mem hkl)
      have HPL := Lib.hid hpl
      have HTS := Lib.hid hts
      have hIV : ∃ qi ci, b.iv = .slice qi b.items.length ci := by
        obtain ⟨A, c', e, _⟩ := hit
        exact ⟨A, c', by rw [e, List.length_map]⟩
      obtain ⟨qi, ci, hiv⟩ := hIV
      have HIV := Lib.hid hiv
      have HIT : Hid (RdRows w (.slice qi b.items.length ci) 4 (b.items.map IT.cells) (fun k => k < w.heap.size)) := show RdRows _ _ _ _ _ from by
        rw [← hiv]
        exact (HA.out.2 b (by rw [hb]; exact List.getElem_mem hkl)).1
      obtain ⟨m, hm⟩ : ∃ m, m = b.items.length := ⟨_, rfl⟩
      rw [← hm] at HIT hiv HIV hml
      have HM := Lib.hid hm
      have HTK : Hid (land (bks.take (k + 1)) = landB (land (bks.take k)) b) := show _ = _ from by rw [List.take_succ_eq_append_getElem hkl, ← hb, land_snoc]
      have HBK : Hid (bks[k]'hkl = b) := show _ = _ from hb.symm
      clear hc hb hit hpl hts hiv hm
      have HCN : Hid (∀ W, Below w.heap.size w W → W.cell? ⟨g, o + k * 35, none⟩ = some (.int .i64 b.number) ∧ W.cell? ⟨g, o + k * 35 + 34, none⟩ = some (.slice qi m ci)) := show ∀ W, _ from fun W hW => by
        obtain ⟨g', o', hq', hgl', -, hc'⟩ := (HA.out.below hW).1.at k (by rw [List.length_map]; exact hkl)
        injection hq' with hq'
        injection hq' with e1 e2
        subst e1 e2
        rw [List.getElem_map] at hc'
        have hbb : bks[k]'hkl = b := HBK.out
        rw [hbb] at hc'
        exact ⟨hc' 0 _ rfl, hc' 34 _ (by rw [BK.at_items HPL.out, HIV.out])⟩
      have hHC := HCN.out wr HD.out.b
      have hc0 := hHC.1
      have hc34 := hHC.2
      clear hHC
      go_wp2_with fail
      clear hc0 hc34
      obtain ⟨L0, hL0⟩ : ∃ L0, L0 = land (bks.take k) := ⟨_, rfl⟩
      rw [← hL0] at HL HTK
      clear hL0
      go_loopg [3, 5] m (fun gk o_ i_ wr => ∃ (j : Nat) (v : Value) (l : List LV), j + gk = m ∧ i_ = .int .i64 j ∧ v = o_ ∧ Hid (prs l = (b.items.take j).foldl (landStep b.number) L0) ∧ Hid (LdAt w.heap.size w wr v l))
      case atStart => exact ⟨0, v, l, by omega, rfl, rfl, HL, HD⟩
      case round =>
        obtain ⟨j, v, l, hjm, rfl, rfl, HLJ, HI⟩ := hrel
        by_cases hjl : j < m
        · have hjl2 : j < b.items.length := by have := HM.out; omega
          have e0 : (0 : Int) ≤ j := by omega
          have e1 : (j : Int) < m := by omega
          obtain ⟨gi, oi, hqi, hgil, -, hci⟩ := (HIT.out.below HI.out.b (fun _ h => h)).at j (by rw [List.length_map]; exact hjl2)
          subst hqi
          rw [List.getElem_map] at hci
          obtain ⟨x, hx⟩ : ∃ x, x = b.items[j]'hjl2 := ⟨_, rfl⟩
          rw [← hx] at hci
          have HFS := fold_snoc b.number L0 b.items j hjl2
          rw [← HLJ.out, ← hx] at HFS
          have HFS := Lib.hid HFS
          have hts := HTS.out x (by rw [hx]; exact List.getElem_mem hjl2)
          have HWI := Lib.hid (fun W => ritem_any x W (by omega))
          have HRI := Lib.hid (fun W => bxrread_any x.text W (by omega))
          clear hx
          obtain ⟨kd, by_, nn, tx⟩ := x
          have d0 : wr.cell? ⟨gi, oi + j * 4, none⟩ = some (.int .i64 kd) := hci 0 _ rfl
          have d1 : wr.cell? ⟨gi, oi + j * 4 + 1, none⟩ = some (.int .i64 by_) := hci 1 _ rfl
          have d2 : wr.cell? ⟨gi, oi + j * 4 + 2, none⟩ = some (.int .i64 nn) := hci 2 _ rfl
          have d3 : wr.cell? ⟨gi, oi + j * 4 + 3, none⟩ = some (.string tx) := hci 3 _ rfl
          have hHC := HCN.out wr HI.out.b
          have hc34 := hHC.2
          clear hHC
          have HBS : Hid (w.heap.size ≤ wr.heap.size) := show _ ≤ _ from HI.out.b.size
          have hzi := heap_alloc_new wr (.cells #[.int .i64 kd, .int .i64 by_, .int .i64 nn, .string tx] 59)
          have HI6 := Lib.hid (HI.out.next (bw_alloc (Below.refl _ _) (.cells #[.int .i64 kd, .int .i64 by_, .int .i64 nn, .string tx] 59)) HBS.out)
          clear hci
          by_cases hk3 : kd = 3
          · have q3 : (kd != 3) = false := by rw [hk3]; rfl
            cases ho : (IT.mk kd by_ nn tx).ok with
            | false =>
              have HFF : Hid (prs l = (b.items.take (j + 1)).foldl (landStep b.number) L0) := show _ = _ from by rw [HFS.out, step_no (fun h => by rw [ho] at h; cases h.2)]
              have HWI : Hid (∀ W, Calls Tryd.prog 43 #[.agg #[.int .i64 kd, .int .i64 by_, .int .i64 nn, .string tx]] W fun e w' => e = .returned (.bool false) ∧ Below W.heap.size W w') := show ∀ W, _ from fun W => by
                have h := HWI.out W
                rw [ho] at h
                exact h
              clear ho hk3
              go_wp2_with fail
              refine (HWI.out _).mono ?_
              rintro e w5 ⟨rfl, hb5⟩
              have HI7 := Lib.hid (HI6.out.next hb5 HI6.out.b.size)
              clear hb5 hzi
              go_wp2_with fail
              go_roundg (gk - 1)
              case measure => omega
              case rel => exact ⟨j + 1, v, l, by omega, by go_num, rfl, HFF, HI7⟩
            | true =>
              have HKO : Hid ((IT.mk kd by_ nn tx).kind = 3 ∧ (IT.mk kd by_ nn tx).ok = true) := show _ ∧ _ from ⟨hk3, ho⟩
              have HWI : Hid (∀ W, Calls Tryd.prog 43 #[.agg #[.int .i64 kd, .int .i64 by_, .int .i64 nn, .string tx]] W fun e w' => e = .returned (.bool true) ∧ Below W.heap.size W w') := show ∀ W, _ from fun W => by
                have h := HWI.out W
                rw [ho] at h
                exact h
              clear ho hk3
              go_wp2_with fail
              refine (HWI.out _).mono ?_
              rintro e w5 ⟨rfl, hb5⟩
              have HI7 := Lib.hid (HI6.out.next hb5 HI6.out.b.size)
              have z3 : w5.cell? ⟨wr.heap.size, 3, none⟩ = some (.string tx) := by
                rw [cell_of_row _ _ _ _ _ _ ((hb5.block _ (block_lt hzi)).trans hzi)]
                rfl
              have HC7 := HRI.out w5
              clear hb5 hzi
              cases hrb : rdBox tx with
              | error x9 =>
                have HFF : Hid (prs l = (b.items.take (j + 1)).foldl (landStep b.number) L0) := show _ = _ from by rw [HFS.out, step_err (x := IT.mk kd by_ nn tx) hrb]
                have q9 : (x9 == 0) = false := by have := rdBox_ne hrb; simpa using this
                have HC7 : Hid (Calls Tryd.prog 14 #[.string tx] w5 fun e w' => e = .returned (.tuple #[.agg #[.int .i64 0, .int .i64 0, .int .i64 0, .slice none 0 0], .int .i64 x9]) ∧ Below w5.heap.size w5 w') := show Calls _ _ _ _ _ from by
                  refine HC7.mono ?_
                  rintro e w' ⟨h1, h2⟩
                  have h2 : RbxRes w5 (rdBox tx) e w' := h2
                  rw [hrb] at h2
                  exact ⟨h2, h1⟩
                clear hrb
                go_wp2_with fail
                refine HC7.out.mono ?_
                rintro e w6 ⟨rfl, hb6⟩
                have HI8 := Lib.hid ((HI7.out.next hb6 HI7.out.b.size).next (bw_alloc (Below.refl _ _) (.cells #[.int .i64 0, .int .i64 0, .int .i64 0, .slice none 0 0] 24)) (HI7.out.next hb6 HI7.out.b.size).b.size)
                clear hb6 z3
                go_wp2_with fail
                go_roundg (gk - 1)
                case measure => omega
                case rel => exact ⟨j + 1, v, l, by omega, by go_num, rfl, HFF, HI8⟩
              | ok bt =>
                have HNU := Lib.hid (rdBox_num hrb)
                have HSO := Lib.hid (step_ok (num := b.number) (acc := prs l) (x := IT.mk kd by_ nn tx) HKO.out hrb)
                obtain ⟨sq, fs, bf, ps⟩ := bt
                have HC7 : Hid (Calls Tryd.prog 14 #[.string tx] w5 fun e w' => (∃ qp cp, e = .returned (.tuple #[.agg #[.int .i64 sq, .int .i64 fs, .int .i64 bf, .slice qp ps.length cp], .int .i64 0]) ∧ RdRows w' (.slice qp ps.length cp) 2 (ps.map PT.cells) (fun k => w5.heap.size ≤ k)) ∧ Below w5.heap.size w5 w') := show Calls _ _ _ _ _ from by
                  refine HC7.mono ?_
                  rintro e w' ⟨h1, h2⟩
                  have h2 : RbxRes w5 (rdBox tx) e w' := h2
                  rw [hrb] at h2
                  obtain ⟨v', he, hr⟩ := h2
                  obtain ⟨A, c', hv', _⟩ := id hr
                  dsimp only at hv'
                  rw [List.length_map] at hv'
                  subst hv'
                  exact ⟨⟨A, c', he, hr⟩, h1⟩
                obtain ⟨np, hnp⟩ : ∃ np, np = ps.length := ⟨_, rfl⟩
                rw [← hnp] at HC7
                have HNP := Lib.hid hnp
                clear hrb hnp
                go_wp2_with fail
                refine HC7.out.mono ?_
                rintro e w6 ⟨⟨qp, cp, rfl, hrp⟩, hb6⟩
                have HI8 := Lib.hid (HI7.out.next hb6 HI7.out.b.size)
                have HRP : Hid (RdRows w6 (.slice qp np cp) 2 (ps.map PT.cells) (fun k => w.heap.size ≤ k ∧ v.ownBlock ≠ some k)) := show RdRows _ _ _ _ _ from hrp.mono fun k _ hk => ⟨Nat.le_trans HI7.out.b.size hk, fun e => by have := (HI7.out.own.lt _ e).2; omega⟩
                clear hb6 z3 hrp
                by_cases hsq : sq = l.length
                · have qs : (sq == (l.length : Int)) = true := beq_iff_eq.2 hsq
                  have hl40 : l.length ≤ 1099511627776 := by
                    have h : sq ≤ 1099511627776 := HNU.out.2
                    omega
                  have HFF : Hid (prs (l ++ [⟨b.number, ⟨sq, fs, bf, ps⟩, .slice qp np cp⟩]) = (b.items.take (j + 1)).foldl (landStep b.number) L0) := show _ = _ from by rw [HFS.out, HSO.out, if_pos (by rw [prs_len]; exact hsq), prs_snoc]
                  have HI9 := Lib.hid (HI8.out.next (bw_alloc (Below.refl _ _) (.cells #[.int .i64 sq, .int .i64 fs, .int .i64 bf, .slice qp np cp] 24)) HI8.out.b.size)
                  have HR9 := Lib.hid (HRP.out.kept (W' := w6.alloc (.cells #[.int .i64 sq, .int .i64 fs, .int .i64 bf, .slice qp np cp] 24)) (by simp) fun k hk _ => (bw_alloc (Below.refl w6.heap.size w6) (.cells #[.int .i64 sq, .int .i64 fs, .int .i64 bf, .slice qp np cp] 24)).block k hk)
                  have HFL := Lib.hid (ld_fill ⟨b.number, ⟨sq, fs, bf, ps⟩, .slice qp np cp⟩ hz1)
                  have hbd := ld_build b.number sq fs bf (.slice qp np cp) qp np cp rfl
                  have HBZ : Hid (w.heap.size ≤ w6.heap.size) := show _ ≤ _ from HI8.out.b.size
                  obtain ⟨qv, cv, rfl⟩ := row_shape HI8.out.own
                  have HZB := Lib.hid (heap_alloc_new w6 (.cells #[.int .i64 sq, .int .i64 fs, .int .i64 bf, .slice qp np cp] 24))
                  have HS6 : Hid ((w6.alloc (.cells #[.int .i64 sq, .int .i64 fs, .int .i64 bf, .slice qp np cp] 24)).heap.size = w6.heap.size + 1) := show _ = _ from by simp
                  have KEEP : Hid (∀ W, Below (w6.heap.size + 1) (w6.alloc (.cells #[.int .i64 sq, .int .i64 fs, .int .i64 bf, .slice qp np cp] 24)) W → W.cell? ⟨g, o + k * 35, none⟩ = some (.int .i64 b.number) ∧ W.cell? ⟨w6.heap.size, 0, none⟩ = some (.int .i64 sq) ∧ W.cell? ⟨w6.heap.size, 1, none⟩ = some (.int .i64 fs) ∧ W.cell? ⟨w6.heap.size, 2, none⟩ = some (.int .i64 bf) ∧ W.cell? ⟨w6.heap.size, 3, none⟩ = some (.slice qp np cp)) := show ∀ W, _ from fun W hW => by
                    have hz := (hW.block _ (by omega)).trans HZB.out
                    refine ⟨(HCN.out W (HI9.out.b.trans (hW.mono (Nat.le_trans HBZ.out (Nat.le_succ _))))).1, ?_, ?_, ?_, ?_⟩ <;> rw [cell_of_row _ _ _ _ _ _ hz] <;> rfl
                  clear hsq hc34
                  go_wp2_with fail
                  refine wp_region_held_drew (S := fun W => W.cell? ⟨g, o + k * 35, none⟩ = some (.int .i64 b.number) ∧ W.cell? ⟨w6.heap.size, 0, none⟩ = some (.int .i64 sq) ∧ W.cell? ⟨w6.heap.size, 1, none⟩ = some (.int .i64 fs) ∧ W.cell? ⟨w6.heap.size, 2, none⟩ = some (.int .i64 bf) ∧ W.cell? ⟨w6.heap.size, 3, none⟩ = some (.slice qp np cp)) (by kernel_rfl) (KEEP.out _ (Below.refl _ _).drew) (fun _ => ?_)
                  refine rg_gen (i := 0) (v := ?_) rfl (by kernel_rfl) (by kernel_rfl) (by kernel_rfl) (fun _ _ _ h => h) rfl (by rfl) ?_ (by assumption) ?_
                  rotate_left
                  · intro w hSw
                    try dsimp only at hSw
                    go_simp
                    try with_reducible rfl
                  try simp only [Act.put, List.setIfInBounds_toArray, List.set_cons_zero, List.set_cons_succ]
                  refine rg_gen (i := 1) (v := ?_) rfl (by kernel_rfl) (by kernel_rfl) (by kernel_rfl) (fun _ _ _ h => h) rfl (by rfl) ?_ (by assumption) ?_
                  rotate_left
                  · intro w hSw
                    try dsimp only at hSw
                    go_simp
                    try with_reducible rfl
                  try simp only [Act.put, List.setIfInBounds_toArray, List.set_cons_zero, List.set_cons_succ]
                  refine rg_gen (i := 2) (v := ?_) rfl (by kernel_rfl) (by kernel_rfl) (by kernel_rfl) (fun _ _ _ h => h) rfl (by rfl) ?_ (by assumption) ?_
                  rotate_left
                  · intro w hSw
                    try dsimp only at hSw
                    go_simp
                    try with_reducible rfl
                  try simp only [Act.put, List.setIfInBounds_toArray, List.set_cons_zero, List.set_cons_succ]
                  refine rg_gen (i := 3) (v := ?_) rfl (by kernel_rfl) (by kernel_rfl) (by kernel_rfl) (fun _ _ _ h => h) rfl (by rfl) ?_ (by assumption) ?_
                  rotate_left
                  · intro w hSw
                    try dsimp only at hSw
                    go_simp
                    try with_reducible rfl
                  try simp only [Act.put, List.setIfInBounds_toArray, List.set_cons_zero, List.set_cons_succ]
                  refine rg_gen (i := 4) (v := ?_) rfl (by kernel_rfl) (by kernel_rfl) (by kernel_rfl) (fun _ _ _ h => h) rfl (by rfl) ?_ (by assumption) ?_
                  rotate_left
                  · intro w hSw
                    try dsimp only at hSw
                    go_simp
                    try with_reducible rfl
                  try simp only [Act.put, List.setIfInBounds_toArray, List.set_cons_zero, List.set_cons_succ]
                  refine rg_gen (i := 5) (v := ?_) rfl (by kernel_rfl) (by kernel_rfl) (by kernel_rfl) (fun _ _ _ h => h) rfl (by rfl) ?_ (by assumption) ?_
                  rotate_left
                  · intro w hSw
                    try dsimp only at hSw
                    go_simp
                    try with_reducible rfl
                  try simp only [Act.put, List.setIfInBounds_toArray, List.set_cons_zero, List.set_cons_succ]
                  refine rg_gen (i := 6) (v := ?_) rfl (by kernel_rfl) (by kernel_rfl) (by kernel_rfl) (fun _ _ _ h => h) rfl (by rfl) ?_ (by assumption) ?_
                  rotate_left
                  · intro w hSw
                    try dsimp only at hSw
                    go_simp
                    try with_reducible rfl
                  try simp only [Act.put, List.setIfInBounds_toArray, List.set_cons_zero, List.set_cons_succ]
                  refine rg_build (i := 7) rfl (by kernel_rfl) (by kernel_rfl) (by kernel_rfl) (fun _ _ _ h => h) rfl (by rfl) 43 [(0, .tmp 61), (1, .tmp 62)] rfl [(0, .int .i64 b.number), (1, .agg #[.int .i64 sq, .int .i64 fs, .int .i64 bf, .slice qp np cp])] rfl hbd (by assumption) ?_
                  try simp only [Act.put, List.setIfInBounds_toArray, List.set_cons_zero, List.set_cons_succ]
                  have HI9d : Hid (LdAt w.heap.size w (w6.alloc (.cells #[.int .i64 sq, .int .i64 fs, .int .i64 bf, .slice qp np cp] 24)).drew (.slice qv l.length cv) l) := show LdAt _ _ _ _ _ from HI9.out.next (Below.refl _ _).drew HI9.out.b.size
                  have HR9d : Hid (RdRows (w6.alloc (.cells #[.int .i64 sq, .int .i64 fs, .int .i64 bf, .slice qp np cp] 24)).drew (.slice qp np cp) 2 (ps.map PT.cells) (fun k => w.heap.size ≤ k ∧ (Value.slice qv l.length cv).ownBlock ≠ some k)) := show RdRows _ _ _ _ _ from HR9.out.kept (Nat.le_refl _) fun k _ _ => rfl
                  have HBD : Hid (Below (w6.heap.size + 1) (w6.alloc (.cells #[.int .i64 sq, .int .i64 fs, .int .i64 bf, .slice qp np cp] 24)) (w6.alloc (.cells #[.int .i64 sq, .int .i64 fs, .int .i64 bf, .slice qp np cp] 24)).drew) := show Below _ _ _ from (Below.refl _ _).drew
                  have HSD : Hid ((w6.alloc (.cells #[.int .i64 sq, .int .i64 fs, .int .i64 bf, .slice qp np cp] 24)).drew.heap.size = w6.heap.size + 1) := show _ = _ from HS6.out
                  refine rg_one (i := 8) (by kernel_rfl) rfl (fun K hK => ?_)
                  rw [if_pos (by rfl)]
                  refine wp_buildSlice 36 43 1 #[(0, .tmp 63)] rfl (LV.cells ⟨b.number, ⟨sq, fs, bf, ps⟩, .slice qp np cp⟩).toArray i0 (.agg zlL.toArray) Tryd.underlying36 hi hz0 (by rw [hz1]; decide) (by rw [hz1]; decide) (by simp only [List.map_toArray, List.map_cons, List.map_nil]; exact HFL.out) ?_
                  refine hK.out _ _ (KEEP.out _ (HBD.out.alloc (by have := HSD.out; omega) _)) (fun _ => ?_)
                  clear hK K
                  try simp only [Act.put, List.setIfInBounds_toArray]
                  refine rg_one (i := 9) (by kernel_rfl) rfl (fun K hK => ?_)
                  rw [if_pos (by rfl)]
                  refine wp_append_own2 (.tmp 56) (.tmp 64) 36 rfl w.heap.size 43 i0 (.agg zlL.toArray) 5 56 Tryd.underlying36 hi hz0 hz1 hz2 rfl (by decide) _ _ (lvs l) rfl (HI9d.out.own.alloc _) ⟨(w6.alloc (.cells #[.int .i64 sq, .int .i64 fs, .int .i64 bf, .slice qp np cp] 24)).drew.heap.size, 0, none⟩ 1 1 (LV.cells ⟨b.number, ⟨sq, fs, bf, ps⟩, .slice qp np cp⟩) rfl rfl (news2 _ _ _) (lcells_one rfl) (by unfold maxLen; omega) (by omega) (by have := HBZ.out; have := HSD.out; simp; omega) ?_
                  intro v9 w9 hO9 hg9 hn9
                  have HI10 := Lib.hid (HI9d.out.app (x := ⟨b.number, ⟨sq, fs, bf, ps⟩, .slice qp np cp⟩) HR9d.out hO9 hg9 hn9 HI9d.out.b.size)
                  have HK9 : Hid (w9.cell? ⟨g, o + k * 35, none⟩ = some (.int .i64 b.number) ∧ w9.cell? ⟨w6.heap.size, 0, none⟩ = some (.int .i64 sq) ∧ w9.cell? ⟨w6.heap.size, 1, none⟩ = some (.int .i64 fs) ∧ w9.cell? ⟨w6.heap.size, 2, none⟩ = some (.int .i64 bf) ∧ w9.cell? ⟨w6.heap.size, 3, none⟩ = some (.slice qp np cp)) := show _ ∧ _ from by
                    have hz : w9.heap[w6.heap.size]? = some (.cells #[.int .i64 sq, .int .i64 fs, .int .i64 bf, .slice qp np cp] 24 (0, 0)) := by
                      rw [hg9.block _ (by have := HSD.out; simp; omega) (fun e => by have := (HI8.out.own.lt _ e.symm).2; omega), Below.heap_alloc _ _ _ (by have := HSD.out; omega)]
                      exact HZB.out
                    refine ⟨(HCN.out w9 HI10.out.b).1, ?_, ?_, ?_, ?_⟩ <;> rw [cell_of_row _ _ _ _ _ _ hz] <;> rfl
                  clear hO9 hg9 hn9
                  refine hK.out _ _ HK9.out (fun _ => ?_)
                  clear hK K
                  try simp only [Act.put]
                  refine rg_one (i := 10) (by kernel_rfl) rfl (fun K hK => ?_)
                  go_simp
                  refine hK.out _ _ HK9.out (fun _ => ?_)
                  clear hK K
                  refine wpAnyH_done (by kernel_rfl) ?_ _
                  go_wp2_with fail
                  go_roundg (gk - 1)
                  case measure => omega
                  case rel => exact ⟨j + 1, _, l ++ [⟨b.number, ⟨sq, fs, bf, ps⟩, .slice qp np cp⟩], by omega, by go_num, rfl, HFF, HI10⟩
                · have qs : (sq == (l.length : Int)) = false := beq_eq_false_iff_ne.2 hsq
                  have HFF : Hid (prs l = (b.items.take (j + 1)).foldl (landStep b.number) L0) := show _ = _ from by rw [HFS.out, HSO.out, if_neg (by rw [prs_len]; exact hsq)]
                  have HI9 := Lib.hid (HI8.out.next (bw_alloc (Below.refl _ _) (.cells #[.int .i64 sq, .int .i64 fs, .int .i64 bf, .slice qp np cp] 24)) HI8.out.b.size)
                  obtain ⟨qv, cv, rfl⟩ := row_shape HI8.out.own
                  clear hsq
                  go_wp2_with fail
                  go_roundg (gk - 1)
                  case measure => omega
                  case rel => exact ⟨j + 1, _, l, by omega, by go_num, rfl, HFF, HI9⟩
          · have q3 : (kd != 3) = true := bne_iff_ne.2 hk3
            have HFF : Hid (prs l = (b.items.take (j + 1)).foldl (landStep b.number) L0) := show _ = _ from by rw [HFS.out, step_no (fun h => hk3 h.1)]
            clear hk3
            go_wp2_with fail
            go_roundg (gk - 1)
            case measure => omega
            case rel => exact ⟨j + 1, v, l, by omega, by go_num, rfl, HFF, HI6⟩
        · obtain rfl : j = m := by omega
          have d9 : decide ((j : Int) < j) = false := decide_eq_false (by omega)
          have HLX : Hid (prs l = land (bks.take (k + 1))) := show _ = _ from by
            have h := HLJ.out
            rw [List.take_of_length_le (by rw [HM.out]; exact Nat.le_refl _)] at h
            rw [HTK.out, h]
            rfl
          have hHC := HCN.out wr HI.out.b
          have hc34 := hHC.2
          clear hHC
          go_wp2_with fail
          go_roundg (go - 1)
          case measure => omega
          case rel => exact ⟨k + 1, v, l, by omega, by go_num, rfl, HLX, HI⟩
    · obtain rfl : k = n := by omega
      have d9 : decide ((k : Int) < k) = false := decide_eq_false (by omega)
      have HLX : Hid (prs l = land bks) := show _ = _ from by
        have h := HL.out
        rw [List.take_of_length_le (by rw [HN.out]; exact Nat.le_refl _)] at h
        exact h
      go_wp2_with fail
      go_ret
      exact ⟨_, l, rfl, HLX.out, HD.out⟩
-- B
end Go.Proofs.YtbeooeihedhabaaDoor
