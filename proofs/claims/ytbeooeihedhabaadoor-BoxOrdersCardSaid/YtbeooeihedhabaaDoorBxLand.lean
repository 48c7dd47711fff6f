/- box.Landed: what the call does. -/
import Derived.Test.YtbeooeihedhabaaDoorBxLdPure
namespace Go.Proofs.YtbeooeihedhabaaDoor
open Go.RowKit
set_option maxHeartbeats 4000000
set_option maxRecDepth 4000
/-- what the inner loop holds: tb = the block's own copy -/
structure LiAt (B : Nat) (w wr : World) (v : Value) (l : List LV) (tb : Nat) (b : BK) : Prop where
  ld : LdAt B w wr v l
  ne : v.ownBlock ≠ some tb
  row : wr.heap[tb]? = some (.cells b.cells.toArray 62 (0, 0))
theorem LiAt.next {B : Nat} {w wr w' : World} {v : Value} {l : List LV} {tb : Nat} {b : BK} (h : LiAt B w wr v l tb b) (hb : Below wr.heap.size wr w') (hB : B ≤ wr.heap.size) : LiAt B w w' v l tb b :=
  ⟨h.ld.next hb hB, h.ne, (hb.block _ (block_lt h.row)).trans h.row⟩
theorem LiAt.app {B : Nat} {w wr w' : World} {v v' : Value} {l : List LV} {x : LV} {o : Obj} {tb : Nat} {b : BK} (h : LiAt B w wr v l tb b) (hx : RdRows wr x.pv 2 (x.b.parts.map PT.cells) (fun k => B ≤ k ∧ v.ownBlock ≠ some k)) (ho : w'.ownsRow B 43 5 v' (l.length + 1) (lvs l ++ x.cells)) (hg : (wr.alloc o).grownBy w' v.ownBlock) (hn : OwnNew (wr.alloc o) v v') (hB : B ≤ wr.heap.size) : LiAt B w w' v' (l ++ [x]) tb b := by
  have hlt := block_lt h.row
  refine ⟨h.ld.app hx ho hg hn hB, fun e => ?_, ?_⟩
  · rcases hn _ e with h1 | h1
    · exact h.ne h1
    · have : (wr.alloc o).heap.size = wr.heap.size + 1 := by simp
      omega
  · have hb1 : Below wr.heap.size wr (wr.alloc o) := bw_alloc (Below.refl _ _) _
    have hs1 := hb1.size
    rw [hg.block tb (by omega) (fun e => h.ne e.symm), hb1.block tb hlt]
    exact h.row
theorem LiAt.num {B : Nat} {w wr : World} {v : Value} {l : List LV} {tb : Nat} {b : BK} (h : LiAt B w wr v l tb b) : wr.cell? ⟨tb, 0, none⟩ = some (.int .i64 b.number) := by rw [cell_of_row _ _ _ _ _ _ h.row]; rfl
theorem ld_build (n a b c : Int) (v : Value) (q : Option Addr) (m k : Nat) (hv : v = .slice q m k) (w : World) : (Instr.build 43 #[(0, .int .i64 n), (1, .agg #[.int .i64 a, .int .i64 b, .int .i64 c, v])]).run Tryd.prog w = .ok (.agg #[.int .i64 n, .int .i64 a, .int .i64 b, .int .i64 c, v]) w := by
  subst hv
  kernel_rfl
abbrev zlBlk : List Value := [.int .i64 0, .int .i64 0, .int .u8 0, .int .u8 0, .int .u8 0, .int .u8 0, .int .u8 0, .int .u8 0, .int .u8 0, .int .u8 0, .int .u8 0, .int .u8 0, .int .u8 0, .int .u8 0, .int .u8 0, .int .u8 0, .int .u8 0, .int .u8 0, .int .u8 0, .int .u8 0, .int .u8 0, .int .u8 0, .int .u8 0, .int .u8 0, .int .u8 0, .int .u8 0, .int .u8 0, .int .u8 0, .int .u8 0, .int .u8 0, .int .u8 0, .int .u8 0, .int .u8 0, .int .u8 0, .slice none 0 0]
-- A
theorem bxland_any (q : Option Addr) (c : Nat) (bks : List BK) (w : World) (h : BksAt w (.slice q bks.length c) bks) (hlen : bks.length ≤ 9223372036854775807) (hR : RoundsAt w) :
    Calls Tryd.prog 17 #[.slice q bks.length c] w fun e w' => ∃ v l, e = .returned v ∧ prs l = land bks ∧ LdAt w.heap.size w w' v l := by
  obtain ⟨i0, hi, hz0, hz1, hz2⟩ := info_parts ld_info
  have HA := Lib.hid h
  have HRA := Lib.hid hR
  obtain ⟨n, hn⟩ : ∃ n, n = bks.length := ⟨_, rfl⟩
  rw [← hn] at HA hlen ⊢
  have HN := Lib.hid hn
  clear h hR hn
  go_enter Tryd.func17, Tryd.ntmps17
  go_wp2_with fail
  go_loopg [3, 14] n (fun gk o_ i_ wr => ∃ (k : Nat) (v : Value) (l : List LV), k + gk = n ∧ i_ = .int .i64 k ∧ v = o_ ∧ Hid (prs l = land (bks.take k)) ∧ Hid (LdAt w.heap.size w wr v l))
  case atStart => exact ⟨0, .slice none 0 0, [], by omega, rfl, rfl, (show _ = _ from rfl), (show LdAt _ _ _ _ _ from LdAt.start w)⟩
  case round =>
    obtain ⟨k, v, l, hkn, rfl, rfl, HL, HD⟩ := hrel
    generalize gk = go at *
    by_cases hlt : k < n
    · have f0 : (0 : Int) ≤ k := by omega
      have f1 : (k : Int) < n := by omega
      have hkl : k < bks.length := by have := HN.out; omega
      have HBw := Lib.hid (HA.out.below (HD.out.b.mono (Nat.le_refl _)))
      obtain ⟨g, o, hq, hgl, -, hc⟩ := HBw.out.1.at k (by rw [List.length_map]; exact hkl)
      subst hq
      rw [List.getElem_map] at hc
      obtain ⟨b, hb⟩ : ∃ b, b = bks[k]'hkl := ⟨_, rfl⟩
      rw [← hb] at hc
      obtain ⟨hit, hpl, hml, hts⟩ := HBw.out.2 b (by rw [hb]; exact List.getElem_mem hkl)
      have HPL := Lib.hid hpl
      have HTS := Lib.hid hts
      have HRG : Hid (wr.rangeAt g (o + k * 35) b.cells) := show World.rangeAt _ _ _ _ from fun j u hj => hc j u hj
      have hzb : (wr.alloc (.cells zlBlk.toArray 62)).heap[wr.heap.size]? = some (.cells zlBlk.toArray 62 (0, 0)) := heap_alloc_new wr _
      have hIV : ∃ qi ci, b.iv = .slice qi b.items.length ci := by
        obtain ⟨A, c', e, _⟩ := hit
        exact ⟨A, c', by rw [e, List.length_map]⟩
      obtain ⟨qi, ci, hiv⟩ := hIV
      have HIV := Lib.hid hiv
      have HIT : Hid (RdRows w (.slice qi b.items.length ci) 4 (b.items.map IT.cells) (fun k => k < w.heap.size)) := show RdRows _ _ _ _ _ from by
        rw [← hiv]
        exact (HA.out.2 b (by rw [hb]; exact List.getElem_mem hkl)).1
      obtain ⟨m, hm⟩ : ∃ m, m = b.items.length := ⟨_, rfl⟩
      rw [← hm] at HIT hiv HIV hml
      have HM := Lib.hid hm
      have HTK : Hid (land (bks.take (k + 1)) = landB (land (bks.take k)) b) := show _ = _ from by rw [List.take_succ_eq_append_getElem hkl, ← hb, land_snoc]
      have HBL : Hid (b.cells.length = zlBlk.length) := show _ = _ from BK.cells_length HPL.out
      have HB1 : Hid (∀ u ∈ b.cells, u.oneCell' = true) := show ∀ u ∈ b.cells, _ from BK.one (by rw [HIV.out]; rfl)
      clear hc hb hit hpl hts hiv hm
      go_wp2_with (first
        | (with_reducible refine wpList_load_mid rfl 62 (.tmp 16) rfl g (o + k * 35) rfl b.cells _ HRG.out Tryd.underlying62 rfl (block_info (BK.cells_length HPL.out)) ?_)
        | ((with_reducible refine wpList_store_whole rfl 62 (.tmp 5) (.tmp 17) rfl wr.heap.size b.cells zlBlk 62 rfl rfl hzb HBL.out (block_info (BK.cells_length HPL.out)) HB1.out ?_); intro w2 hU; have c34 : w2.cell? ⟨wr.heap.size, 34, none⟩ = some (.slice qi m ci) := (by rw [cell_of_row _ _ _ _ _ _ hU.out.at_, List.getElem?_toArray, BK.at_items HPL.out, HIV.out])))
      have HI2 : Hid (LiAt w.heap.size w w2 v l wr.heap.size b) := show LiAt _ _ _ _ _ _ _ from by
        have hb2 : Below wr.heap.size wr w2 := hU.out.below (bw_alloc (Below.refl _ _) _) (Nat.le_refl _)
        exact ⟨HD.out.next hb2 HD.out.b.size, fun e => by have := (HD.out.own.lt _ e).2; omega, hU.out.at_⟩
      have HTB : Hid (w.heap.size ≤ wr.heap.size) := show _ ≤ _ from HD.out.b.size
      generalize wr.heap.size = tb at *
      clear c34 hU hzb
      obtain ⟨L0, hL0⟩ : ∃ L0, L0 = land (bks.take k) := ⟨_, rfl⟩
      rw [← hL0] at HL HTK
      clear hL0
      go_loopg [3, 21] m (fun gk o_ i_ wr => ∃ (j : Nat) (v : Value) (l : List LV), j + gk = m ∧ i_ = .int .i64 j ∧ v = o_ ∧ Hid (prs l = (b.items.take j).foldl (landStep b.number) L0) ∧ Hid (LiAt w.heap.size w wr v l tb b))
      case atStart => exact ⟨0, v, l, by omega, rfl, rfl, HL, HI2⟩
      case round =>
        obtain ⟨j, v, l, hjm, rfl, rfl, HLJ, HI⟩ := hrel
        by_cases hjl : j < m
        · have hjl2 : j < b.items.length := by have := HM.out; omega
          have e0 : (0 : Int) ≤ j := by omega
          have e1 : (j : Int) < m := by omega
          obtain ⟨gi, oi, hqi, hgil, -, hci⟩ := (HIT.out.below HI.out.ld.b (fun _ h => h)).at j (by rw [List.length_map]; exact hjl2)
          subst hqi
          rw [List.getElem_map] at hci
          obtain ⟨x, hx⟩ : ∃ x, x = b.items[j]'hjl2 := ⟨_, rfl⟩
          rw [← hx] at hci
          have HFS := fold_snoc b.number L0 b.items j hjl2
          rw [← HLJ.out, ← hx] at HFS
          have HFS := Lib.hid HFS
          have hts := HTS.out x (by rw [hx]; exact List.getElem_mem hjl2)
          have HWI := Lib.hid (fun W => nwriteItem_any x W (by omega))
          have HRI := Lib.hid (fun W (hW : RoundsAt W) => bxread_any x.text W (by omega) hW)
          have HEQ := Lib.hid (fun W => it_eq x ⟨0, 0, 0, ⟨#[]⟩⟩ W)
          clear hx
          obtain ⟨kd, by_, nn, tx⟩ := x
          have d0 : wr.cell? ⟨gi, oi + j * 4, none⟩ = some (.int .i64 kd) := hci 0 _ rfl
          have d1 : wr.cell? ⟨gi, oi + j * 4 + 1, none⟩ = some (.int .i64 by_) := hci 1 _ rfl
          have d2 : wr.cell? ⟨gi, oi + j * 4 + 2, none⟩ = some (.int .i64 nn) := hci 2 _ rfl
          have d3 : wr.cell? ⟨gi, oi + j * 4 + 3, none⟩ = some (.string tx) := hci 3 _ rfl
          obtain ⟨ge, hge⟩ : ∃ ge, ge = decide ((⟨kd, by_, nn, tx⟩ : IT) = ⟨0, 0, 0, ⟨#[]⟩⟩) := ⟨_, rfl⟩
          have heq : ∀ W, (Op.equalIn 10000 59 (.agg #[.int .i64 kd, .int .i64 by_, .int .i64 nn, .string tx]) (.agg #[.int .i64 0, .int .i64 0, .int .i64 0, .string ⟨#[]⟩])).run Tryd.prog W = .ok ge W := fun W => by rw [hge]; exact HEQ.out W
          have HBS : Hid (w.heap.size ≤ wr.heap.size) := show _ ≤ _ from HI.out.ld.b.size
          have hzi := heap_alloc_new wr (.cells #[.int .i64 kd, .int .i64 by_, .int .i64 nn, .string tx] 59)
          have HI6 := Lib.hid (HI.out.next (bw_alloc (Below.refl _ _) (.cells #[.int .i64 kd, .int .i64 by_, .int .i64 nn, .string tx] 59)) HBS.out)
          clear hci
          by_cases hk3 : kd = 3
          · have q3 : (kd != 3) = false := by rw [hk3]; rfl
            have hgf : ge = false := by
              rw [hge]
              exact decide_eq_false (fun h => by
                have h2 := congrArg IT.kind h
                have h3 : kd = 0 := h2
                omega)
            subst hgf
            clear hge
            cases ho : (IT.mk kd by_ nn tx).ok with
            | false =>
              have HFF : Hid (prs l = (b.items.take (j + 1)).foldl (landStep b.number) L0) := show _ = _ from by rw [HFS.out, step_no (fun h => by rw [ho] at h; cases h.2)]
              have HWI : Hid (∀ W, Calls Tryd.prog 42 #[.agg #[.int .i64 kd, .int .i64 by_, .int .i64 nn, .string tx]] W fun e w' => e = .returned (.tuple #[.string ⟨#[]⟩, .int .i64 2]) ∧ Below W.heap.size W w') := show ∀ W, _ from fun W => by
                have h := HWI.out W
                rw [wrOk_none ho] at h
                exact h
              clear ho hk3
              go_wp2_with fail
              refine (HWI.out _).mono ?_
              rintro e w5 ⟨rfl, hb5⟩
              have HI7 := Lib.hid (HI6.out.next hb5 HI6.out.ld.b.size)
              clear hb5 hzi
              go_wp2_with fail
              go_roundg (gk - 1)
              case measure => omega
              case rel => exact ⟨j + 1, v, l, by omega, by go_num, rfl, HFF, HI7⟩
            | true =>
              have HKO : Hid ((IT.mk kd by_ nn tx).kind = 3 ∧ (IT.mk kd by_ nn tx).ok = true) := show _ ∧ _ from ⟨hk3, ho⟩
              obtain ⟨S, hS⟩ : ∃ S, S = bstr (encList (IT.mk kd by_ nn tx).parts) := ⟨_, rfl⟩
              have HWI : Hid (∀ W, Calls Tryd.prog 42 #[.agg #[.int .i64 kd, .int .i64 by_, .int .i64 nn, .string tx]] W fun e w' => e = .returned (.tuple #[.string S, .int .i64 0]) ∧ Below W.heap.size W w') := show ∀ W, _ from fun W => by
                have h := HWI.out W
                rw [wrOk_some ho, ← hS] at h
                exact h
              clear ho hk3 hS
              go_wp2_with fail
              refine (HWI.out _).mono ?_
              rintro e w5 ⟨rfl, hb5⟩
              have HI7 := Lib.hid (HI6.out.next hb5 HI6.out.ld.b.size)
              have z3 : w5.cell? ⟨wr.heap.size, 3, none⟩ = some (.string tx) := by
                rw [cell_of_row _ _ _ _ _ _ ((hb5.block _ (block_lt hzi)).trans hzi)]
                rfl
              have HC7 := HRI.out w5 (HRA.out.below HI7.out.ld.b HRA.out.1)
              clear hb5 hzi
              cases hrb : rdBox tx with
              | error x9 =>
                have HFF : Hid (prs l = (b.items.take (j + 1)).foldl (landStep b.number) L0) := show _ = _ from by rw [HFS.out, step_err (x := IT.mk kd by_ nn tx) hrb]
                have q9 : (x9 == 0) = false := by have := rdBox_ne hrb; simpa using this
                have HC7 : Hid (Calls Tryd.prog 13 #[.string tx] w5 fun e w' => e = .returned (.tuple #[.agg #[.int .i64 0, .int .i64 0, .int .i64 0, .slice none 0 0], .int .i64 x9]) ∧ Below w5.heap.size w5 w') := show Calls _ _ _ _ _ from by
                  refine HC7.mono ?_
                  rintro e w' ⟨h1, h2⟩
                  have h2 : RbxRes w5 (rdBox tx) e w' := h2
                  rw [hrb] at h2
                  exact ⟨h2, h1⟩
                clear hrb
                go_wp2_with fail
                refine HC7.out.mono ?_
                rintro e w6 ⟨rfl, hb6⟩
                have HI8 := Lib.hid ((HI7.out.next hb6 HI7.out.ld.b.size).next (bw_alloc (Below.refl _ _) (.cells #[.int .i64 0, .int .i64 0, .int .i64 0, .slice none 0 0] 24)) (HI7.out.next hb6 HI7.out.ld.b.size).ld.b.size)
                clear hb6 z3
                go_wp2_with fail
                go_roundg (gk - 1)
                case measure => omega
                case rel => exact ⟨j + 1, v, l, by omega, by go_num, rfl, HFF, HI8⟩
              | ok bt =>
                have HNU := Lib.hid (rdBox_num hrb)
                have HSO := Lib.hid (step_ok (num := b.number) (acc := prs l) (x := IT.mk kd by_ nn tx) HKO.out hrb)
                obtain ⟨sq, fs, bf, ps⟩ := bt
                have HC7 : Hid (Calls Tryd.prog 13 #[.string tx] w5 fun e w' => (∃ qp cp, e = .returned (.tuple #[.agg #[.int .i64 sq, .int .i64 fs, .int .i64 bf, .slice qp ps.length cp], .int .i64 0]) ∧ RdRows w' (.slice qp ps.length cp) 2 (ps.map PT.cells) (fun k => w5.heap.size ≤ k)) ∧ Below w5.heap.size w5 w') := show Calls _ _ _ _ _ from by
                  refine HC7.mono ?_
                  rintro e w' ⟨h1, h2⟩
                  have h2 : RbxRes w5 (rdBox tx) e w' := h2
                  rw [hrb] at h2
                  obtain ⟨v', he, hr⟩ := h2
                  obtain ⟨A, c', hv', _⟩ := id hr
                  dsimp only at hv'
                  rw [List.length_map] at hv'
                  subst hv'
                  exact ⟨⟨A, c', he, hr⟩, h1⟩
                obtain ⟨np, hnp⟩ : ∃ np, np = ps.length := ⟨_, rfl⟩
                rw [← hnp] at HC7
                have HNP := Lib.hid hnp
                clear hrb hnp
                go_wp2_with fail
                refine HC7.out.mono ?_
                rintro e w6 ⟨⟨qp, cp, rfl, hrp⟩, hb6⟩
                have HI8 := Lib.hid (HI7.out.next hb6 HI7.out.ld.b.size)
                have HRP : Hid (RdRows w6 (.slice qp np cp) 2 (ps.map PT.cells) (fun k => w.heap.size ≤ k ∧ v.ownBlock ≠ some k)) := show RdRows _ _ _ _ _ from hrp.mono fun k _ hk => ⟨Nat.le_trans HI7.out.ld.b.size hk, fun e => by have := (HI7.out.ld.own.lt _ e).2; omega⟩
                clear hb6 z3 hrp
                by_cases hsq : sq = l.length
                · have qs : (sq == (l.length : Int)) = true := beq_iff_eq.2 hsq
                  have hl40 : l.length ≤ 1099511627776 := by
                    have h : sq ≤ 1099511627776 := HNU.out.2
                    omega
                  have HFF : Hid (prs (l ++ [⟨b.number, ⟨sq, fs, bf, ps⟩, .slice qp np cp⟩]) = (b.items.take (j + 1)).foldl (landStep b.number) L0) := show _ = _ from by rw [HFS.out, HSO.out, if_pos (by rw [prs_len]; exact hsq), prs_snoc]
                  have HI9 := Lib.hid (HI8.out.next (bw_alloc (Below.refl _ _) (.cells #[.int .i64 sq, .int .i64 fs, .int .i64 bf, .slice qp np cp] 24)) HI8.out.ld.b.size)
                  have HR9 := Lib.hid (HRP.out.kept (W' := w6.alloc (.cells #[.int .i64 sq, .int .i64 fs, .int .i64 bf, .slice qp np cp] 24)) (by simp) fun k hk _ => (bw_alloc (Below.refl w6.heap.size w6) (.cells #[.int .i64 sq, .int .i64 fs, .int .i64 bf, .slice qp np cp] 24)).block k hk)
                  have hnum := HI9.out.num
                  have HFL := Lib.hid (ld_fill ⟨b.number, ⟨sq, fs, bf, ps⟩, .slice qp np cp⟩ hz1)
                  have hbd := ld_build b.number sq fs bf (.slice qp np cp) qp np cp rfl
                  have HBZ : Hid (w.heap.size ≤ w6.heap.size) := show _ ≤ _ from HI8.out.ld.b.size
                  obtain ⟨qv, cv, rfl⟩ := row_shape HI8.out.ld.own
                  clear hsq
                  go_wp2_with (first
                    | (with_reducible refine wpList_build rfl 43 [(0, .tmp 57), (1, .tmp 58)] rfl [(0, .int .i64 b.number), (1, .agg #[.int .i64 sq, .int .i64 fs, .int .i64 bf, .slice qp np cp])] (.agg #[.int .i64 b.number, .int .i64 sq, .int .i64 fs, .int .i64 bf, .slice qp np cp]) rfl (hbd _) ?_)
                    | (refine wpList_buildSlice rfl 36 43 1 #[(0, .tmp 59)] rfl (LV.cells ⟨b.number, ⟨sq, fs, bf, ps⟩, .slice qp np cp⟩).toArray i0 (.agg zlL.toArray) Tryd.underlying36 hi hz0 (by rw [hz1]; decide) (by rw [hz1]; decide) (by simp only [List.map_toArray, List.map_cons, List.map_nil]; exact HFL.out) ?_)
                    | ((at_builtin; refine wpList_append_own2 rfl (.tmp 55) (.tmp 60) 36 rfl w.heap.size 43 i0 (.agg zlL.toArray) 5 56 Tryd.underlying36 hi hz0 hz1 hz2 rfl (by decide) _ _ (lvs l) rfl (HI9.out.ld.own.alloc _) ⟨(w6.alloc (.cells #[.int .i64 sq, .int .i64 fs, .int .i64 bf, .slice qp np cp] 24)).heap.size, 0, none⟩ 1 1 (LV.cells ⟨b.number, ⟨sq, fs, bf, ps⟩, .slice qp np cp⟩) rfl rfl (news2 _ _ _) (lcells_one rfl) (by unfold maxLen; omega) (by omega) (by have := HBZ.out; simp; omega) ?_); intro v9 w9 hO9 hg9 hn9; have HI10 := Lib.hid (HI9.out.app (x := ⟨b.number, ⟨sq, fs, bf, ps⟩, .slice qp np cp⟩) HR9.out hO9 hg9 hn9 HI9.out.ld.b.size); clear hO9 hg9 hn9))
                  go_roundg (gk - 1)
                  case measure => omega
                  case rel => exact ⟨j + 1, _, l ++ [⟨b.number, ⟨sq, fs, bf, ps⟩, .slice qp np cp⟩], by omega, by go_num, rfl, HFF, HI10⟩
                · have qs : (sq == (l.length : Int)) = false := beq_eq_false_iff_ne.2 hsq
                  have HFF : Hid (prs l = (b.items.take (j + 1)).foldl (landStep b.number) L0) := show _ = _ from by rw [HFS.out, HSO.out, if_neg (by rw [prs_len]; exact hsq)]
                  have HI9 := Lib.hid (HI8.out.next (bw_alloc (Below.refl _ _) (.cells #[.int .i64 sq, .int .i64 fs, .int .i64 bf, .slice qp np cp] 24)) HI8.out.ld.b.size)
                  obtain ⟨qv, cv, rfl⟩ := row_shape HI8.out.ld.own
                  clear hsq
                  go_wp2_with fail
                  go_roundg (gk - 1)
                  case measure => omega
                  case rel => exact ⟨j + 1, _, l, by omega, by go_num, rfl, HFF, HI9⟩
          · have q3 : (kd != 3) = true := bne_iff_ne.2 hk3
            have HFF : Hid (prs l = (b.items.take (j + 1)).foldl (landStep b.number) L0) := show _ = _ from by rw [HFS.out, step_no (fun h => hk3 h.1)]
            clear hk3 hge
            cases ge with
            | true =>
              go_wp2_with fail
              go_roundg (gk - 1)
              case measure => omega
              case rel => exact ⟨j + 1, v, l, by omega, by go_num, rfl, HFF, HI6⟩
            | false =>
              go_wp2_with fail
              go_roundg (gk - 1)
              case measure => omega
              case rel => exact ⟨j + 1, v, l, by omega, by go_num, rfl, HFF, HI6⟩
        · obtain rfl : j = m := by omega
          have d9 : decide ((j : Int) < j) = false := decide_eq_false (by omega)
          have HLX : Hid (prs l = land (bks.take (k + 1))) := show _ = _ from by
            have h := HLJ.out
            rw [List.take_of_length_le (by rw [HM.out]; exact Nat.le_refl _)] at h
            rw [HTK.out, h]
            rfl
          go_wp2_with fail
          go_roundg (go - 1)
          case measure => omega
          case rel => exact ⟨k + 1, v, l, by omega, by go_num, rfl, HLX, HI.out.ld⟩
    · obtain rfl : k = n := by omega
      have d9 : decide ((k : Int) < k) = false := decide_eq_false (by omega)
      have HLX : Hid (prs l = land bks) := show _ = _ from by
        have h := HL.out
        rw [List.take_of_length_le (by rw [HN.out]; exact Nat.le_refl _)] at h
        exact h
      go_wp2_with fail
      go_ret
      exact ⟨_, l, rfl, HLX.out, HD.out⟩
-- B
end Go.Proofs.YtbeooeihedhabaaDoor
