/- cavalcaderef05.part, WriteBatch of a light batch: what the calls do. -/
import Derived.Test.YtbeooeihedhabaaDoorBxWrite
import Derived.Test.YtbeooeihedhabaaDoorRNum5
import Derived.Test.YtbeooeihedhabaaDoorReg
import Derived.BigQuiet
import Derived.WalkMore
namespace Go.Proofs.YtbeooeihedhabaaDoor
open Go.RowKit
set_option maxHeartbeats 4000000
set_option maxRecDepth 4000
def partS (p : PT) : ByteArray := if p.del = true then bstr [2] else bstr (1 :: p.text.data.toList)
def partOk (p : PT) : Bool := if p.del = true then decide (p.text.size = 0) else decide (p.text.size ≤ 656)
theorem txt_part (p : PT) : p.txt = if partOk p = true then some (partS p) else none := by
  unfold PT.txt partOk partS
  cases p.del with
  | true =>
    simp only [if_pos]
    by_cases h : p.text.size = 0
    · rw [if_pos h, if_pos (decide_eq_true h)]
    · rw [if_neg h, if_neg (by simpa using h)]
  | false =>
    simp only [Bool.false_eq_true, if_false]
    by_cases h : p.text.size ≤ 656
    · rw [if_pos h, if_pos (decide_eq_true h)]
    · rw [if_neg h, if_neg (by simpa using h)]
theorem rpart_any (p : PT) (w : World) (hs : p.text.size ≤ 140737488355328) :
    Calls Tryd.prog 46 #[.agg p.cells.toArray] w fun e w' => e = .returned (.tuple #[.string (partS p), .bool (partOk p)]) ∧ Below w.heap.size w w' := by
  obtain ⟨d, t⟩ := p
  dsimp only at hs
  show Calls Tryd.prog 46 #[.agg #[.bool d, .string t]] w _
  have HB0 : Hid (Below w.heap.size w (w.alloc (.cells #[.bool d, .string t] 57))) := show Below _ _ _ from bw_alloc (Below.refl _ _) _
  cases d with
  | true =>
    have hq : t.toList.isEmpty = decide (t.size = 0) := empty_is t
    show Calls _ _ _ _ (fun e w' => e = .returned (.tuple #[.string (bstr [2]), .bool (decide (t.size = 0))]) ∧ _)
    cases hz : decide (t.size = 0)
    · rw [hz] at hq
      clear hz
      go_enter Tryd.func46, Tryd.ntmps46
      go_wp2_with fail
      go_quiet (fail)
      go_wp2_with fail
      go_ret2
      exact ⟨rfl, bw_drewN HB0.out _⟩
    · rw [hz] at hq
      clear hz
      go_enter Tryd.func46, Tryd.ntmps46
      go_wp2_with fail
      go_quiet (fail)
      go_wp2_with fail
      go_ret2
      exact ⟨rfl, bw_drewN HB0.out _⟩
  | false =>
    have hsum : ¬ 9223372036854775807 < 1 + t.size := by omega
    show Calls _ _ _ _ (fun e w' => e = .returned (.tuple #[.string (bstr (1 :: t.data.toList)), .bool (decide (t.size ≤ 656))]) ∧ _)
    have hd : decide ((t.size : Int) ≤ 656) = decide (t.size ≤ 656) := decide_eq_decide.2 (by omega)
    rw [← one_text]
    go_enter Tryd.func46, Tryd.ntmps46
    go_wp2_with fail
    go_quiet (fail)
    go_wp2_with fail
    go_ret2
    refine ⟨?_, bw_drewN HB0.out _⟩
    first | rfl | (rw [← hd])
theorem rwbatch_any (b : BT) (v : Value) (w : World) (hv : PtsAt w v b.parts) (hl : weigh b.parts ≤ 600) :
    Calls Tryd.prog 19 #[.agg (b.cells v).toArray] w fun e w' => e = .returned (.tuple #[.string b.wr.1, .int .i64 b.wr.2]) ∧ Below w.heap.size w w' := by
  obtain ⟨i0, hi, hz0, hz1, hz2⟩ := info_parts str_info_b
  have HV := Lib.hid hv
  have HL := Lib.hid hl
  have hln := weigh_len b.parts
  obtain ⟨q, c, rfl⟩ := hv.shape
  obtain ⟨n, hn⟩ : ∃ n, n = b.parts.length := ⟨_, rfl⟩
  rw [← hn] at HV hln ⊢
  have HN := Lib.hid hn
  have hn3 : n ≤ 300 := by omega
  obtain ⟨r, hr⟩ : ∃ r, r = b.wr := ⟨_, rfl⟩
  have hsp := hr
  unfold BT.wr at hsp
  rw [← hr]
  have HSP := Lib.hid hsp
  obtain ⟨sq, fs, bf, ps⟩ := b
  dsimp only at HV HL HN HSP
  show Calls Tryd.prog 19 #[.agg #[.int .i64 sq, .int .i64 fs, .int .i64 bf, .slice q n c]] w _
  have HB0 : Hid (Below w.heap.size w (w.alloc (.cells #[.int .i64 sq, .int .i64 fs, .int .i64 bf, .slice q n c] 24))) := show Below _ _ _ from bw_alloc (Below.refl _ _) _
  have hp0 := heap_alloc_new w (.cells #[.int .i64 sq, .int .i64 fs, .int .i64 bf, .slice q n c] 24)
  obtain ⟨w1, hw1⟩ : ∃ w1, w1 = w.alloc (.cells #[.int .i64 sq, .int .i64 fs, .int .i64 bf, .slice q n c] 24) := ⟨_, rfl⟩
  rw [← hw1] at HB0 hp0
  have HP0 := Lib.hid hp0
  have HW1 := Lib.hid hw1
  have KEEP : Hid (∀ W : World, Below w1.heap.size w1 W → W.cell? ⟨w.heap.size, 0, none⟩ = some (.int .i64 sq) ∧ W.cell? ⟨w.heap.size, 1, none⟩ = some (.int .i64 fs) ∧ W.cell? ⟨w.heap.size, 2, none⟩ = some (.int .i64 bf) ∧ W.cell? ⟨w.heap.size, 3, none⟩ = some (.slice q n c)) := show ∀ W, _ from fun W hb => by
    have h := (hb.block _ (block_lt hp0)).trans hp0
    exact ⟨by rw [cell_of_row _ _ _ _ _ _ h]; rfl, by rw [cell_of_row _ _ _ _ _ _ h]; rfl, by rw [cell_of_row _ _ _ _ _ _ h]; rfl, by rw [cell_of_row _ _ _ _ _ _ h]; rfl⟩
  clear hv hl hln hn hr hsp hp0
  have HRB : Hid ((BT.mk sq fs bf ps).ok = false → r = (⟨#[]⟩, 2)) := show _ → _ from fun h => by rw [HSP.out, h, if_neg (by decide)]
  have HR : Hid ((BT.mk sq fs bf ps).ok = true → r = match txts ps with | some ts => (bstr (encList ((BT.mk sq fs bf ps).lay ts)), 0) | none => (⟨#[]⟩, 2)) := show _ → _ from fun h => by rw [HSP.out, h, if_pos rfl]; rfl
  have HC1 := rwithin5_any sq w1
  have HC2 := rwithin5_any fs w1
  have HC3 := rwithin5_any bf w1
  obtain ⟨c0, c1, c2, c3⟩ := KEEP.out w1 (Below.refl _ _)
  cases g1 : numOk sq with
  | false =>
    rw [g1] at HC1
    have HC1 := Lib.hid HC1
    have HRF := Lib.hid (HRB.out (by simp [BT.ok, g1]))
    clear g1 HC2 HC3
    go_enter Tryd.func19, Tryd.ntmps19
    go_wp2_with fail
    rw [← HW1.out]
    clear hw1
    refine HC1.out.mono ?_
    rintro e w2 ⟨rfl, rfl⟩
    go_wp2_with fail
    go_ret2
    rw [HRF.out]
    exact ⟨rfl, HB0.out⟩
  | true =>
    rw [g1] at HC1
    have HC1 := Lib.hid HC1
    cases g2 : numOk fs with
    | false =>
      rw [g2] at HC2
      have HC2 := Lib.hid HC2
      have HRF := Lib.hid (HRB.out (by simp [BT.ok, g2]))
      clear g1 g2 HC3
      go_enter Tryd.func19, Tryd.ntmps19
      go_wp2_with fail
      rw [← HW1.out]
      clear hw1
      refine HC1.out.mono ?_
      rintro e w2 ⟨rfl, rfl⟩
      go_wp2_with fail
      refine HC2.out.mono ?_
      rintro e w2 ⟨rfl, rfl⟩
      go_wp2_with fail
      go_ret2
      rw [HRF.out]
      exact ⟨rfl, HB0.out⟩
    | true =>
      rw [g2] at HC2
      have HC2 := Lib.hid HC2
      cases g3 : numOk bf with
      | false =>
        rw [g3] at HC3
        have HC3 := Lib.hid HC3
        have HRF := Lib.hid (HRB.out (by simp [BT.ok, g3]))
        clear g1 g2 g3
        go_enter Tryd.func19, Tryd.ntmps19
        go_wp2_with fail
        rw [← HW1.out]
        clear hw1
        refine HC1.out.mono ?_
        rintro e w2 ⟨rfl, rfl⟩
        go_wp2_with fail
        refine HC2.out.mono ?_
        rintro e w2 ⟨rfl, rfl⟩
        go_wp2_with fail
        refine HC3.out.mono ?_
        rintro e w2 ⟨rfl, rfl⟩
        go_wp2_with fail
        go_ret2
        rw [HRF.out]
        exact ⟨rfl, HB0.out⟩
      | true =>
        rw [g3] at HC3
        have HC3 := Lib.hid HC3
        have HOK : Hid ((BT.mk sq fs bf ps).ok = true) := show _ = _ from by simp [BT.ok, g1, g2, g3]
        have j1 := okN_iff.1 g1
        have j2 := okN_iff.1 g2
        have j3 := okN_iff.1 g3
        have HT1 := Lib.hid (fun W => rtext5_any sq W j1.1 (by omega))
        have HT2 := Lib.hid (fun W => rtext5_any fs W j2.1 (by omega))
        have HT3 := Lib.hid (fun W => rtext5_any bf W j3.1 (by omega))
        have d0 : decide ((512 : Int) < n) = false := decide_eq_false (by omega)
        have d0' : decide (512 < n) = false := decide_eq_false (by omega)
        clear g1 g2 g3 j1 j2 j3
        go_enter Tryd.func19, Tryd.ntmps19
        go_wp2_with fail
        rw [← HW1.out]
        clear hw1
        refine HC1.out.mono ?_
        rintro e w2 ⟨rfl, rfl⟩
        go_wp2_with fail
        refine HC2.out.mono ?_
        rintro e w2 ⟨rfl, rfl⟩
        go_wp2_with fail
        refine HC3.out.mono ?_
        rintro e w2 ⟨rfl, rfl⟩
        go_wp2_with fail
        refine wp_region_held_drew (S := fun W => W.cell? ⟨w.heap.size, 0, none⟩ = some (.int .i64 sq) ∧ W.cell? ⟨w.heap.size, 1, none⟩ = some (.int .i64 fs) ∧ W.cell? ⟨w.heap.size, 2, none⟩ = some (.int .i64 bf) ∧ W.cell? ⟨w.heap.size, 3, none⟩ = some (.slice q n c)) (by kernel_rfl) ⟨c0, c1, c2, c3⟩ (fun _ => ?_)
        clear c0 c1 c2 c3
        refine rg_gen (i := 0) (v := ?_) rfl (by kernel_rfl) (by kernel_rfl) (by kernel_rfl) (fun _ _ _ h => h) rfl (by rfl) ?_ (by assumption) ?_
        rotate_left
        · intro w hSw
          try dsimp only at hSw
          go_simp
          try with_reducible rfl
        try simp only [Act.put, List.setIfInBounds_toArray, List.set_cons_zero, List.set_cons_succ]
        refine rg_gen (i := 1) (v := ?_) rfl (by kernel_rfl) (by kernel_rfl) (by kernel_rfl) (fun _ _ _ h => h) rfl (by rfl) ?_ (by assumption) ?_
        rotate_left
        · intro w hSw
          try dsimp only at hSw
          go_simp
          try with_reducible rfl
        try simp only [Act.put, List.setIfInBounds_toArray, List.set_cons_zero, List.set_cons_succ]
        refine rg_gen (i := 3) (v := ?_) rfl (by kernel_rfl) (by kernel_rfl) (by kernel_rfl) (fun _ _ _ h => h) rfl (by rfl) ?_ (by assumption) ?_
        rotate_left
        · intro w hSw
          try dsimp only at hSw
          go_simp
          try with_reducible rfl
        try simp only [Act.put, List.setIfInBounds_toArray, List.set_cons_zero, List.set_cons_succ]
        refine rg_gen (i := 4) (v := ?_) rfl (by kernel_rfl) (by kernel_rfl) (by kernel_rfl) (fun _ _ _ h => h) rfl (by rfl) ?_ (by assumption) ?_
        rotate_left
        · intro w hSw
          try dsimp only at hSw
          go_simp
          try with_reducible rfl
        try simp only [Act.put, List.setIfInBounds_toArray, List.set_cons_zero, List.set_cons_succ]
        refine rg_gen (i := 6) (v := ?_) rfl (by kernel_rfl) (by kernel_rfl) (by kernel_rfl) (fun _ _ _ h => h) rfl (by rfl) ?_ (by assumption) ?_
        rotate_left
        · intro w hSw
          try dsimp only at hSw
          go_simp
          try with_reducible rfl
        try simp only [Act.put, List.setIfInBounds_toArray, List.set_cons_zero, List.set_cons_succ]
        refine rg_gen (i := 7) (v := ?_) rfl (by kernel_rfl) (by kernel_rfl) (by kernel_rfl) (fun _ _ _ h => h) rfl (by rfl) ?_ (by assumption) ?_
        rotate_left
        · intro w hSw
          try dsimp only at hSw
          go_simp
          try with_reducible rfl
        try simp only [Act.put, List.setIfInBounds_toArray, List.set_cons_zero, List.set_cons_succ]
        refine rg_one (i := 2) (by kernel_rfl) rfl (fun K hK => ?_)
        go_simp
        go_at_call 45
        refine (HT1.out _).mono ?_
        rintro e w3 ⟨rfl, hb⟩
        have HB3 : Hid (Below w2.heap.size w2 w3) := show Below _ _ _ from (Below.refl w2.heap.size w2).drew.trans (hb.mono (Below.refl w2.heap.size w2).drew.size)
        clear hb
        go_wp2_with fail
        refine hK.out _ _ (KEEP.out _ HB3.out) (fun _ => ?_)
        clear hK K
        try simp only [Act.put, List.setIfInBounds_toArray, List.set_cons_zero, List.set_cons_succ]
        refine rg_one (i := 5) (by kernel_rfl) rfl (fun K hK => ?_)
        go_simp
        go_at_call 45
        refine (HT2.out _).mono ?_
        rintro e w4 ⟨rfl, hb⟩
        have HB4 : Hid (Below w2.heap.size w2 w4) := show Below _ _ _ from HB3.out.trans (hb.mono HB3.out.size)
        clear hb
        go_wp2_with fail
        refine hK.out _ _ (KEEP.out _ HB4.out) (fun _ => ?_)
        clear hK K
        try simp only [Act.put, List.setIfInBounds_toArray, List.set_cons_zero, List.set_cons_succ]
        refine rg_one (i := 8) (by kernel_rfl) rfl (fun K hK => ?_)
        go_simp
        go_at_call 45
        refine (HT3.out _).mono ?_
        rintro e w5 ⟨rfl, hb⟩
        have HB5 : Hid (Below w2.heap.size w2 w5) := show Below _ _ _ from HB4.out.trans (hb.mono HB4.out.size)
        clear hb
        go_wp2_with fail
        refine hK.out _ _ (KEEP.out _ HB5.out) (fun _ => ?_)
        clear hK K
        try simp only [Act.put, List.setIfInBounds_toArray, List.set_cons_zero, List.set_cons_succ]
        refine rg_one (i := 9) (by kernel_rfl) rfl (fun K hK => ?_)
        go_simp
        have HO6 := own_all (W := w5) (cs := [.string (numS sq.toNat), .string (numS fs.toNat), .string (numS bf.toNat)]) rfl (show 3 ≤ maxLen by decide)
        have HB6 : Hid (Below w2.heap.size w2 (w5.alloc (.cells #[.string (numS sq.toNat), .string (numS fs.toNat), .string (numS bf.toNat)] 9))) := show Below _ _ _ from HB5.out.alloc HB5.out.size _
        refine hK.out _ _ (KEEP.out _ HB6.out) (fun _ => ?_)
        clear hK K
        try simp only [Act.put, List.setIfInBounds_toArray, List.set_cons_zero, List.set_cons_succ]
        refine rg_one (i := 10) (by kernel_rfl) rfl (fun K hK => ?_)
        go_simp
        refine hK.out _ _ (KEEP.out _ HB6.out) (fun _ => ?_)
        clear hK K
        refine wpAnyH_done (by kernel_rfl) ?_ _
        have HS5 : Hid (w5.heap.size < (w5.alloc (.cells #[.string (numS sq.toNat), .string (numS fs.toNat), .string (numS bf.toNat)] 9)).heap.size) := show _ < _ from by simp
        generalize w5.alloc (.cells #[.string (numS sq.toNat), .string (numS fs.toNat), .string (numS bf.toNat)] 9) = w6 at *
        have HBX : Hid (w.heap.size ≤ w5.heap.size) := show _ ≤ _ from Nat.le_trans HB0.out.size HB5.out.size
        have HO6 := Lib.hid HO6
        go_wp2_with fail
        have HB25 : Hid (w2.heap.size ≤ w5.heap.size) := show _ ≤ _ from HB5.out.size
        generalize hB : w5.heap.size = B at *
        clear hB
        have HBS : Hid (Below w.heap.size w w6) := show Below _ _ _ from HB0.out.trans (HB6.out.mono HB0.out.size)
        have hRR : r = match txts ps with | some ts => (bstr (encList ((BT.mk sq fs bf ps).lay ts)), 0) | none => (⟨#[]⟩, 2) := HR.out HOK.out
        have HRR := Lib.hid hRR
        have HSM := Lib.hid (fun ts (h : txts ps = some ts) => lay_small (b := BT.mk sq fs bf ps) HOK.out h HL.out)
        clear hRR
        go_loopw [4, 5] (fun l_ i_ wr => ∃ (j : Nat) (ts : List ByteArray), i_ = .int .i64 j ∧ j ≤ n ∧ Hid (ts.length = j) ∧ Hid (txts (ps.take j) = some ts) ∧ Hid (wr.ownsRow B 9 1 l_ (3 + j) (strs (nums3 (BT.mk sq fs bf ps) ++ ts))) ∧ Hid (Below w2.heap.size w2 wr) ∧ B < wr.heap.size) (fun _ i_ _ => match i_ with | .int _ k => n - k.toNat | _ => 0)
        case atStart => exact ⟨0, [], rfl, Nat.zero_le _, (show _ = _ from rfl), (show _ = _ from rfl), (show World.ownsRow _ _ _ _ _ _ _ from by rw [List.append_nil]; exact HO6.out), HB6, HS5.out⟩
        case round =>
          obtain ⟨j, ts, rfl, hjn, HTL, HTX, HO, HB, hBs⟩ := hrel
          have HBw : Hid (Below w.heap.size w wr) := show Below _ _ _ from HB0.out.trans (HB.out.mono HB0.out.size)
          have c3 := (KEEP.out wr HB.out).2.2.2
          by_cases hlt : j < n
          · have hjp : j < ps.length := by have := HN.out; omega
            obtain ⟨gb, go_, hA, hgl, -, hc⟩ := HV.out.at j (by rw [List.length_map]; exact hjp)
            subst hA
            rw [List.getElem_map] at hc
            obtain ⟨p, hp⟩ : ∃ p, p = ps[j]'hjp := ⟨_, rfl⟩
            rw [← hp] at hc
            have k0 : wr.cell? ⟨gb, go_ + j * 2, none⟩ = some (.bool p.del) := (HBw.out.cell (p := ⟨gb, go_ + j * 2, none⟩) hgl).trans (hc 0 _ rfl)
            have k1 : wr.cell? ⟨gb, go_ + j * 2 + 1, none⟩ = some (.string p.text) := (HBw.out.cell (p := ⟨gb, go_ + j * 2 + 1, none⟩) hgl).trans (hc 1 _ rfl)
            have HSN : Hid (txts (ps.take (j + 1)) = match p.txt with | none => none | some t => some (ts ++ [t])) := show _ = _ from by
              rw [List.take_succ_eq_append_getElem hjp, ← hp]
              exact txts_snoc HTX.out
            have HNO : Hid (p.txt = none → txts ps = none) := show _ → _ from fun h => by
              have h2 := List.take_append_drop j ps
              rw [List.drop_eq_getElem_cons hjp, ← hp] at h2
              rw [← h2]
              exact txts_none h
            have hpz : p.text.size ≤ 600 := by
              have h1 := weigh_take ps (j + 1)
              have h2 := HL.out
              have h3 : weigh (ps.take (j + 1)) = weigh (ps.take j) + (p.text.size + 2) := by
                rw [List.take_succ_eq_append_getElem hjp, ← hp]
                simp [weigh]
              omega
            have HPA := rpart_any p wr (by omega)
            have f0 : (0 : Int) ≤ j := by omega
            have f1 : (j : Int) < n := by omega
            clear hc hp hjp
            obtain ⟨S, hS⟩ : ∃ S, S = partS p := ⟨_, rfl⟩
            have htp := txt_part p
            rw [← hS] at HPA htp
            cases hpo : partOk p with
            | false =>
              rw [hpo] at HPA htp
              have HR2 : Hid (r = (⟨#[]⟩, 2)) := show _ = _ from by rw [HRR.out, HNO.out (by rw [htp, if_neg (by decide)])]
              have HPA : Hid (Calls Tryd.prog 46 #[.agg #[.bool p.del, .string p.text]] wr fun e w' => e = .returned (.tuple #[.string S, .bool false]) ∧ Below wr.heap.size wr w') := HPA
              clear hpo htp hS
              go_wp2_with fail
              refine HPA.out.mono ?_
              rintro e w7 ⟨rfl, hb7⟩
              have HB7 : Hid (Below w.heap.size w w7) := show Below _ _ _ from HBw.out.trans (hb7.mono HBw.out.size)
              clear hb7
              go_wp2_with fail
              go_ret2
              rw [HR2.out]
              exact ⟨rfl, HB7.out⟩
            | true =>
              rw [hpo] at HPA htp
              have HSN2 : Hid (txts (ps.take (j + 1)) = some (ts ++ [S])) := show _ = _ from by rw [HSN.out, htp, if_pos rfl]
              have HPA : Hid (Calls Tryd.prog 46 #[.agg #[.bool p.del, .string p.text]] wr fun e w' => e = .returned (.tuple #[.string S, .bool true]) ∧ Below wr.heap.size wr w') := HPA
              clear hpo htp hS
              go_wp2_with fail
              refine HPA.out.mono ?_
              rintro e w7 ⟨rfl, hb7⟩
              have HO7 := Lib.hid (own_below HO.out hb7 (Nat.le_refl _))
              have HB7 : Hid (Below w2.heap.size w2 w7) := show Below _ _ _ from HB.out.trans (hb7.mono HB.out.size)
              have hs7 : B < w7.heap.size := by have := hb7.size; omega
              clear hb7
              go_wp2_with (at_builtin; refine wpList_append_own _ rfl (.tmp 58) (.tmp 60) 45 rfl B 9 i0 (.string ⟨#[]⟩) 1 16 Tryd.underlying45 hi hz0 hz1 hz2 rfl (by decide) _ _ _ rfl (HO7.out.alloc _) ⟨w7.heap.size, 0, none⟩ 1 1 [.string S] rfl rfl news_at (by simp [Value.oneCell']) (by unfold maxLen; omega) (by omega) (by simp; omega) ?_; intro v' w8 hO8 hg8 hn8)
              have HO8 := Lib.hid hO8
              have HB8 : Hid (Below w2.heap.size w2 w8) := show Below _ _ _ from (bw_alloc HB7.out _).grown hg8 (by have := HB7.out.size; simp; omega) (fun k hk => by have := own_blk HO7.out k hk; have := HB25.out; omega)
              have hs8 : B < w8.heap.size := by have := hg8.size; simp at this; omega
              have HTL8 : Hid ((ts ++ [S]).length = j + 1) := show _ = _ from by rw [List.length_append, HTL.out]; rfl
              clear hO8 hg8 hn8
              go_roundw
              case rel =>
                refine ⟨j + 1, ts ++ [S], by go_num, by omega, HTL8, HSN2, ?_, HB8, hs8⟩
                show World.ownsRow _ _ _ _ _ _ _
                have h := HO8.out
                rw [strs, ← List.append_assoc, List.map_append]
                exact h
              case measure => simp; omega
          · have hje : j = n := by omega
            subst hje
            have d1 : decide ((j : Int) < j) = false := decide_eq_false (by omega)
            have htx := HTX.out
            rw [List.take_of_length_le (by rw [← HN.out]; exact Nat.le_refl _)] at htx
            have HR2 : Hid (r = (bstr (encList ((BT.mk sq fs bf ps).lay ts)), 0)) := show _ = _ from by rw [HRR.out, htx]
            obtain ⟨s1, s2⟩ := HSM.out ts htx
            have HS2 := Lib.hid s2
            have HRD : Hid (RdStrs wr u4 ((BT.mk sq fs bf ps).lay ts)) := show RdStrs _ _ _ from RdStrs.of_own HO.out (by omega) (by omega)
            clear htx s2
            go_wp2_with fail
            refine (rlist5_ok _ _ _ HRD.out s1 (Nat.le_trans HS2.out (by decide))).mono ?_
            rintro e w7 ⟨rfl, hb7⟩
            have HB7 : Hid (Below w.heap.size w w7) := show Below _ _ _ from HBw.out.trans (hb7.mono HBw.out.size)
            clear hb7
            go_wp2_with fail
            go_ret2
            rw [HR2.out]
            exact ⟨rfl, HB7.out⟩
end Go.Proofs.YtbeooeihedhabaaDoor
