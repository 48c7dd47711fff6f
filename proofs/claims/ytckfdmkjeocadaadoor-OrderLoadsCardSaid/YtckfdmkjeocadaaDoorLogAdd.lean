/- order's Add, Load: what the calls do. -/
import Derived.Test.YtckfdmkjeocadaaDoorOrdPure
namespace Go.Proofs.YtckfdmkjeocadaaDoor
open Go.RowKit
set_option maxHeartbeats 2000000
set_option maxRecDepth 4000
theorem OwnNew.refl (w : World) (v : Value) : OwnNew w v v := fun _ h => .inl h
theorem LgAt.lts {W : World} {base l : Nat} {sv : Value} {rs : List RC} {nx : List Int} (h : LgAt W base l sv rs nx) : l < W.heap.size ∧ ∀ k, sv.ownBlock = some k → k < W.heap.size := ⟨block_lt h.row, fun k hk => (h.own.lt k hk).2⟩
theorem LgAt.upd {W W' : World} {base l : Nat} {sv : Value} {rs : List RC} {nx : List Int} (h : LgAt W base l sv rs nx) {b : Nat} {o : Obj} (hU : Upd W W' b o) (hl : b ≠ l) (ho : sv.ownBlock ≠ some b) : LgAt W' base l sv rs nx := by
  refine ⟨h.len, (hU.other _ (Ne.symm hl)).trans h.row, ⟨h.own.1, ?_⟩, h.wf, h.lt, h.small, h.nxb⟩
  rcases h.own.2 with h2 | ⟨g, cap, cur, h1, h2, h3, r⟩
  · exact .inl h2
  · exact .inr ⟨g, cap, cur, h1, h2, (hU.other g (fun e => ho (by rw [h1, ← e]; rfl))).trans h3, r⟩
theorem LgTurn.upd {w W W' : World} {l : Nat} {sv : Value} (h : LgTurn w W l sv) {b : Nat} {o : Obj} (hU : Upd W W' b o) (hb : w.heap.size ≤ b) : LgTurn w W' l sv :=
  ⟨hU.os.trans h.os, hU.tape.trans h.tape, hU.output.trans h.output, by rw [hU.size]; exact h.size, fun k hk h1 h2 => (hU.other k (by omega)).trans (h.block k hk h1 h2)⟩
theorem rc_eqG (op : BinOp) (x y : Operand) (xs ys : Array Value) (w : World) : (eqGuard op 61 x y (.agg xs) (.agg ys)).run Tryd.prog w = .ok () w := run_eqGuard_agg w op _ x y xs ys (by kernel_rfl)
theorem rc_eql {t u : RC} (ht : t.wf) (hu : u.wf) (w : World) : (binOp .eql 61 (.agg t.cells.toArray) (.agg u.cells.toArray)).run Tryd.prog w = .ok (.bool (decide (t = u))) w := by
  rw [run_eql_struct, rc_eq ht hu]
  rfl
theorem rc_neq {t u : RC} (ht : t.wf) (hu : u.wf) (w : World) : (binOp .neq 61 (.agg t.cells.toArray) (.agg u.cells.toArray)).run Tryd.prog w = .ok (.bool !(decide (t = u))) w := by
  rw [run_neq_struct, rc_eq ht hu]
  rfl
theorem add_any (base l : Nat) (sv : Value) (rs : List RC) (kind : Int) (body : ByteArray) (time : Int) (w : World) (hL : LgAt w base l sv rs (cnt rs)) (h1 : i64ok kind) (h2 : i64ok time) (hs : body.size ≤ 140737488351232) (hR : RoundsAt w) (hn : rs.length < 1000) (hbs : base ≤ w.heap.size) :
    Calls Tryd.prog 50 #[.pointer (some ⟨l, 0, none⟩), .int .i64 kind, .string body, .int .i64 time] w fun e w' =>
      e = .returned (.tuple #[.agg (mkRc rs (cnt rs) kind body time).cells.toArray, .int .i64 (mkErr rs (cnt rs) kind body time)]) ∧ (∃ sv', LgAt w' base l sv' (nextRs rs kind body time) (cnt (nextRs rs kind body time)) ∧ OwnNew w sv sv') ∧ LgTurn w w' l sv := by
  have hz0 : (w.alloc (.cells Tryd.zeroCells61 61)).heap[w.heap.size]? = some (.cells zlRc.toArray 61 (0, 0)) := heap_alloc_new _ _
  have hB0 := bw_alloc (Below.refl w.heap.size w) (.cells Tryd.zeroCells61 61)
  have HMK := Lib.hid (make_any base l sv rs (cnt rs) kind body time _ (hL.below hB0) h1 h2 hs (hR.below hB0 hR.1))
  have HRW : Hid (mkRc rs (cnt rs) kind body time).wf := show _ from mkRc_wf hL.wf hL.small h1 h2 hs
  have HWH : Hid (mkWho rs (cnt rs) kind body time < 64) := show _ < _ from mkWho_lt _ _ _ _ _
  have HOK : Hid (mkErr rs (cnt rs) kind body time = 0 → nextRs rs kind body time = rs ++ [mkRc rs (cnt rs) kind body time] ∧ bump (cnt rs) (mkWho rs (cnt rs) kind body time) = cnt (rs ++ [mkRc rs (cnt rs) kind body time])) := show _ → _ from next_ok
  have HBAD : Hid (mkErr rs (cnt rs) kind body time ≠ 0 → nextRs rs kind body time = rs ∧ mkRc rs (cnt rs) kind body time = RC.zero) := show _ → _ from fun h => ⟨next_bad h, mk_bad h⟩
  obtain ⟨nrs, hnrs⟩ : ∃ x, x = nextRs rs kind body time := ⟨_, rfl⟩
  obtain ⟨r, hr⟩ : ∃ x, x = mkRc rs (cnt rs) kind body time := ⟨_, rfl⟩
  obtain ⟨wh, hwh⟩ : ∃ x, x = mkWho rs (cnt rs) kind body time := ⟨_, rfl⟩
  obtain ⟨er, her⟩ : ∃ x, x = mkErr rs (cnt rs) kind body time := ⟨_, rfl⟩
  rw [← hr, ← hwh, ← her] at HMK
  rw [← hr] at HRW
  rw [← hwh] at HWH
  rw [← hnrs, ← hr, ← hwh, ← her] at HOK
  rw [← hnrs, ← hr, ← her] at HBAD
  rw [← hnrs, ← hr, ← her]
  have HL := Lib.hid hL
  have HR := Lib.hid hR
  have HB0 := Lib.hid hB0
  have HRL : Hid (r.cells.length = zlRc.length) := show _ = _ from rc_len HRW.out
  clear hnrs hr hwh her hL hR hB0
  by_cases he : er = 0
  · subst he
    have HQ := Lib.hid (HOK.out rfl)
    clear HOK HBAD
    go_enter Tryd.func50, Tryd.ntmps50
    go_wp2_with fail
    refine HMK.out.mono ?_
    rintro e w1 ⟨rfl, hb1⟩
    have hZ1 := keep_row hb1 hz0
    have hZ1a := (Below.heap_alloc w1 (.cells Tryd.zeroCells61 61) _ (block_lt hZ1)).trans hZ1
    have hz1 : (w1.alloc (.cells Tryd.zeroCells61 61)).heap[w1.heap.size]? = some (.cells zlRc.toArray 61 (0, 0)) := heap_alloc_new w1 _
    have HB1 := Lib.hid (bw_alloc (bw_call HB0.out hb1) (.cells Tryd.zeroCells61 61))
    have hn1 : w.heap.size ≠ w1.heap.size := Nat.ne_of_lt (block_lt hZ1)
    have hl1 : w.heap.size ≤ w1.heap.size := Nat.le_of_lt (block_lt hZ1)
    clear hb1 hz0 hZ1 HMK HB0
    go_wp2_with (first
      | ((with_reducible refine wpList_store_whole rfl 61 (.tmp 10) (.tmp 19) rfl w1.heap.size r.cells zlRc 61 rfl rfl hz1 HRL.out (rc_info HRW.out) (rc_one _) ?_); intro w2 hU2; have hT2 := hU2.out.at_; have hZ2 := (hU2.out.other _ hn1).trans hZ1a; have HB2 := Lib.hid (hU2.out.below HB1.out hl1); clear hz1 hZ1a)
      | (with_reducible refine wpList_load_rows rfl 61 (.tmp 10) rfl w1.heap.size 0 r.cells r.cells 61 (0, 0) _ rfl hT2 id_at Tryd.underlying61 rfl (rc_info HRW.out) ?_))
    have HL2 := Lib.hid (HL.out.below HB2.out)
    refine (lput_any base l sv rs (cnt rs) r wh _ HL2.out HRW.out hn HWH.out (Nat.le_trans hbs HB2.out.size)).mono ?_
    rintro e w4 ⟨rfl, ⟨sv4, hL4, hnw4⟩, hT4⟩
    have hlt := HL.out.lts
    have hb2 := block_lt hT2
    have ho1 : ∀ k, w.heap.size ≤ k → k < w2.heap.size → k ≠ l ∧ some k ≠ sv.ownBlock ∧ sv4.ownBlock ≠ some k := fun k h1 h2 => ⟨by omega, fun h => by have := hlt.2 k h.symm; omega, fun h => by
      rcases hnw4 k h with h3 | h3
      · have := hlt.2 k h3; omega
      · omega⟩
    have hB4 := (hT4.block _ hb2 (ho1 _ hl1 hb2).1 (ho1 _ hl1 hb2).2.1).trans hT2
    have hZ4 := (hT4.block _ (block_lt hZ2) (ho1 _ (Nat.le_refl _) (block_lt hZ2)).1 (ho1 _ (Nat.le_refl _) (block_lt hZ2)).2.1).trans hZ2
    have HL4 : Hid (LgAt w4 base l sv4 nrs (cnt nrs)) := show LgAt _ _ _ _ _ _ from by rw [HQ.out.1, ← HQ.out.2]; exact hL4
    have HNW : Hid (OwnNew w sv sv4) := show OwnNew _ _ _ from fun k hk => (hnw4 k hk).imp id (fun h => Nat.le_trans HB2.out.size h)
    have HT4 := Lib.hid (LgTurn.after HB2.out hT4)
    have HNE : Hid (w.heap.size ≠ l ∧ sv4.ownBlock ≠ some w.heap.size) := show _ ∧ _ from ⟨(ho1 _ (Nat.le_refl _) (block_lt hZ2)).1, (ho1 _ (Nat.le_refl _) (block_lt hZ2)).2.2⟩
    clear hlt hb2 ho1 hL4 hnw4 hT4 hT2 hZ2 hU2 HL2
    go_wp2_with (first
      | (with_reducible refine wpList_load_rows rfl 61 (.tmp 10) rfl w1.heap.size 0 r.cells r.cells 61 (0, 0) _ rfl hB4 id_at Tryd.underlying61 rfl (rc_info HRW.out) ?_)
      | ((with_reducible refine wpList_store_whole rfl 61 (.tmp 8) (.tmp 30) rfl w.heap.size r.cells zlRc 61 rfl rfl hZ4 HRL.out (rc_info HRW.out) (rc_one _) ?_); intro w5 hU5))
    exact post_cell_tmp 8 9 61 rfl w.heap.size _ r.cells _ _ hU5.out.at_ Tryd.underlying61 rfl (rc_info HRW.out) (.int .i64 0) rfl rfl rfl ⟨rfl, ⟨sv4, HL4.out.upd hU5.out HNE.out.1 HNE.out.2, HNW.out⟩, HT4.out.upd hU5.out (Nat.le_refl _)⟩
  · have hd : (er != 0) = true := by simpa using he
    have HQ := Lib.hid (HBAD.out he)
    clear HOK HBAD he
    go_enter Tryd.func50, Tryd.ntmps50
    go_wp2_with fail
    refine HMK.out.mono ?_
    rintro e w1 ⟨rfl, hb1⟩
    have hZ1 := keep_row hb1 hz0
    have hZ1a := (Below.heap_alloc w1 (.cells Tryd.zeroCells61 61) _ (block_lt hZ1)).trans hZ1
    have hz1 : (w1.alloc (.cells Tryd.zeroCells61 61)).heap[w1.heap.size]? = some (.cells zlRc.toArray 61 (0, 0)) := heap_alloc_new w1 _
    have HB1 := Lib.hid (bw_alloc (bw_call HB0.out hb1) (.cells Tryd.zeroCells61 61))
    have hn1 : w.heap.size ≠ w1.heap.size := Nat.ne_of_lt (block_lt hZ1)
    have hl1 : w.heap.size ≤ w1.heap.size := Nat.le_of_lt (block_lt hZ1)
    clear hb1 hz0 hZ1 HMK HB0
    go_wp2_with (first
      | ((with_reducible refine wpList_store_whole rfl 61 (.tmp 10) (.tmp 19) rfl w1.heap.size r.cells zlRc 61 rfl rfl hz1 HRL.out (rc_info HRW.out) (rc_one _) ?_); intro w2 hU2; have hZ2 := (hU2.out.other _ hn1).trans hZ1a; have HB2 := Lib.hid (hU2.out.below HB1.out hl1); clear hz1 hZ1a)
      | (with_reducible refine wpList_build rfl 61 [] rfl [] (.agg zlRc.toArray) rfl (rc_build0 _) ?_)
      | ((with_reducible refine wpList_store_whole rfl 61 (.tmp 8) (.tmp 24) rfl w.heap.size zlRc zlRc 61 rfl rfl hZ2 rfl zlRc_info zlRc_one ?_); intro w5 hU5; have HB5 := Lib.hid (hU5.out.below HB2.out (Nat.le_refl _))))
    exact post_cell_tmp 8 9 61 rfl w.heap.size _ zlRc _ _ hU5.out.at_ Tryd.underlying61 rfl zlRc_info (.int .i64 er) rfl rfl rfl ⟨by rw [HQ.out.2]; rfl, ⟨sv, by rw [HQ.out.1]; exact HL.out.below HB5.out, OwnNew.refl _ _⟩, LgTurn.of l sv HB5.out⟩
theorem make_nil (kind : Int) (body : ByteArray) (time : Int) (w : World) :
    Calls Tryd.prog 85 #[.pointer none, .int .i64 kind, .string body, .int .i64 time] w fun e w' => e = .returned (.tuple #[.agg RC.zero.cells.toArray, .int .i64 0, .int .i64 1]) ∧ Below w.heap.size w w' := by
  have hz0 : (w.alloc (.cells Tryd.zeroCells61 61)).heap[w.heap.size]? = some (.cells zlRc.toArray 61 (0, 0)) := heap_alloc_new _ _
  have HB0 := Lib.hid (bw_alloc (Below.refl w.heap.size w) (.cells Tryd.zeroCells61 61))
  go_enter Tryd.func85, Tryd.ntmps85
  go_wp2_with fail
  refine (from_nil kind body time _).mono ?_
  rintro e w1 ⟨rfl, hb1⟩
  have hz := keep_row hb1 hz0
  have HB1 := Lib.hid (bw_call HB0.out hb1)
  clear hb1 hz0
  go_wp2_with (first
    | (with_reducible refine wpList_build rfl 61 [] rfl [] (.agg zlRc.toArray) rfl (rc_build0 _) ?_)
    | ((with_reducible refine wpList_store_whole rfl 61 (.tmp 8) (.tmp 24) rfl w.heap.size zlRc zlRc 61 rfl rfl hz rfl zlRc_info zlRc_one ?_); intro w6 hU6))
  exact post_cell_tmp2 8 9 10 61 rfl w.heap.size _ zlRc _ _ hU6.out.at_ Tryd.underlying61 rfl zlRc_info (.int .i64 0) (.int .i64 1) rfl rfl rfl rfl ⟨rfl, hU6.out.below HB1.out (Nat.le_refl _)⟩
theorem add_nil (kind : Int) (body : ByteArray) (time : Int) (w : World) :
    Calls Tryd.prog 50 #[.pointer none, .int .i64 kind, .string body, .int .i64 time] w fun e w' => e = .returned (.tuple #[.agg RC.zero.cells.toArray, .int .i64 1]) ∧ Below w.heap.size w w' := by
  have hz0 : (w.alloc (.cells Tryd.zeroCells61 61)).heap[w.heap.size]? = some (.cells zlRc.toArray 61 (0, 0)) := heap_alloc_new _ _
  have HB0 := Lib.hid (bw_alloc (Below.refl w.heap.size w) (.cells Tryd.zeroCells61 61))
  go_enter Tryd.func50, Tryd.ntmps50
  go_wp2_with fail
  refine (make_nil kind body time _).mono ?_
  rintro e w1 ⟨rfl, hb1⟩
  have hZ1 := keep_row hb1 hz0
  have hZ1a := (Below.heap_alloc w1 (.cells Tryd.zeroCells61 61) _ (block_lt hZ1)).trans hZ1
  have hz1 : (w1.alloc (.cells Tryd.zeroCells61 61)).heap[w1.heap.size]? = some (.cells zlRc.toArray 61 (0, 0)) := heap_alloc_new w1 _
  have HB1 := Lib.hid (bw_alloc (bw_call HB0.out hb1) (.cells Tryd.zeroCells61 61))
  have hn1 : w.heap.size ≠ w1.heap.size := Nat.ne_of_lt (block_lt hZ1)
  have hl1 : w.heap.size ≤ w1.heap.size := Nat.le_of_lt (block_lt hZ1)
  clear hb1 hz0 hZ1 HB0
  go_wp2_with (first
    | ((with_reducible refine wpList_store_whole rfl 61 (.tmp 10) (.tmp 19) rfl w1.heap.size RC.zero.cells zlRc 61 rfl rfl hz1 rfl (rc_info RC.zero_wf) (rc_one _) ?_); intro w2 hU2; have hZ2 := (hU2.out.other _ hn1).trans hZ1a; have HB2 := Lib.hid (hU2.out.below HB1.out hl1); clear hz1 hZ1a)
    | (with_reducible refine wpList_build rfl 61 [] rfl [] (.agg zlRc.toArray) rfl (rc_build0 _) ?_)
    | ((with_reducible refine wpList_store_whole rfl 61 (.tmp 8) (.tmp 24) rfl w.heap.size zlRc zlRc 61 rfl rfl hZ2 rfl zlRc_info zlRc_one ?_); intro w5 hU5; have HB5 := Lib.hid (hU5.out.below HB2.out (Nat.le_refl _))))
  exact post_cell_tmp 8 9 61 rfl w.heap.size _ zlRc _ _ hU5.out.at_ Tryd.underlying61 rfl zlRc_info (.int .i64 1) rfl rfl rfl ⟨rfl, HB5.out⟩
/-- what Load answers -/
def ldErr (rs : List RC) (r : RC) : Int := if OkStep rs r then 0 else 7
def loadRs (rs : List RC) (r : RC) : List RC := if OkStep rs r then rs ++ [r] else rs
theorem load_any (base l : Nat) (sv : Value) (rs : List RC) (r : RC) (w : World) (hL : LgAt w base l sv rs (cnt rs)) (hr : r.wf) (hR : RoundsAt w) (hn : rs.length < 1000) (hbs : base ≤ w.heap.size) :
    Calls Tryd.prog 46 #[.pointer (some ⟨l, 0, none⟩), .agg r.cells.toArray] w fun e w' =>
      e = .returned (.int .i64 (ldErr rs r)) ∧ (∃ sv', LgAt w' base l sv' (loadRs rs r) (cnt (loadRs rs r)) ∧ OwnNew w sv sv') ∧ LgTurn w w' l sv := by
  have hg0 := heap_alloc_new w (.cells r.cells.toArray 61)
  have hB0 := bw_alloc (Below.refl w.heap.size w) (.cells r.cells.toArray 61)
  have HMK := Lib.hid (make_any base l sv rs (cnt rs) r.kind r.body r.time _ (hL.below hB0) hr.kind hr.time hr.body (hR.below hB0 hR.1))
  have HQW : Hid (mkRc rs (cnt rs) r.kind r.body r.time).wf := show _ from mkRc_wf hL.wf hL.small hr.kind hr.time hr.body
  have HWH : Hid (mkWho rs (cnt rs) r.kind r.body r.time < 64) := show _ < _ from mkWho_lt _ _ _ _ _
  have HOK : Hid (mkErr rs (cnt rs) r.kind r.body r.time = 0 → mkRc rs (cnt rs) r.kind r.body r.time = r → ldErr rs r = 0 ∧ loadRs rs r = rs ++ [r] ∧ bump (cnt rs) (mkWho rs (cnt rs) r.kind r.body r.time) = cnt (rs ++ [r])) := show _ → _ from fun h1 h2 => ⟨if_pos ⟨h1, h2⟩, if_pos ⟨h1, h2⟩, by rw [(next_ok h1).2, h2]⟩
  have HBAD : Hid (¬ (mkErr rs (cnt rs) r.kind r.body r.time = 0 ∧ mkRc rs (cnt rs) r.kind r.body r.time = r) → ldErr rs r = 7 ∧ loadRs rs r = rs) := show _ → _ from fun h => ⟨if_neg h, if_neg h⟩
  obtain ⟨nrs, hnrs⟩ : ∃ x, x = loadRs rs r := ⟨_, rfl⟩
  obtain ⟨le, hle⟩ : ∃ x, x = ldErr rs r := ⟨_, rfl⟩
  obtain ⟨q, hq⟩ : ∃ x, x = mkRc rs (cnt rs) r.kind r.body r.time := ⟨_, rfl⟩
  obtain ⟨wh, hwh⟩ : ∃ x, x = mkWho rs (cnt rs) r.kind r.body r.time := ⟨_, rfl⟩
  obtain ⟨er, her⟩ : ∃ x, x = mkErr rs (cnt rs) r.kind r.body r.time := ⟨_, rfl⟩
  rw [← hq, ← hwh, ← her] at HMK
  rw [← hq] at HQW
  rw [← hwh] at HWH
  rw [← hnrs, ← hle, ← hq, ← hwh, ← her] at HOK
  rw [← hnrs, ← hle, ← hq, ← her] at HBAD
  rw [← hnrs, ← hle]
  have HL := Lib.hid hL
  have HR := Lib.hid hR
  have HRW := Lib.hid hr
  have HB0 := Lib.hid hB0
  have HRL : Hid (q.cells.length = zlRc.length) := show _ = _ from rc_len HQW.out
  have c1 : (w.alloc (.cells r.cells.toArray 61)).cell? ⟨w.heap.size, 1, none⟩ = some (.int .i64 r.kind) := by rw [cell_of_row _ w.heap.size 1 _ _ _ hg0]; rfl
  have c2 : (w.alloc (.cells r.cells.toArray 61)).cell? ⟨w.heap.size, 2, none⟩ = some (.int .i64 r.time) := by rw [cell_of_row _ w.heap.size 2 _ _ _ hg0]; rfl
  have c3 : (w.alloc (.cells r.cells.toArray 61)).cell? ⟨w.heap.size, 3, none⟩ = some (.string r.body) := by rw [cell_of_row _ w.heap.size 3 _ _ _ hg0]; rfl
  clear hnrs hle hq hwh her hL hR hB0 hr
  by_cases he : er = 0
  · by_cases hqr : q = r
    · subst he
      subst hqr
      have HQ := Lib.hid (HOK.out rfl rfl)
      clear HOK HBAD
      go_enter Tryd.func46, Tryd.ntmps46
      go_wp2_with fail
      refine HMK.out.mono ?_
      rintro e w1 ⟨rfl, hb1⟩
      have hZ1 := keep_row hb1 hg0
      have hZ1a := (Below.heap_alloc w1 (.cells Tryd.zeroCells61 61) _ (block_lt hZ1)).trans hZ1
      have hz1 : (w1.alloc (.cells Tryd.zeroCells61 61)).heap[w1.heap.size]? = some (.cells zlRc.toArray 61 (0, 0)) := heap_alloc_new w1 _
      have HB1 := Lib.hid (bw_alloc (bw_call HB0.out hb1) (.cells Tryd.zeroCells61 61))
      have hn1 : w.heap.size ≠ w1.heap.size := Nat.ne_of_lt (block_lt hZ1)
      have hl1 : w.heap.size ≤ w1.heap.size := Nat.le_of_lt (block_lt hZ1)
      clear hb1 hg0 hZ1 HMK HB0 c1 c2 c3
      go_wp2_with (first
        | ((with_reducible refine wpList_store_whole rfl 61 (.tmp 5) (.tmp 19) rfl w1.heap.size q.cells zlRc 61 rfl rfl hz1 HRL.out (rc_info HQW.out) (rc_one _) ?_); intro w2 hU2; have hT2 := hU2.out.at_; have hZ2 := (hU2.out.other _ hn1).trans hZ1a; have HB2 := Lib.hid (hU2.out.below HB1.out hl1); clear hz1 hZ1a)
        | (with_reducible refine wpList_load_rows_g (by kernel_rfl) 61 (.tmp 5) rfl w1.heap.size 0 q.cells q.cells 61 (0, 0) _ rfl hT2 id_at Tryd.underlying61 rfl (rc_info HQW.out) ?_)
        | (with_reducible refine wpList_load_rows_g (by kernel_rfl) 61 (.tmp 3) rfl w.heap.size 0 q.cells q.cells 61 (0, 0) _ rfl hZ2 id_at Tryd.underlying61 rfl (rc_info HQW.out) ?_)
        | ((with_reducible refine wpList_bin_g (by kernel_rfl) .neq 61 61 (.tmp 25) (.tmp 26) rfl (.agg q.cells.toArray) (.agg q.cells.toArray) (.bool !(decide (q = q))) rfl rfl (rc_eqG _ _ _ _ _ _) (rc_neq HQW.out HQW.out _) ?_); rw [decide_eq_true (rfl : q = q)]))
      have HL2 := Lib.hid (HL.out.below HB2.out)
      refine (lput_any base l sv rs (cnt rs) q wh _ HL2.out HQW.out hn HWH.out (Nat.le_trans hbs HB2.out.size)).mono ?_
      rintro e w4 ⟨rfl, ⟨sv4, hL4, hnw4⟩, hT4⟩
      have HL4 : Hid (LgAt w4 base l sv4 nrs (cnt nrs)) := show LgAt _ _ _ _ _ _ from by rw [HQ.out.2.1, ← HQ.out.2.2]; exact hL4
      have HNW : Hid (OwnNew w sv sv4) := show OwnNew _ _ _ from fun k hk => (hnw4 k hk).imp id (fun h => Nat.le_trans HB2.out.size h)
      have HT4 := Lib.hid (LgTurn.after HB2.out hT4)
      clear hL4 hnw4 hT4 hT2 hZ2 hU2 HL2
      go_wp2_with fail
      go_ret
      exact ⟨by rw [HQ.out.1]; rfl, ⟨sv4, HL4.out, HNW.out⟩, HT4.out⟩
    · have HQ := Lib.hid (HBAD.out (fun h => hqr h.2))
      have hd2 : decide (q = r) = false := decide_eq_false hqr
      subst he
      clear HOK HBAD hqr
      go_enter Tryd.func46, Tryd.ntmps46
      go_wp2_with fail
      refine HMK.out.mono ?_
      rintro e w1 ⟨rfl, hb1⟩
      have hZ1 := keep_row hb1 hg0
      have hZ1a := (Below.heap_alloc w1 (.cells Tryd.zeroCells61 61) _ (block_lt hZ1)).trans hZ1
      have hz1 : (w1.alloc (.cells Tryd.zeroCells61 61)).heap[w1.heap.size]? = some (.cells zlRc.toArray 61 (0, 0)) := heap_alloc_new w1 _
      have HB1 := Lib.hid (bw_alloc (bw_call HB0.out hb1) (.cells Tryd.zeroCells61 61))
      have hn1 : w.heap.size ≠ w1.heap.size := Nat.ne_of_lt (block_lt hZ1)
      have hl1 : w.heap.size ≤ w1.heap.size := Nat.le_of_lt (block_lt hZ1)
      clear hb1 hg0 hZ1 HMK HB0 c1 c2 c3
      go_wp2_with (first
        | ((with_reducible refine wpList_store_whole rfl 61 (.tmp 5) (.tmp 19) rfl w1.heap.size q.cells zlRc 61 rfl rfl hz1 HRL.out (rc_info HQW.out) (rc_one _) ?_); intro w2 hU2; have hT2 := hU2.out.at_; have hZ2 := (hU2.out.other _ hn1).trans hZ1a; have HB2 := Lib.hid (hU2.out.below HB1.out hl1); clear hz1 hZ1a)
        | (with_reducible refine wpList_load_rows_g (by kernel_rfl) 61 (.tmp 5) rfl w1.heap.size 0 q.cells q.cells 61 (0, 0) _ rfl hT2 id_at Tryd.underlying61 rfl (rc_info HQW.out) ?_)
        | (with_reducible refine wpList_load_rows_g (by kernel_rfl) 61 (.tmp 3) rfl w.heap.size 0 r.cells r.cells 61 (0, 0) _ rfl hZ2 id_at Tryd.underlying61 rfl (rc_info HRW.out) ?_)
        | ((with_reducible refine wpList_bin_g (by kernel_rfl) .neq 61 61 (.tmp 25) (.tmp 26) rfl (.agg q.cells.toArray) (.agg r.cells.toArray) (.bool !(decide (q = r))) rfl rfl (rc_eqG _ _ _ _ _ _) (rc_neq HQW.out HRW.out _) ?_); rw [hd2]))
      go_ret
      exact ⟨by rw [HQ.out.1]; rfl, ⟨sv, by rw [HQ.out.2]; exact HL.out.below HB2.out, OwnNew.refl _ _⟩, LgTurn.of l sv HB2.out⟩
  · have hd : (er != 0) = true := by simpa using he
    have HQ := Lib.hid (HBAD.out (fun h => he h.1))
    clear HOK HBAD he
    go_enter Tryd.func46, Tryd.ntmps46
    go_wp2_with fail
    refine HMK.out.mono ?_
    rintro e w1 ⟨rfl, hb1⟩
    have hz1 : (w1.alloc (.cells Tryd.zeroCells61 61)).heap[w1.heap.size]? = some (.cells zlRc.toArray 61 (0, 0)) := heap_alloc_new w1 _
    have HB1 := Lib.hid (bw_alloc (bw_call HB0.out hb1) (.cells Tryd.zeroCells61 61))
    have hl1 : w.heap.size ≤ w1.heap.size := (bw_call HB0.out hb1).size
    clear hb1 hg0 HMK HB0 c1 c2 c3
    go_wp2_with ((with_reducible refine wpList_store_whole rfl 61 (.tmp 5) (.tmp 19) rfl w1.heap.size q.cells zlRc 61 rfl rfl hz1 HRL.out (rc_info HQW.out) (rc_one _) ?_); intro w2 hU2; have HB2 := Lib.hid (hU2.out.below HB1.out hl1); clear hz1)
    go_ret
    exact ⟨by rw [HQ.out.1]; rfl, ⟨sv, by rw [HQ.out.2]; exact HL.out.below HB2.out, OwnNew.refl _ _⟩, LgTurn.of l sv HB2.out⟩
theorem load_nil (r : RC) (w : World) : Calls Tryd.prog 46 #[.pointer none, .agg r.cells.toArray] w fun e w' => e = .returned (.int .i64 1) ∧ Below w.heap.size w w' := by
  have HB0 := Lib.hid (bw_alloc (Below.refl w.heap.size w) (.cells r.cells.toArray 61))
  go_enter Tryd.func46, Tryd.ntmps46
  go_wp2_with fail
  go_ret
  exact ⟨rfl, HB0.out⟩
end Go.Proofs.YtckfdmkjeocadaaDoor
