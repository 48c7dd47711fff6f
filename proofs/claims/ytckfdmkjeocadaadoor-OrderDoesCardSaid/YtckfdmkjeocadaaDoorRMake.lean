/- cavalcaderef19.Make: what the call does. -/
import Derived.Test.YtckfdmkjeocadaaDoorR19
import Derived.Test.YtckfdmkjeocadaaDoorWq
import Derived.Test.YtckfdmkjeocadaaDoorRLink
import Derived.Test.YtckfdmkjeocadaaDoorRSign
import Derived.Deep.DeepCutAuto
namespace Go.Proofs.YtckfdmkjeocadaaDoor
open Go.RowKit
set_option maxHeartbeats 4000000
set_option maxRecDepth 4000
/-- what Make holds: its row of receipts, its result's block -/
structure RmAt (w W : World) (base : Nat) (v : Value) (rs : List RC) : Prop where
  b : Below w.heap.size w W
  own : W.ownsRow base 61 68 v rs.length (rcells rs)
  z : W.heap[w.heap.size]? = some (.cells zlRc.toArray 61 (0, 0))
theorem RmAt.next {w W W' : World} {base : Nat} {v : Value} {rs : List RC} (h : RmAt w W base v rs) (hb : Below W.heap.size W W') : RmAt w W' base v rs := ⟨bw_call h.b hb, own_below h.own hb (Nat.le_refl _), keep_row hb h.z⟩
theorem from_late {rs : List RC} {nx : List Int} {kind time : Int} {body : ByteArray} (h : isLate rs time = true) : fromOf rs nx kind body time = (0, 33) := if_pos h
theorem from_else {rs : List RC} {nx : List Int} {kind time : Int} {body : ByteArray} (h : isLate rs time = false) (hk : kind ≠ 1) : fromOf rs nx kind body time = (-1, 0) := by rw [fromOf, h, if_neg (by decide), if_neg hk]
theorem from_tx {rs : List RC} {nx : List Int} {kind time : Int} {body : ByteArray} (h : isLate rs time = false) (hk : kind = 1) : fromOf rs nx kind body time = theirs nx body := by rw [fromOf, h, if_neg (by decide), if_pos hk]
theorem mk_link {rs : List RC} {nx : List Int} {kind time : Int} {body : ByteArray} (h : (fromOf rs nx kind body time).2 = 0) : mkRc rs nx kind body time = linkRes (headOf rs) rs.length kind time body ∧ mkErr rs nx kind body time = linkErr (headOf rs) rs.length kind time body := ⟨if_pos h, if_pos h⟩
theorem mk_none {rs : List RC} {nx : List Int} {kind time : Int} {body : ByteArray} {x e : Int} (h : fromOf rs nx kind body time = (x, e)) (he : e ≠ 0) : mkRc rs nx kind body time = RC.zero ∧ mkErr rs nx kind body time = e := by
  unfold mkRc mkErr
  rw [h]
  exact ⟨if_neg he, if_neg he⟩
theorem zn64_get : ∀ k, k < 64 → zn64.getD k 0 = 0 := by decide
theorem their_tx {rs : List RC} {body : ByteArray} {t : TX} (hr : rdTx body = .ok t) : theirs (cnt rs) body = if t.signed = 0 then (if t.nonce = (nextCnt rs t.frm : Nat) then (t.frm, 0) else (0, 22)) else (0, 21) := by
  have hf := frm_of hr
  obtain ⟨k, hk⟩ : ∃ k : Nat, t.frm = k := ⟨t.frm.toNat, by omega⟩
  have h1 := cnt_next rs zn64 k (by omega) rfl
  rw [zn64_get k (by omega), Int.zero_add] at h1
  unfold theirs
  rw [hr]
  dsimp only
  rw [hk, Int.toNat_natCast, cnt, h1]
theorem their_bad {nx : List Int} {body : ByteArray} {x : Int} (hr : rdTx body = .error x) : theirs nx body = (0, 6) := by
  unfold theirs
  rw [hr]
theorem rmake_any (base : Nat) (v : Value) (rs : List RC) (kind time : Int) (body : ByteArray) (w : World) (hO : w.ownsRow base 61 68 v rs.length (rcells rs)) (hwf : ∀ r ∈ rs, r.wf) (hsm : rs.length ≤ 1000) (h1 : i64ok kind) (h2 : i64ok time) (hs : body.size ≤ 140737488351232) :
    Calls Tryd.prog 49 #[v, .int .i64 kind, .string body, .int .i64 time] w fun e w' => e = .returned (.tuple #[.agg (mkRc rs (cnt rs) kind body time).cells.toArray, .int .i64 (mkErr rs (cnt rs) kind body time)]) ∧ Below w.heap.size w w' := by
  have HTHE : Hid (∀ t, rdTx body = .ok t → theirs (cnt rs) body = if t.signed = 0 then (if t.nonce = (nextCnt rs t.frm : Nat) then (t.frm, 0) else (0, 22)) else (0, 21)) := show ∀ t, _ from fun t => their_tx
  have HFO : Hid (fromOf rs (cnt rs) kind body time = if isLate rs time = true then (0, 33) else if kind = 1 then theirs (cnt rs) body else (-1, 0)) := show _ = _ from rfl
  have HLINK := Lib.hid (mk_link (rs := rs) (nx := cnt rs) (kind := kind) (time := time) (body := body))
  have HNONE : Hid (∀ x e, fromOf rs (cnt rs) kind body time = (x, e) → e ≠ 0 → mkRc rs (cnt rs) kind body time = RC.zero ∧ mkErr rs (cnt rs) kind body time = e) := show ∀ x e, _ from fun x e => mk_none
  have HBS := Lib.hid hs
  have HRC : Hid (linkRes (headOf rs) rs.length kind time body).wf := show _ from linkRes_wf (rc0_wf hwf hsm h1 h2 hs)
  have HLK : Hid (∀ W, Calls Tryd.prog 42 #[.agg (u8s (headOf rs)).toArray, .int .i64 rs.length, .int .i64 kind, .int .i64 time, .string body] W fun e w' => e = .returned (.tuple #[.agg (linkRes (headOf rs) rs.length kind time body).cells.toArray, .int .i64 (linkErr (headOf rs) rs.length kind time body)]) ∧ Below W.heap.size W w') := show ∀ W, _ from fun W => rlink_any _ _ _ _ _ W (rc0_wf hwf hsm h1 h2 hs)
  have HHL : Hid ((headOf rs).length = 32) := show _ = _ from headOf_length hwf
  have HHD : Hid (∀ n r, rs.length = n + 1 → rs[n]? = some r → headOf rs = r.hash) := show ∀ n r, _ from fun n r hn h => by
    unfold headOf
    rw [show rs.length - 1 = n by omega, h]
  have HLT : Hid (∀ n r, rs.length = n + 1 → rs[n]? = some r → isLate rs time = decide (time < r.time)) := show ∀ n r, _ from fun n r hn h => by
    unfold isLate
    rw [show rs.length - 1 = n by omega, h]
  have HL0 : Hid (rs = [] → isLate rs time = false ∧ headOf rs = z32) := show _ → _ from fun h => by subst h; exact ⟨rfl, rfl⟩
  obtain ⟨q, c, rfl, hq⟩ := own_rcs2 hO
  obtain ⟨hd, hhd⟩ : ∃ x, x = headOf rs := ⟨_, rfl⟩
  obtain ⟨lr, hlr⟩ : ∃ x, x = linkRes (headOf rs) rs.length kind time body := ⟨_, rfl⟩
  obtain ⟨le, hle⟩ : ∃ x, x = linkErr (headOf rs) rs.length kind time body := ⟨_, rfl⟩
  obtain ⟨er, her⟩ : ∃ x, x = mkErr rs (cnt rs) kind body time := ⟨_, rfl⟩
  obtain ⟨mr, hmr⟩ : ∃ x, x = mkRc rs (cnt rs) kind body time := ⟨_, rfl⟩
  rw [← her, ← hmr] at HLINK HNONE ⊢
  rw [← hlr] at HRC
  rw [← hlr, ← hle] at HLK HLINK
  rw [← hhd] at HLK HHL HHD HL0
  obtain ⟨m, hm⟩ : ∃ m, m = rs.length := ⟨_, rfl⟩
  obtain ⟨lt, hlt⟩ : ∃ x, x = isLate rs time := ⟨_, rfl⟩
  rw [← hlt] at HFO HLT HL0
  rw [← hm] at HLK HHD HLT
  obtain ⟨bs, hbs⟩ : ∃ x : Nat, x = base := ⟨_, rfl⟩
  have HO : Hid (w.ownsRow bs 61 68 (.slice q m c) rs.length (rcells rs)) := show World.ownsRow _ _ _ _ _ _ _ from by rw [hm, hbs]; exact hO
  have HQ := Lib.hid hq
  have HWF := Lib.hid hwf
  have HM := Lib.hid hm
  have HRL : Hid (lr.cells.length = zlRc.length) := show _ = _ from rc_len HRC.out
  rw [← hm] at hsm ⊢
  have hz0 := heap_alloc_new w (.cells zlRc.toArray 61)
  have hA0 : RmAt w (w.alloc (.cells Tryd.zeroCells61 61)) bs (.slice q m c) rs := ⟨bw_alloc (Below.refl _ _) _, own_below HO.out (bw_alloc (Below.refl _ _) _) (Nat.le_refl _), hz0⟩
  have HA1 := Lib.hid (hA0.next (bw_alloc (Below.refl _ _) (.cells zl32.toArray 23)))
  have hz1 : ((w.alloc (.cells Tryd.zeroCells61 61)).alloc (.cells zl32.toArray 23)).heap[w.heap.size + 1]? = some (.cells zl32.toArray 23 (0, 0)) := heap_alloc2_new w _ _
  have HOB0 : Hid (∀ k, (Value.slice q m c).ownBlock = some k → k < w.heap.size) := show ∀ k, _ from fun k hk => (HO.out.lt k hk).2
  clear hO hq hwf hm hhd hlr hle her hmr hlt hbs hz0 HO hs h1 h2 hA0
  go_enter Tryd.func49, Tryd.ntmps49
  go_upto_if 17 with (first
    | (with_reducible refine wpList_build rfl 23 [] rfl [] (.agg zl32.toArray) rfl (hash0_build _) ?_)
    | ((with_reducible refine wpList_store_whole rfl 23 (.tmp 10) (.tmp 14) rfl (w.heap.size + 1) zl32 zl32 23 rfl rfl hz1 rfl (by rw [zl32_eq]; exact hash_info z32_length) zl32_one ?_); intro w1 hU1))
  obtain ⟨b10, hb10⟩ : ∃ x, x = w.heap.size + 1 := ⟨_, rfl⟩
  have HWB : w.heap.size < b10 := by omega
  have HOB1 : Hid (∀ k, (Value.slice q m c).ownBlock = some k → k < b10) := show ∀ k, _ from fun k hk => Nat.lt_trans (HOB0.out k hk) HWB
  have HP1 : Hid (w1.heap[b10]? = some (.cells zl32.toArray 23 (0, 0))) := show _ = _ from by rw [hb10]; exact hU1.out.at_
  have HA1 : Hid (RmAt w w1 bs (.slice q m c) rs) := show RmAt _ _ _ _ _ from by
    have hA := HA1.out
    rw [← hb10] at hU1
    exact ⟨hU1.out.below hA.b (by omega), own_other hA.own (fun k hk => hU1.out.other _ (by have := HOB1.out k hk; omega)), (hU1.out.other w.heap.size (by omega)).trans hA.z⟩
  rw [← hb10]
  clear hb10 hU1 hz1
  go_cut [10] (fun p10 wx => p10 = .pointer (some ⟨b10, 0, none⟩) ∧ Hid (lt = false) ∧ Hid (RmAt w wx bs (.slice q m c) rs) ∧ Hid (wx.heap[b10]? = some (.cells (u8s hd).toArray 23 (0, 0))))
  case first =>
    by_cases hm0 : m = 0
    · subst hm0
      have hrs : rs = [] := List.length_eq_zero_iff.1 HM.out.symm
      have hd0 : decide ((0 : Int) < (0 : Nat)) = false := rfl
      have HLF : Hid (lt = false) := show _ = _ from (HL0.out hrs).1
      have HPF : Hid (w1.heap[b10]? = some (.cells (u8s hd).toArray 23 (0, 0))) := show _ = _ from by rw [(HL0.out hrs).2]; exact HP1.out
      clear hrs
      go_wp2_with fail
      go_meet
      case rel => exact ⟨rfl, HLF, HA1, HPF⟩
    · obtain ⟨n, rfl⟩ : ∃ n, m = n + 1 := ⟨m - 1, by omega⟩
      have hnl : n < rs.length := by have := HM.out; omega
      obtain ⟨q9, c9, e9, hq9⟩ := own_rcs2 HA1.out.own
      injection e9 with e91 e92 e93
      subst e91 e93
      rcases hq9 with h | ⟨g, rfl, hrow, -, -, -⟩
      · exact absurd hnl (by rw [h]; simp)
      obtain ⟨cur, fr, hg, hat⟩ := hrow.one HWF.out n hnl
      obtain ⟨r, hr⟩ : ∃ r, r = rs[n]'hnl := ⟨_, rfl⟩
      have HHR : Hid (hd = r.hash ∧ lt = decide (time < r.time)) := show _ ∧ _ from ⟨HHD.out n r rfl (by rw [hr]; exact List.getElem?_eq_getElem hnl), HLT.out n r rfl (by rw [hr]; exact List.getElem?_eq_getElem hnl)⟩
      rw [← hr] at hat
      have HRW : Hid r.wf := show _ from by rw [hr]; exact HWF.out _ (List.getElem_mem hnl)
      have HRG : Hid (w1.rangeAt g (n * 68) r.cells) := show World.rangeAt _ _ _ _ from range_row hg (fun x v hv => by have := hat x v hv; rw [Nat.zero_add] at this; exact this)
      have hd0 : decide ((0 : Int) < (n + 1 : Nat)) = true := decide_eq_true (by omega)
      have e1 : IntKind.i64.wrap (((n + 1 : Nat) : Int) - 1) = (n : Int) := by rw [show ((n + 1 : Nat) : Int) - 1 = n by omega]; exact IntWalk.i64_in _ (by omega)
      have f0 : (0 : Int) ≤ n := by omega
      have f1 : (n : Int) < (n + 1 : Nat) := by omega
      have hz2 : (w1.alloc (.cells Tryd.zeroCells61 61)).heap[w1.heap.size]? = some (.cells zlRc.toArray 61 (0, 0)) := heap_alloc_new w1 _
      have HRL2 : Hid (r.cells.length = zlRc.length) := show _ = _ from rc_len HRW.out
      have hl1 := HA1.out.b.size
      have hb10 := block_lt HP1.out
      have HA2 := Lib.hid (HA1.out.next (bw_alloc (Below.refl _ _) (.cells Tryd.zeroCells61 61)))
      have HP2 := Lib.hid (keep_row (bw_alloc (Below.refl _ _) (.cells Tryd.zeroCells61 61)) HP1.out)
      have hwz := block_lt HA1.out.z
      have hwb : w.heap.size < b10 := HWB
      have HOB : Hid (∀ k, (Value.slice (some ⟨g, 0, none⟩) (n + 1) c).ownBlock = some k → k < b10) := HOB1
      clear hrow hg hat hr hnl e92 hm0
      go_upto_if 27 with (first
        | (with_reducible refine wpList_load_mid rfl 61 (.tmp 22) rfl g (n * 68) rfl r.cells _ HRG.out Tryd.underlying61 rfl (rc_info HRW.out) ?_)
        | ((with_reducible refine wpList_store_whole rfl 61 (.tmp 11) (.tmp 23) rfl w1.heap.size r.cells zlRc 61 rfl rfl hz2 HRL2.out (rc_info HRW.out) (rc_one _) ?_); intro w3 hU3; have hT3 := hU3.out.at_; have ct : w3.cell? ⟨w1.heap.size, 2, none⟩ = some (.int .i64 r.time) := (by rw [cell_of_row w3 _ 2 _ _ _ hT3]; rfl); clear hz2))
      generalize w1.heap.size = b11 at *
      by_cases hlate : time < r.time
      · have hd1 : decide (time < r.time) = true := decide_eq_true hlate
        rw [hd1]
        have HF := Lib.hid (HNONE.out 0 33 (by rw [HFO.out, HHR.out.2, decide_eq_true hlate, if_pos rfl]) (by decide))
        have HZ3 := Lib.hid ((hU3.out.other w.heap.size (by omega)).trans HA2.out.z)
        have HB3 := Lib.hid (hU3.out.below HA2.out.b (by omega))
        clear hlate hT3
        go_wp2_with (first
          | (with_reducible refine wpList_build rfl 61 [] rfl [] (.agg zlRc.toArray) rfl (rc_build0 _) ?_)
          | ((with_reducible refine wpList_store_whole rfl 61 (.tmp 8) (.tmp 28) rfl w.heap.size zlRc zlRc 61 rfl rfl HZ3.out rfl zlRc_info zlRc_one ?_); intro w5 hU5))
        exact post_cell_tmp 8 9 61 rfl w.heap.size _ zlRc _ _ hU5.out.at_ Tryd.underlying61 rfl zlRc_info (.int .i64 33) rfl rfl rfl ⟨by rw [HF.out.1, HF.out.2]; rfl, hU5.out.below HB3.out (Nat.le_refl _)⟩
      · have hd1 : decide (time < r.time) = false := decide_eq_false hlate
        rw [hd1]
        have HLF : Hid (lt = false) := show _ = _ by rw [HHR.out.2, decide_eq_false hlate]
        have HP3 := Lib.hid ((hU3.out.other b10 (by omega)).trans HP2.out)
        have HA3 : Hid (RmAt w w3 bs (.slice (some ⟨g, 0, none⟩) (n + 1) c) rs) := show RmAt _ _ _ _ _ from ⟨hU3.out.below HA2.out.b (by omega), own_other HA2.out.own (fun k hk => hU3.out.other _ (by have := HOB.out k hk; omega)), (hU3.out.other w.heap.size (by omega)).trans HA2.out.z⟩
        have HHL2 : Hid (r.hash.length = 32) := show _ = _ from HRW.out.hash
        have HZL : Hid ((u8s r.hash).length = zl32.length) := show _ = _ from by rw [u8s_length, HHL2.out]; rfl
        clear hlate
        go_wp2_with (first
          | (with_reducible refine wpList_load_rows rfl 23 (.tmp 29) rfl b11 36 (u8s r.hash) r.cells 61 (0, 0) _ rfl hT3 (RC.at_hash HRW.out.prev) Tryd.underlying23 rfl (hash_info HHL2.out) ?_)
          | ((with_reducible refine wpList_store_whole rfl 23 (.tmp 10) (.tmp 30) rfl b10 (u8s r.hash) zl32 23 rfl rfl HP3.out HZL.out (hash_info HHL2.out) (u8s_one _) ?_); intro w5 hU5))
        have HP5 : Hid (w5.heap[b10]? = some (.cells (u8s hd).toArray 23 (0, 0))) := show _ = _ from by rw [HHR.out.1]; exact hU5.out.at_
        have HA5 : Hid (RmAt w w5 bs (.slice (some ⟨g, 0, none⟩) (n + 1) c) rs) := show RmAt _ _ _ _ _ from ⟨hU5.out.below HA3.out.b (Nat.le_of_lt hwb), own_other HA3.out.own (fun k hk => hU5.out.other _ (by have := HOB.out k hk; omega)), (hU5.out.other w.heap.size (by omega)).trans HA3.out.z⟩
        clear hT3
        go_wp2_with fail
        go_meet
        case rel => exact ⟨rfl, HLF, HA5, HP5⟩
  case rest =>
    obtain ⟨rfl, HLF, HA, HP⟩ := hcut
    by_cases hk : kind = 1
    · have hd1 : (kind == 1) = true := by simpa using hk
      have HFO2 : Hid (fromOf rs (cnt rs) kind body time = theirs (cnt rs) body) := show _ = _ by rw [HFO.out, HLF.out, if_neg (by decide), if_pos hk]
      clear hk
      go_wp2_with fail
      refine (rread_any body _ (Nat.le_trans HBS.out (by decide))).mono ?_
      rintro e w2 ⟨rfl, hb2⟩
      have HA2 := Lib.hid ((HA.out.next hb2).next (bw_alloc (Below.refl _ _) (.cells Tryd.zeroCells25 25)))
      have HP2 := Lib.hid (keep_row (bw_alloc (Below.refl _ _) (.cells Tryd.zeroCells25 25)) (keep_row hb2 HP.out))
      have hz2 : (w2.alloc (.cells Tryd.zeroCells25 25)).heap[w2.heap.size]? = some (.cells zlTx.toArray 25 (0, 0)) := heap_alloc_new w2 _
      have hnb : w.heap.size < w2.heap.size ∧ b10 < w2.heap.size := ⟨block_lt (HA.out.next hb2).z, block_lt (keep_row hb2 HP.out)⟩
      have HOB : Hid (∀ k, (Value.slice q m c).ownBlock = some k → k < w2.heap.size) := show ∀ k, _ from fun k hk => ((HA.out.next hb2).own.lt k hk).2
      clear hb2
      cases hrd : rdTx body with
      | error x =>
        have hx0 : (x == 0) = false := by have := rdTx_err hrd; simpa using this
        have hx1 : (x != 0) = true := by have := rdTx_err hrd; simpa using this
        have HF := Lib.hid (HNONE.out 0 6 (by rw [HFO2.out, their_bad hrd]) (by decide))
        simp only [txOf, errOf]
        clear hrd
        go_upto_if 39 with ((with_reducible refine wpList_store_whole rfl 25 (.tmp 12) (.tmp 36) rfl w2.heap.size TX.zero.cells zlTx 25 rfl rfl hz2 rfl (tx_info TX.zero_wf) (start_one _) ?_); intro w3 hU3; have HA3 : Hid (RmAt w w3 bs (.slice q m c) rs) := (show RmAt _ _ _ _ _ from ⟨hU3.out.below HA2.out.b (by omega), own_other HA2.out.own (fun k hk => hU3.out.other _ (by have := HOB.out k hk; omega)), (hU3.out.other w.heap.size (by omega)).trans HA2.out.z⟩); clear hz2)
        have hz9 := HA3.out.z
        go_wp2_with (first
          | (with_reducible refine wpList_build rfl 61 [] rfl [] (.agg zlRc.toArray) rfl (rc_build0 _) ?_)
          | ((with_reducible refine wpList_store_whole rfl 61 (.tmp 8) (.tmp 40) rfl w.heap.size zlRc zlRc 61 rfl rfl hz9 rfl zlRc_info zlRc_one ?_); intro w10 hU10))
        exact post_cell_tmp 8 9 61 rfl w.heap.size _ zlRc _ _ hU10.out.at_ Tryd.underlying61 rfl zlRc_info (.int .i64 6) rfl rfl rfl ⟨by rw [HF.out.1, HF.out.2]; rfl, hU10.out.below HA3.out.b (Nat.le_refl _)⟩
      | ok t =>
        have HTW : Hid t.wf := show _ from (tx_back hrd).1
        have HTL : Hid (t.cells.length = zlTx.length) := show _ = _ from t.cells_length HTW.out.by_ HTW.out.tag
        have HFT : Hid (fromOf rs (cnt rs) kind body time = if t.signed = 0 then (if t.nonce = (nextCnt rs t.frm : Nat) then (t.frm, 0) else (0, 22)) else (0, 21)) := show _ = _ by rw [HFO2.out, HTHE.out t hrd]
        simp only [txOf, errOf]
        clear hrd
        go_wp2_with (first
          | ((with_reducible refine wpList_store_whole rfl 25 (.tmp 12) (.tmp 36) rfl w2.heap.size t.cells zlTx 25 rfl rfl hz2 HTL.out (tx_info HTW.out) (start_one _) ?_); intro w3 hU3; have HA3 : Hid (RmAt w w3 bs (.slice q m c) rs) := (show RmAt _ _ _ _ _ from ⟨hU3.out.below HA2.out.b (by omega), own_other HA2.out.own (fun k hk => hU3.out.other _ (by have := HOB.out k hk; omega)), (hU3.out.other w.heap.size (by omega)).trans HA2.out.z⟩); have hT3 := hU3.out.at_; have HP3 := Lib.hid ((hU3.out.other b10 (by omega)).trans HP2.out); clear hz2)
          | (with_reducible refine wpList_load_rows rfl 25 (.tmp 12) rfl w2.heap.size 0 t.cells t.cells 25 (0, 0) _ rfl hT3 id_at Tryd.underlying25 rfl (tx_info HTW.out) ?_))
        refine (rsigned_any t _ HTW.out).mono ?_
        rintro e w4 ⟨rfl, hb4⟩
        have HA4 := Lib.hid (HA3.out.next hb4)
        have HP4 := Lib.hid (keep_row hb4 HP3.out)
        have hT4 := keep_row hb4 hT3
        clear hb4 hT3
        generalize w2.heap.size = b12 at *
        by_cases hsg : t.signed = 0
        · have hd2 : (t.signed != 0) = false := by simpa using hsg
          have HFT2 : Hid (fromOf rs (cnt rs) kind body time = (if t.nonce = (nextCnt rs t.frm : Nat) then (t.frm, 0) else (0, 22))) := show _ = _ by rw [HFT.out, if_pos hsg]
          have c0 : w4.cell? ⟨b12, 0, none⟩ = some (.int .i64 t.frm) := by rw [cell_of_row w4 b12 0 _ _ _ hT4]; rfl
          have c1 : w4.cell? ⟨b12, 1, none⟩ = some (.int .i64 t.nonce) := by rw [cell_of_row w4 b12 1 _ _ _ hT4]; rfl
          clear hsg hT4
          go_wp2_with fail
          refine wp_region_classW (fun W => RmAt w W bs (.slice q m c) rs ∧ W.cell? ⟨b12, 0, none⟩ = some (.int .i64 t.frm) ∧ W.cell? ⟨b12, 1, none⟩ = some (.int .i64 t.nonce) ∧ W.heap[b10]? = some (.cells (u8s hd).toArray 23 (0, 0))) (by kernel_rfl) (by kernel_rfl) ⟨HA4.out.next (Below.refl _ _).drew, c0, c1, HP4.out⟩ ?_
          refine WQ.gen (v := ?_) (by kernel_rfl) ?_ ?_
          rotate_left
          · intro W hC
            go_simp
            try with_reducible rfl
          refine WQ.eq (a' := ?_) ?_ ?_
          rotate_left
          · try simp only [Act.put, List.setIfInBounds_toArray, List.set_cons_zero, List.set_cons_succ]
            exact rfl
          refine WQ.gen (v := ?_) (by kernel_rfl) ?_ ?_
          rotate_left
          · intro W hC
            go_simp
            try with_reducible rfl
          refine WQ.eq (a' := ?_) ?_ ?_
          rotate_left
          · try simp only [Act.put, List.setIfInBounds_toArray, List.set_cons_zero, List.set_cons_succ]
            exact rfl
          refine WQ.gen (v := ?_) (by kernel_rfl) ?_ ?_
          rotate_left
          · intro W hC
            go_simp
            try with_reducible rfl
          refine WQ.eq (a' := ?_) ?_ ?_
          rotate_left
          · try simp only [Act.put, List.setIfInBounds_toArray, List.set_cons_zero, List.set_cons_succ]
            exact rfl
          refine WQ.gen (v := ?_) (by kernel_rfl) ?_ ?_
          rotate_left
          · intro W hC
            go_simp
            try with_reducible rfl
          refine WQ.eq (a' := ?_) ?_ ?_
          rotate_left
          · try simp only [Act.put, List.setIfInBounds_toArray, List.set_cons_zero, List.set_cons_succ]
            exact rfl
          refine WQ.gen (v := ?_) (by kernel_rfl) ?_ ?_
          rotate_left
          · intro W hC
            go_simp
            try with_reducible rfl
          refine WQ.eq (a' := ?_) ?_ ?_
          rotate_left
          · try simp only [Act.put, List.setIfInBounds_toArray, List.set_cons_zero, List.set_cons_succ]
            exact rfl
          refine WQ.call (f := 53) (args := #[.slice q m c, .int .i64 t.frm]) (v := .int .i64 (nextCnt rs t.frm : Nat)) (by kernel_rfl) (fun W hC => ?_) (fun W hC => ?_) ?_
          · go_simp
            try with_reducible rfl
          · have hO := hC.1.own
            exact (rnext_any bs (.slice q m c) rs t.frm W hO HWF.out (by have := HM.out; omega)).mono (fun e W' h => ⟨h.1, hC.1.next h.2, (h.2.cell (block_of_cell hC.2.1)).trans hC.2.1, (h.2.cell (block_of_cell hC.2.2.1)).trans hC.2.2.1, keep_row h.2 hC.2.2.2⟩)
          refine WQ.eq (a' := ?_) ?_ ?_
          rotate_left
          · try simp only [Act.put, List.setIfInBounds_toArray, List.set_cons_zero, List.set_cons_succ]
            exact rfl
          refine WQ.gen (v := ?_) (by kernel_rfl) ?_ ?_
          rotate_left
          · intro W hC
            go_simp
            try with_reducible rfl
          refine WQ.eq (a' := ?_) ?_ ?_
          rotate_left
          · try simp only [Act.put, List.setIfInBounds_toArray, List.set_cons_zero, List.set_cons_succ]
            exact rfl
          refine WQ.nil ?_
          rintro w5 ⟨hA5, -, -, hP5⟩
          have HA5 := Lib.hid hA5
          have HP5 := Lib.hid hP5
          clear hA5 hP5 c0 c1
          by_cases hn : t.nonce = (nextCnt rs t.frm : Nat)
          · have hd3 : (t.nonce != ((nextCnt rs t.frm : Nat) : Int)) = false := by simpa using hn
            have HF := Lib.hid (HLINK.out (by rw [HFT2.out, if_pos hn]))
            clear hn
            go_wp2_with (with_reducible refine wpList_load_rows rfl 23 (.tmp 10) rfl b10 0 (u8s hd) (u8s hd) 23 (0, 0) _ rfl HP5.out id_at Tryd.underlying23 rfl (hash_info HHL.out) ?_)
            refine (HLK.out _).mono ?_
            rintro e w9 ⟨rfl, hb9⟩
            have hA9 := HA5.out.next hb9
            have hz9 := hA9.z
            have HB9 := Lib.hid hA9.b
            clear hb9 hA9
            go_wp2_with ((with_reducible refine wpList_store_whole rfl 61 (.tmp 8) (.tmp 60) rfl w.heap.size lr.cells zlRc 61 rfl rfl hz9 HRL.out (rc_info HRC.out) (rc_one _) ?_); intro w10 hU10)
            exact post_cell_tmp 8 9 61 rfl w.heap.size _ lr.cells _ _ hU10.out.at_ Tryd.underlying61 rfl (rc_info HRC.out) (.int .i64 le) rfl rfl rfl ⟨by rw [HF.out.1, HF.out.2], hU10.out.below HB9.out (Nat.le_refl _)⟩
          · have hd3 : (t.nonce != ((nextCnt rs t.frm : Nat) : Int)) = true := by simpa using hn
            have HF := Lib.hid (HNONE.out 0 22 (by rw [HFT2.out, if_neg hn]) (by decide))
            clear hn
            have hz9 := HA5.out.z
            go_wp2_with (first
              | (with_reducible refine wpList_build rfl 61 [] rfl [] (.agg zlRc.toArray) rfl (rc_build0 _) ?_)
              | ((with_reducible refine wpList_store_whole rfl 61 (.tmp 8) (.tmp 52) rfl w.heap.size zlRc zlRc 61 rfl rfl hz9 rfl zlRc_info zlRc_one ?_); intro w10 hU10))
            exact post_cell_tmp 8 9 61 rfl w.heap.size _ zlRc _ _ hU10.out.at_ Tryd.underlying61 rfl zlRc_info (.int .i64 22) rfl rfl rfl ⟨by rw [HF.out.1, HF.out.2]; rfl, hU10.out.below HA5.out.b (Nat.le_refl _)⟩
        · have hd2 : (t.signed != 0) = true := by simpa using hsg
          have HF := Lib.hid (HNONE.out 0 21 (by rw [HFT.out, if_neg hsg]) (by decide))
          clear hsg hT4
          have hz9 := HA4.out.z
          go_wp2_with (first
            | (with_reducible refine wpList_build rfl 61 [] rfl [] (.agg zlRc.toArray) rfl (rc_build0 _) ?_)
            | ((with_reducible refine wpList_store_whole rfl 61 (.tmp 8) (.tmp 44) rfl w.heap.size zlRc zlRc 61 rfl rfl hz9 rfl zlRc_info zlRc_one ?_); intro w10 hU10))
          exact post_cell_tmp 8 9 61 rfl w.heap.size _ zlRc _ _ hU10.out.at_ Tryd.underlying61 rfl zlRc_info (.int .i64 21) rfl rfl rfl ⟨by rw [HF.out.1, HF.out.2]; rfl, hU10.out.below HA4.out.b (Nat.le_refl _)⟩
    · have hd1 : (kind == 1) = false := by simpa using hk
      have HF := Lib.hid (HLINK.out (by rw [HFO.out, HLF.out, if_neg (by decide), if_neg hk]))
      clear hk
      go_wp2_with (with_reducible refine wpList_load_rows rfl 23 (.tmp 10) rfl b10 0 (u8s hd) (u8s hd) 23 (0, 0) _ rfl HP.out id_at Tryd.underlying23 rfl (hash_info HHL.out) ?_)
      refine (HLK.out _).mono ?_
      rintro e w9 ⟨rfl, hb9⟩
      have hA9 := HA.out.next hb9
      have hz9 := hA9.z
      have HB9 := Lib.hid hA9.b
      clear hb9 hA9
      go_wp2_with ((with_reducible refine wpList_store_whole rfl 61 (.tmp 8) (.tmp 60) rfl w.heap.size lr.cells zlRc 61 rfl rfl hz9 HRL.out (rc_info HRC.out) (rc_one _) ?_); intro w10 hU10)
      exact post_cell_tmp 8 9 61 rfl w.heap.size _ lr.cells _ _ hU10.out.at_ Tryd.underlying61 rfl (rc_info HRC.out) (.int .i64 le) rfl rfl rfl ⟨by rw [HF.out.1, HF.out.2], hU10.out.below HB9.out (Nat.le_refl _)⟩
end Go.Proofs.YtckfdmkjeocadaaDoor
